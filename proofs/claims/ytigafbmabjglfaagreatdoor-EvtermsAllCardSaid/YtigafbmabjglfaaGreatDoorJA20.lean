import Derived.Test.YtigafbmabjglfaaGreatDoorJA19
import Derived.Shelf.GgSortFunc.Insertion
import Derived.Lib.SlicesCompact
import Derived.Laws.OwnMore
import Derived.Lib.SliceRun
namespace Go.Proofs.YtigafbmabjglfaaGreatDoor
open Go.RowKit Go.Sort Go.Shelf
section
variable {α : Type} [Inhabited α] (enc:α→Value) (w:World) (blk off m:Nat) (dk:Array α) (os:Array Obj)
end
noncomputable def FD (l:List Pd):Nat:=(l.map fun p=>p.ty.size).sum
theorem BO {l:List Pd}{p:Pd}(h:p∈l):p.ty.size≤FD l:=Tree.kO (fun p:Pd=>p.ty.size) h
theorem uj : (Tryz.prog.info? 55).map (fun i=>(i.zero,i.size,i.bytes))=some (some (.agg #[.string ⟨#[]⟩,.string ⟨#[]⟩,.int .i64 0,.slice none 0 0]),4,64):=by kernel_rfl
theorem BP (l:List Pd):∀u∈l.flatMap j8.f,u.oneCell'=true:=by
 intro u hu;obtain⟨p,-,hp⟩:=List.mem_flatMap.1 hu;have F0:u∈[encStr p.cls,encStr p.ty.aq,.int .i64 p.ty.var,.slice p.ty.A p.ty.args.length p.ty.cap]:=hp;simp at F0
 rcases F0 with rfl|rfl|rfl|rfl<;>rfl
theorem vT {w:World}{vb:Nat}{x:Pd}(h:w.heap[vb]?=some (.cells (j8.f x).toArray 55 (0,0))):Row w (some ⟨vb,0,none⟩) 4 1 (j8.f x):=by
 have h1:w.heap[vb]?=some (.cells ([x].flatMap j8.f).toArray 55 (0,0)):=by simpa using h
 have:=ak.block j8 [x] h1;unfold ak at this;exact(by simpa using this:Row w (some ⟨vb,0,none⟩) j8.k 1 (j8.f x))
structure uk (N:Nat) (w':World) (row:Option Nat) (s:List Pr) (l ds:List Pd):Prop where
 away:∀d∈ds,∀c,c<N→(∀x∈l,aC c x.ty=true)→aC c d.ty=true
 ty:∀d∈ds,aH w' d.ty
 off:∀d∈ds,∀c,row=some c→aC c d.ty=true
 is:ds.map (fun d=>(d.cls,d.ty.pure))=l.map fun x=>(x.cls,fZ (bF s) (bG s) x.ty)
theorem uk.len {N:Nat}{w':World}{row:Option Nat}{s:List Pr}{l ds:List Pd}(h:uk N w' row s l ds):ds.length=l.length:=by simpa using congrArg List.length h.is
def vU (s:List Pr) (l:List Pd):Prop:=∀x∈l,ax x.ty=true∧iD (bF s) (bG s) x.ty≤4096∧oU (bF s) (bG s) x.ty≤100
set_option maxRecDepth 10000
set_option maxHeartbeats 8000000
theorem Mb (p:Nat) (A:Option Addr) (cap:Nat) (s:List Pr) (B:Option Addr) (bc:Nat) (l:List Pd) (w:World) (hs:iN w p A cap s) (hsm:∀x∈s,ax x.ty=true) (hl:bg w B l) (hlen:l.length≤40000) (bT:vU s l) :
  Calls Tryz.prog 193 #[.pointer (some ⟨p,0,none⟩),.slice B l.length bc] w fun e w'=>(∃v ds,e=.returned (.tuple #[v,.int .i64 0])∧w'.ownsRow w.heap.size 55 4 v ds.length (ds.flatMap j8.f)∧uk w.heap.size w' v.ownBlock s l ds)∧Ext w w':=by
 obtain⟨i0,hi,hz0,hz1,hz2⟩:=info_parts uj;have HS:=aa hs;have xN:=aa hsm;have HL:=aa hl;have TQ:=aa bT;have P7:=aa (fun(x:Pd) (hx:x∈l) w' (e:Ext w w')=>aa (vS p A cap s x.ty w' (hs.ext e) hsm ((hl.all x hx).ty.ext e) (by have:=(aS (bT x hx).1).1;omega)));clear hs hsm hl bT;go_enter Tryz.func193,Tryz.ntmps193;go_wp2
 go_loopw [6,13] (fun v i wr=>∃(k:Nat) (ds:List Pd),k≤l.length∧i=.int .i64 k∧aiE (Ext w wr)∧aiE (wr.ownsRow w.heap.size 55 4 v ds.length (ds.flatMap j8.f))∧aiE (uk w.heap.size wr v.ownBlock s (l.take k) ds)) (fun _ i _=>l.length - (intOf i).toNat)
 case atStart=>exact⟨0,[],aiH _,rfl,aa (eR _),aa (World.ownsRow_nil _ _ _ _),aa ⟨by simp,by simp,by simp,rfl⟩⟩
 case round=>
  obtain⟨k,ds,hk,rfl,HX,HO,HD⟩:=hrel
  by_cases hlt:k<l.length
  ·have aN:(k:Int)<(l.length:Int):=by omega
   have cV:(0:Int)≤(k:Int):=by omega
   obtain⟨b,o,rfl,hb,q0,q1,q2,q3⟩:=(HL.o.ext HX.o).at_ hlt;have hm:=aiF hlt;have G8:=aa (P7.o _ hm);have Hx:=aa (HL.o.all _ hm);have Hpo:=aa (TQ.o _ hm);have dh:aiE (l.take (k+1)=l.take k++[l[k]'hlt]):=aa (aiJ hlt);have N2:ds.length≤40000:=by have:=HD.o.len;rw[List.length_take] at this;omega
   generalize l[k]'hlt=x at *;clear hm;unfold bl at G8;go_wp2_with fail;refine(G8.o _ (HX.o.alloc _)).o.mono ?_;rintro e w3 ⟨⟨u,n,rfl,hu⟩,hx3⟩;obtain⟨rfl,WX⟩:=hu.yes Hpo.o.1 Hpo.o.2;have Hu:=aa hu;have Hup:=aa WX;have X3:=aa ((HX.o.alloc _).trans hx3);have Zc:=aa ((eR wr).alloc _ |>.trans hx3);have S9:aiE (w3.heap[wr.heap.size]?=some (.cells #[encStr x.cls,encStr x.ty.aq,.int .i64 x.ty.var,.slice x.ty.A x.ty.args.length x.ty.cap] 55 (0,0))):=aa ((hx3.heap (by simp)).trans (ah wr _ _ rfl));have c0:w3.cell? ⟨wr.heap.size,0,none⟩=some (encStr x.cls):=ag S9.o 0;have aeE:=ae S9.o;clear hu WX hx3;go_wp2_with (at_builtin;refine aD _ rfl _ _ 27 rfl w.heap.size 55 i0 _ 4 64 Tryz.underlying27 hi hz0 hz1 hz2 rfl (by decide) u6 ds.length (ds.flatMap j8.f) rfl (aZ HO.o ?c1) (some ⟨w3.heap.size+1,0,none⟩) 1 1 (j8.f (Pd.mk x.cls u)) rfl ?c2 ?c3 ?c4 ?c5 ?c6 ?_)
   case c1=>exact(Zc.o.alloc _).alloc _
   case c2=>exact vT (ah _ _ _ (by simp))
   case c3=>have:=BP [Pd.mk x.cls u];simpa using this
   case c4=>unfold maxLen;omega
   case c5=>omega
   case c6=>exact aiM X3.o.size (by simp;omega)
   intro v5 w5 oX zf G9;have X5:=aa (Ext.app ((X3.o.alloc _).alloc _) zf (aZ HO.o ((Zc.o.alloc _).alloc _)) (aiG _));have O5:aiE (w5.ownsRow w.heap.size 55 4 v5 (ds++[Pd.mk x.cls u]).length ((ds++[Pd.mk x.cls u]).flatMap j8.f)):=aa (by rw[aiL,List.flatMap_append];simpa using oX);have D5:aiE (uk w.heap.size w5 v5.ownBlock s (l.take (k+1)) (ds++[Pd.mk x.cls u])):=aa (by
    have zn:=fun c (hc:u6.ownBlock=some c)=>HO.o.lt c hc
    have Zd:∀c,u6.ownBlock=some c→aC c u=true:=fun c hc=>Hu.o.away c (by have:=(zn c hc).2;simp;omega) (aP Hx.o.ty (zn c hc).1)
    have ke:∀d∈ds++[Pd.mk x.cls u],aH ((w3.alloc (.cells #[encStr u.aq,.int .i64 u.var,.slice u.A u.args.length u.cap] 53)).alloc (.cells (j8.f (Pd.mk x.cls u)).toArray 55)) d.ty∧∀c,u6.ownBlock=some c→aC c d.ty=true:=by
     intro d hd
     rcases List.mem_append.1 hd with hd|hd
     ·exact⟨(HD.o.ty d hd).ext ((Zc.o.alloc _).alloc _),fun c hc=>HD.o.off d hd c hc⟩
     ·rw[aiV] at hd;subst hd;exact⟨Hu.o.ty.ext (((eR _).alloc _).alloc _),Zd⟩
    refine⟨fun d hd c hc hx => ?_,fun d hd=>(ke d hd).1.grown zf (ke d hd).2,fun d hd c hc => ?_,?_⟩
    ·rw[dh.o] at hx
     rcases List.mem_append.1 hd with hd|hd
     ·exact HD.o.away d hd c hc (fun y hy=>hx y (List.mem_append.2 (.inl hy)))
     ·rw[aiV] at hd;subst hd;exact Hu.o.away c (by have:=HX.o.size;simp;omega) (hx x (by simp))
    ·rcases G9 with h1|h1
     ·exact(ke d hd).2 c (h1▸hc)
     ·rw[h1] at hc;injection hc with hc;exact aP (ke d hd).1 (by simp;omega)
    ·rw[dh.o,aiX,aiX,HD.o.is];simp[Hup.o])
   clear oX zf G9;go_wp2;go_roundw
   case rel=>exact⟨k+1,_,hlt,by go_num,X5,O5,D5⟩
   case measure=>simp[intOf];omega
  ·have bS:¬(k:Int)<(l.length:Int):=by omega
   have P8:aiE (uk w.heap.size wr u6.ownBlock s l ds):=aa (by have:=HD.o;rwa [aiK (by omega)] at this);go_wp2;go_ret2;exact⟨⟨_,rfl,ds,HO.o,P8.o⟩,HX.o⟩
set_option maxRecDepth 512
set_option maxHeartbeats 200000
theorem Mc (x:di) (G:Option Addr) (gc:Nat) (given:List Pd) (p:Pf):qL x G gc given 75 (bw x.af x.insts given p) p:=by
 induction p using Pf.ind with
 |h p ih=>
 cases h1:(p.kind == 1)
 ·cases h2:(p.kind == 2)
  ·cases h3:(p.kind == 3)
   ·exact Pv x G gc given p h1 h2 h3
   ·exact LM x G gc given p h1 h2 h3 (Px x G gc given p ih)
  ·exact LL x G gc given p h1 h2 (LN x G gc given p ih)
 ·exact LJ x G gc given p h1
theorem xO (W:World) (b:Nat) (a:Pd):W.grownBy (eK W b a) (some b):=by
 refine⟨rfl,rfl,rfl,by rw[zx];exact aiG _,fun k _ hk=>eh a (fun e=>hk (by rw[e]))⟩
theorem xP {w:World}{B p:Nat}(h:fh w B p (.slice none 0 0) []):iN w p none 0 []:=by
 obtain⟨A,cap,e,hs⟩:=h.sub;injection e with e1 _ e3;subst e1 e3;exact hs
structure TR (w w':World) (o:Option Pd) (b:Pd) (n:Int):Prop where
 yes:∀a,o=some a→n=0∧zw b a
 no:o=none→n=1∧b=⟨[],Ty.zero⟩
 gZ:dH w' b
 away:∀c,c<w.heap.size→(∀a,o=some a→aC c a.ty=true)→aC c b.ty=true
theorem um {y:World}{B b i:Nat}(h:b≠B) (v0 v1 v2:Value){u:Value}(k:y.cell? ⟨b,i,none⟩=some u):(((y.setCell ⟨B,0,none⟩ v0).setCell ⟨B,1,none⟩ v1).setCell ⟨B,2,none⟩ v2).cell? ⟨b,i,none⟩=some u:=by
 refine(World.cell?_of_block (a:=⟨b,i,none⟩) ?_).trans k;show(((y.setCell ⟨B,0,none⟩ v0).setCell ⟨B,1,none⟩ v1).setCell ⟨B,2,none⟩ v2).heap[b]?=y.heap[b]?;rw[Below.heap_setCell _ _ _ _ h,Below.heap_setCell _ _ _ _ h,Below.heap_setCell _ _ _ _ h]
theorem uo (t:Ty):fZ [] [] t=t.pure:=by
 induction t using Ty.ind with
 |h t ih=>
 have e:putAt [] [] t.var=none:=rfl;have el:t.args.map (fZ [] [])=t.args.map Ty.pure:=List.map_congr_left fun k hk=>ih k hk
 rw[eX,e,el]
 conv=>rhs;rw[Ty.aG]
 split
 ·rw[Option.getD_none,Ty.aG]
 ·rfl
theorem kW {w w':World}{t u:Ty}{n:Int}(hl:ax t=true) (hu:BN w w' [] t u n):n=0∧u.pure=t.pure:=by
 have h:=tV (vars:=[]) (types:=[]) (by simp) hl (uo t).symm;rw[hl] at h;have h:=h.symm;rw[aiT,decide_eq_true_eq,decide_eq_true_eq] at h;obtain⟨h1,h2⟩:=hu.yes hl h;exact⟨h1,h2.trans (uo t)⟩
structure jW (w W wx:World) (b:Nat) (t u:Ty):Prop where
 x:Ext W wx
 le:W.heap.size≤b
 box:aU wx b u
 ty:aH wx u
 is:u.pure=t.pure
 away:∀c,c<W.heap.size→aC c t=true→aC c u=true
theorem jW.behind {w W wc y:World}{t u:Ty}(hW:Ext W wc) (hx:Ext wc y) (hu:aH y u) (hp:u.pure=t.pure) (ha:∀c,c<wc.heap.size→aC c t=true→aC c u=true):jW w W (y.alloc (.cells #[encStr u.aq,.int .i64 u.var,.slice u.A u.args.length u.cap] 53)) y.heap.size t u:=
 ⟨(hW.trans hx).alloc _,(hW.trans hx).size,aU.new y u,hu.ext ((eR _).alloc _),hp,fun c hc=>ha c (by have:=hW.size;omega)⟩
theorem jW.ahead {w W wc y:World}{t u:Ty}{B:Nat}(hW:Ext W wc) (hx:Ext wc y) (hB:W.heap.size≤B) (hz:wc.heap[B]?=some (.cells #[.string ⟨#[]⟩,.int .i64 0,.slice none 0 0] 53 (0,0))) (ht:aH W t) (hu:aH y u) (hp:u.pure=t.pure)
  (ha:∀c,c<wc.heap.size→aC c t=true→aC c u=true) :
  jW w W (((y.setCell ⟨B,0,none⟩ (encStr u.aq)).setCell ⟨B,1,none⟩ (.int .i64 u.var)).setCell ⟨B,2,none⟩ (.slice u.A u.args.length u.cap)) B t u:=by
 obtain⟨h1,h2⟩:=WQ hW hx hB hz u;exact⟨h1,hB,h2,hu.grown (cf _ B 0 1 2 _ _ _) (fun c e=>by injection e with e;subst e;exact ha _ (ae hz) (aP ht hB)),hp,fun c hc=>ha c (by have:=hW.size;omega)⟩
set_option maxRecDepth 10000
set_option maxHeartbeats 8000000
theorem xQ (x:di) (G:Option Addr) (gc:Nat) (given:List Pd) (p:Pf) (w:World) (he:dJ w x) (hg:bg w G given) (hp:bW w p)
  (jb:w.cell? ⟨2,0,none⟩=some (.iface 201 (.agg #[.pointer (some ⟨4,77,none⟩)]))) :
  Calls Tryz.prog 46 #[eu x,.slice G given.length gc,bM p] w fun e w'=>(∃b n,e=.returned (.tuple #[fN b,.int .i64 n])∧TR w w' (bw x.af x.insts given p) b n)∧Ext w w':=by
 obtain⟨W,hW⟩:∃W,W=((w.alloc (.cells #[.slice x.D x.aA.length x.dc,.slice x.C x.af.length x.cc,.slice x.I x.insts.length x.ic] 26)).alloc (.cells #[.int .i64 p.kind,.int .i64 p.n,.slice p.T p.types.length p.tc,.slice p.A p.kids.length p.cap] 34)).alloc (.cells #[.string ⟨#[]⟩,.string ⟨#[]⟩,.int .i64 0,.slice none 0 0] 55):=⟨_,rfl⟩;have HW:=aa hW.symm;have X0:aiE (Ext w W):=aa (by rw[hW];exact(((eR _).alloc _).alloc _).alloc _);have B1:aiE (aI W w.heap.size x):=aa (by rw[hW];exact(aI.new w x).ext (((eR _).alloc _).alloc _));have B2:aiE (aO W (w.heap.size+1) p):=aa (by rw[hW];exact aO.ext (ah _ _ _ (by simp)) ((eR _).alloc _));have B3:aiE (W.heap[w.heap.size+1+1]?=some (.cells #[.string ⟨#[]⟩,.string ⟨#[]⟩,.int .i64 0,.slice none 0 0] 55)):=aa (by rw[hW];exact ah _ _ _ (by simp));have bR:aiE (W.heap.size=w.heap.size+3):=aa (by rw[hW];simp);have HG:=aa jb;have HP:=aa (Mc x G gc given p W (he.ext X0.o) (hg.ext X0.o) (hp.ext X0.o));have za:=aa (fun a (ha:bw x.af x.insts given p=some a)=>(aiI (ov he hg p hp a ha) (tX ha)));obtain⟨c0,c1,c2,c3⟩:=B2.o.cells;obtain⟨e0,e1,e2⟩:=B1.o.cells;clear hW he hg hp jb;unfold eu bM fN at *;generalize bw x.af x.insts given p=O at *;go_enter Tryz.func46,Tryz.ntmps46;go_upto_region 1 with fail;rw[HW.o];clear HW;go_wp2_with fail;refine HP.o.mono ?_;rintro e w2 ⟨⟨q,er,rfl,bT⟩,hx2⟩;have X2:=aa (X0.o.trans hx2);have B3:=aa ((hx2.heap (ae B3.o)).trans B3.o);have gS:=aa (ae B3.o);clear hx2 c0 c1 c2 c3 e0 e1 e2 HP B1 B2;go_upto_region 3 with fail;refine bJ ?_;intro W3 hW3;have E3:aiE (Ext w2 W3):=aa (by rw[hW3];exact((eR _).alloc _).alloc _);have D1:aiE (aR W3 w2.heap.size q):=aa (by rw[hW3];exact(aR.new w2 q).ext ((eR _).alloc _));have D2:aiE (W3.heap[w2.heap.size+1]?=some (.cells #[.int .i64 0] 140 (0,0))):=aa (by rw[hW3];exact ah _ _ _ (by simp));have X3:=aa (X2.o.trans E3.o);have B3:=aa ((E3.o.heap (ae B3.o)).trans B3.o);cases O with
 |none=>
  obtain rfl:=bT.none;clear bT;have k0:=ag D2.o 0;simp only[aiN,aiO] at k0;have kf:=ai D2.o 0;have HA:=aa (PE 1 (w2.heap.size+1) _ W3 (X3.o.cell HG.o) k0 kf);clear hW3;go_wp2_with fail;refine HA.o.mono ?_;rintro e y ⟨rfl,hy⟩;have hs2:=X2.o.size;have X4:aiE (Ext w y):=aa (by rw[hy];exact((((X3.o.setCell (by show _≤w2.heap.size+1;omega) _).alloc _).alloc _).alloc _).alloc _);have D3:aiE (y.heap[w2.heap.size+1]?=some (.cells #[.int .i64 1] 140 (0,0))):=aa (by
   rw[hy];refine(((((eR _).alloc _).alloc _).alloc _).alloc _ |>.heap ?_).trans ?_
   ·simp[World.setCell];exact ae D2.o
   ·have:=aw D2.o 0 (.int .i64 1);simpa using this)
  have B4:aiE (y.heap[w.heap.size+1+1]?=some (.cells #[.string ⟨#[]⟩,.string ⟨#[]⟩,.int .i64 0,.slice none 0 0] 55)):=aa (by
   rw[hy];refine(((((eR _).alloc _).alloc _).alloc _).alloc _ |>.heap ?_).trans ?_
   ·simp[World.setCell];exact ae B3.o
   ·rw[Below.heap_setCell _ _ _ _ (by show _≠w2.heap.size+1;have:=bR.o;have:=X0.o.size;have hx:w.heap.size+1+1<w2.heap.size:=gS.o;omega)];exact B3.o)
  clear hy HA k0 kf;have k0:=ag D3.o 0;simp only[aiN,aiO] at k0;obtain⟨y0,y1,y2,y3,eL,eO,eP,eQ⟩:=ay B4.o;have j9:=ae B4.o;have hk3:=ae D3.o;have hne:w.heap.size+1+1≠w2.heap.size+1:=by have:=gS.o;omega
  have Di:w2.heap.size+1≠w.heap.size+1+1:=by omega
  go_wp2
  go_region
  go_wp2;refine bodyPost_ret (v:=.tuple #[.agg #[.string ⟨#[]⟩,.string ⟨#[]⟩,.int .i64 0,.slice none 0 0],.int .i64 1]) ?_ rfl ⟨⟨⟨[],Ty.zero⟩,1,rfl,⟨fun a h=>by(cases h),fun _=>⟨rfl,rfl⟩,⟨aiH _,aH.zero _⟩,fun c _ _=>mv c⟩⟩,?_⟩
  ·simp[results,Tryz.f46,go_sem,y0,y1,y2,y3]
  ·exact(ar X4.o (by omega) _ _ _ _).drew
 |some a=>
  obtain⟨rfl,rfl⟩:=bT.some;clear bT hW3;rename Pd=>a
  obtain⟨Ha,gU⟩:=za.o a rfl;have Ha:=aa Ha;have hsz:a.ty.size≤900000:=by
   unfold dI at gU;rw[aiT] at gU;have:=(aS gU.2).1;omega
  have oV:aiE (ax a.ty=true):=aa (by unfold dI at gU;rw[aiT] at gU;exact gU.2);have HN:=aa (fun t w'=>PB t w');have TS:=aa (Ha.o.ty.ext X3.o);clear gU;obtain⟨a0,a1,a2,a3⟩:=D1.o.cells;have ha4:=D1.o.lt;go_wp2_with fail;refine(HN.o _ _).mono ?_;rintro e w4 ⟨rfl,hw⟩;rw[hw];clear hw w4;go_upto_region 5 with fail;have ei:=aa (fun w' (e:Ext W3 w')=>aiI (e.cell a1) (aiI (e.cell a2) (e.cell a3)));have ly:w2.heap.size≠W3.heap.size:=by omega
  go_cut [11,12] (fun s11 s12 wx=>∃(Oo:Nat) (u:Ty),s11=.pointer (some ⟨Oo,0,none⟩)∧aiE (jW w W3 wx Oo a.ty u))
  case first=>
   go_region_held3 (fun w'=>w'.cell? ⟨w2.heap.size,1,none⟩=some (encStr a.ty.aq)∧w'.cell? ⟨w2.heap.size,2,none⟩=some (.int .i64 a.ty.var)∧w'.cell? ⟨w2.heap.size,3,none⟩=some (.slice a.ty.A a.ty.args.length a.ty.cap)) (first|with_reducible assumption|(obtain⟨g1,g2,g3⟩:=kS;with_reducible exact⟨um Md _ _ _ g1,um Md _ _ _ g2,um Md _ _ _ g3⟩)|go_keep) (first
    |(
     go_at_call 77
     refine Calls.mono (GX _) ?_;rintro e y1 ⟨rfl,gq,hx1⟩;have HSub:=aa (xP gq)
     first
      |(have HSub:aiE (iN y1 (W3.heap.size+1) none 0 []):=aa (by have h:=HSub.o;have e:∀o,(W3.alloc o).drew.heap.size=W3.heap.size+1:=fun o=>World.size_alloc W3 o;rw[e] at h;exact h))
      |skip
     have E1:aiE (Ext W3 y1):=aa (by refine Ext.trans ?_ hx1;exact(by repeat(first|exact eR _|exact eA (by assumption) _|refine eA ?_ _|refine eM ?_ _ _|refine eD ?_|refine eN ?_ _)));have kS:=ei.o y1 E1.o
     (try (have hz1:=aa ((hx1.heap (ae (bI W3 _))).trans (bI W3 _))))
     clear gq hx1)
    |(
     go_at_call 78
     refine Calls.mono (vS _ none 0 [] a.ty _ (HSub.o.ext (by repeat(first|exact eR _|exact eA (by assumption) _|refine eA ?_ _|refine eM ?_ _ _|refine eD ?_|refine eN ?_ _))) (by simp) (TS.o.ext (E1.o.trans (by repeat(first|exact eR _|exact eA (by assumption) _|refine eA ?_ _|refine eM ?_ _ _|refine eD ?_|refine eN ?_ _)))) hsz) ?_;rintro e y2 ⟨⟨u,n,rfl,hu⟩,hx2⟩;have Ec:aiE (Ext y1 y2):=aa (by refine Ext.trans ?_ hx2;exact(by repeat(first|exact eR _|exact eA (by assumption) _|refine eA ?_ _|refine eM ?_ _ _|refine eD ?_|refine eN ?_ _)));have kS:=ei.o y2 (E1.o.trans Ec.o)
     first
      |(have hz:aiE (y2.heap[y1.heap.size]?=some (.cells #[.string ⟨#[]⟩,.int .i64 0,.slice none 0 0] 53 (0,0))):=aa (by with_reducible exact(hx2.heap (ae (ah y1 _ _ rfl))).trans (ah y1 _ _ rfl));have Md:w2.heap.size≠y1.heap.size:=by have:=E1.o.size;omega)
      |(have hz:=aa ((Ec.o.heap (ae hz1.o)).trans hz1.o);have Md:=ly)
      |skip
     try (have z0:=ag hz.o 0;have z1:=ag hz.o 1;have z2:=ag hz.o 2;have z3:=ai hz.o 0;have z4:=ai hz.o 1;have z5:=ai hz.o 2;simp only[aiN,aiO,aiP] at z0 z1 z2)))
   all_goals (go_wp2_with fail;go_meet;first
    |exact⟨y2.heap.size,u,rfl,aa (jW.behind E1.o hx2 hu.ty (kW oV.o hu).2 hu.away)⟩
    |exact⟨y1.heap.size,u,rfl,aa (jW.ahead (E1.o.trans ((eR _).alloc _)) hx2 E1.o.size (ah y1 _ _ rfl) TS.o hu.ty (kW oV.o hu).2 hu.away)⟩
    |exact⟨W3.heap.size,u,rfl,aa (jW.ahead E1.o hx2 (aiG _) hz1.o TS.o hu.ty (kW oV.o hu).2 hu.away)⟩)
  case rest=>
   obtain⟨Oo,u,rfl,HA⟩:=hcut;have XA:=aa (X3.o.trans HA.o.x);have B4:=aa ((HA.o.x.heap (ae B3.o)).trans B3.o);have D4:=aa (D1.o.ext HA.o.x);have hyW:=ae B3.o;clear a0 a1 a2 a3 ei;obtain⟨y0,y1,y2,y3,eL,eO,eP,eQ⟩:=ay B4.o;obtain⟨a0,-,-,-⟩:=D4.o.cells;have t0:=HA.o.box.c0;have t1:=HA.o.box.c1;have t2:=HA.o.box.c2;have P9:=aa (HA.o.away _ hyW (aP Ha.o.ty (by omega)));have Htg:=aa (HA.o.ty.grown (xO _ (w.heap.size+1+1) ⟨a.cls,u⟩) (fun c e=>by injection e with e;subst e;exact P9.o));have qD:=Ha.o.cls;have Hpw:aiE (∀c,c<w.heap.size→aC c a.ty=true→aC c u=true):=aa (fun c hc h=>HA.o.away c (by have:=X3.o.size;omega) h);have Me:=aa HA.o.is;go_wp2;refine bodyPost_ret (v:=.tuple #[.agg #[encStr a.cls,encStr u.aq,.int .i64 u.var,.slice u.A u.args.length u.cap],.int .i64 0]) ?_ rfl ⟨⟨⟨a.cls,u⟩,0,rfl,⟨fun a' h=>(by cases h;exact⟨rfl,rfl,Me.o⟩),fun h=>(by cases h),⟨qD,Htg.o⟩,fun c hc h=>Hpw.o c hc (h a rfl)⟩⟩,ar XA.o (by omega) _ _ _ _⟩;simp[results,Tryz.f46,go_sem,y0,y1,y2,y3]
set_option maxRecDepth 512
set_option maxHeartbeats 200000
theorem He {P:Program}{c:Code}{Q:Exit→Act→World→Prop}{a:Act}{w:World}(h:∀W,W=w→Code.wp P c Q a W):Code.wp P c Q a w:=h w rfl
noncomputable def uq : Ty→Bool:=Ty.qg fun t=>decide (t.args.length≤3000000000000)
theorem Hz (t:Ty):uq t=(decide (t.args.length≤3000000000000)&&t.args.all uq):=gR _ t
def jZ (c:Nat) (A:Option Addr) (n:Nat):Prop:=n≠0→∀a,A=some a→a.block≠c
theorem jZ.new {w:World}{A:Option Addr}{k n c:Nat}{l:List Value}(h:Row w A k n l) (hc:w.heap.size≤c):jZ c A n:=by
 intro hn a ha;obtain⟨b,o,e,hb,-⟩:=h.2 (by omega);subst ha;injection e with e;subst e;show b≠c;omega
inductive aJ (c:Nat):Pf→Prop
 |mk {t:Pf}(ty:jZ c t.T t.types.length) (ja:∀x∈t.types,aC c x=true) (k:jZ c t.A t.kids.length) (kids:∀k∈t.kids,aJ c k):aJ c t
section
variable {w w':World}{t:Pf}{c:Nat}
theorem aJ.ty (h:aJ c t):jZ c t.T t.types.length:=by cases h;assumption
theorem aJ.ja (h:aJ c t):∀x∈t.types,aC c x=true:=by cases h;assumption
theorem aJ.k (h:aJ c t):jZ c t.A t.kids.length:=by cases h;assumption
theorem aJ.kids (h:aJ c t):∀k∈t.kids,aJ c k:=by cases h;assumption
theorem dO (h:bW w t) (hc:w.heap.size≤c):aJ c t:=by
 induction h with
 |mk h _ ih=>exact .mk (jZ.new h.types.row hc) (fun x hx=>aP (h.types.args x hx) hc) (jZ.new h.row hc) ih
theorem bW.grown {row:Option Nat}(h:bW w t) (hg:w.grownBy w' row) (ha:∀c,row=some c→aJ c t):bW w' t:=by
 induction h with
 |mk h _ ih=>
  refine .mk ⟨h.FV,h.qj,h.le,h.max,⟨ew h.types.row hg (fun hn a hA e=>(ha _ e).ty hn a hA rfl),fun x hx=>(h.types.args x hx).grown hg (fun c e=>(ha c e).ja x hx)⟩,ew h.row hg (fun hn a hA e=>(ha _ e).k hn a hA rfl)⟩ (fun k hk=>ih k hk (fun c e=>(ha c e).kids k hk))
end
theorem xR : (Tryz.prog.info? 34).map (fun i=>(i.zero,i.size,i.bytes))=some (some (.agg #[.int .i64 0,.int .i64 0,.slice none 0 0,.slice none 0 0]),4,64):=by kernel_rfl
noncomputable def jX : Pf→Bool:=Pf.fold fun t l=>decide (t.types.length≤3000000000000)&&t.types.all uq&&l.all id
theorem xS (t:Pf):jX t=(decide (t.types.length≤3000000000000)&&t.types.all uq&&t.kids.all jX):=by
 unfold jX;rw[Pf.fold_eq,List.all_map];rfl
theorem kv {t:Pf}(h:jX t=true):t.types.length≤3000000000000∧(∀x∈t.types,uq x=true)∧∀k∈t.kids,jX k=true:=by
 rw[xS,aiT,aiT,decide_eq_true_eq,aiY,aiY] at h;exact⟨h.1.1,h.1.2,h.2⟩
structure sN (w w':World) (x:Pf.Pure) (u:Pf):Prop where
 gZ:bW w' u
 is:u.pure=x
 away:∀c,c<w.heap.size→aJ c u
theorem sN.ext {w w' w2:World}{x:Pf.Pure}{u:Pf}(h:sN w w' x u) (e:Ext w' w2):sN w w2 x u:=⟨h.gZ.ext e,h.is,h.away⟩
theorem sN.old {w w1 w':World}{x:Pf.Pure}{u:Pf}(h:sN w1 w' x u) (hs:w.heap.size≤w1.heap.size):sN w w' x u:=⟨h.gZ,h.is,fun c hc=>h.away c (by omega)⟩
section
variable {w w1 w2 w':World}{R:Nat→Prop}{l:List Pf.Pure}{us:List Pf}{t:Pf.Pure}{u:Pf}
end
set_option maxHeartbeats 1000000 in
theorem kX (A:Option Addr) (cap:Nat) (l:List aj) (x:aj) (w:World) (h:dP w A l) (hle:l.length≤9223372036854775807) :
  Calls Tryz.prog 196 #[.slice A l.length cap,encStr x] w fun e w'=>e=.returned (.bool (l.any (· == x)))∧w'=w:=by
 have Qa:aiE (∀j,j<l.length→(l.getD j [] == x)=true→l.any (· == x)=true):=aa (by
  intro j hj hb;rw[List.any_eq_true];exact⟨l.getD j [],by simp[hj],hb⟩)
 have TT:aiE ((∀j,j<l.length→(l.getD j [] == x)=false)→l.any (· == x)=false):=aa (by
  intro hall;rw[List.any_eq_false];intro s hs;obtain⟨j,hj,rfl⟩:=List.getElem_of_mem hs;have:=hall j hj;simpa [hj] using this)
 have Hr:=aa h;clear h;generalize l.any (· == x)=R at *;go_enter Tryz.func196,Tryz.ntmps196;go_wp2
 go_loop [5] (fun i=>∃j:Nat,j≤l.length∧i=.int .i64 j∧aiE (∀i,i<j→(l.getD i [] == x)=false)) (fun i=>l.length - (intOf i).toNat)
 case atStart=>exact⟨0,aiH _,rfl,aa (fun i hi=>absurd hi (by omega))⟩
 case round=>
  obtain⟨j,hj,rfl,Hj⟩:=hrel
  by_cases hlt:j<l.length
  ·obtain⟨b,o,rfl,hb,hc⟩:=Hr.o.at_ hlt;have aN:(j:Int)<(l.length:Int):=by omega
   generalize hy:l.getD j []=y at hc;have Hy:=aa hy;clear hy;cases hs:(y == x)
   ·go_wp2
    go_round
    case rel=>
     refine⟨j+1,hlt,by go_num,aa (fun i hi => ?_)⟩
     by_cases xj:i=j
     ·rw[xj,Hy.o];exact hs
     ·exact Hj.o i (by omega)
    case measure=>simp[intOf];omega
   ·have hR:=Qa.o j hlt (by rw[Hy.o];exact hs);subst hR;go_wp2;go_ret;exact⟨rfl,rfl⟩
  ·have bS:(l.length:Int)≤(j:Int):=by omega
   have hR:=TT.o (fun i hi=>Hj.o i (by omega));subst hR;go_wp2;go_ret;exact⟨rfl,rfl⟩
def iv (c t:aj):aj:=([64]:aj)++c++([64]:aj)++t
set_option maxRecDepth 10000
set_option maxHeartbeats 8000000
theorem Qb (c t:aj) (w:World) (hc:c.length≤1000000000000000000) (ht:t.length≤1000000000000000000) :
  Calls Tryz.prog 79 #[encStr c,encStr t] w fun e w'=>e=.returned (encStr (iv c t))∧w'=w:=by
 have hs1:¬((⟨[(64:UInt8)].toArray⟩:ByteArray).size+(⟨c.toArray⟩:ByteArray).size>9223372036854775807):=by rw[aB,aB];simp;omega
 have e1:=ByteArray.mk_append_mk [(64:UInt8)] c;have hs2:¬((⟨(64 :: c).toArray⟩:ByteArray).size+(⟨[(64:UInt8)].toArray⟩:ByteArray).size>9223372036854775807):=by rw[aB,aB];simp;omega
 have e2:=ByteArray.mk_append_mk (64 :: c) [(64:UInt8)];have hs3:¬((⟨(64 :: (c++[64])).toArray⟩:ByteArray).size+(⟨t.toArray⟩:ByteArray).size>9223372036854775807):=by rw[aB,aB];simp;omega
 have e3:=ByteArray.mk_append_mk (64 :: (c++[64])) t;go_enter Tryz.func79,Tryz.ntmps79;go_wp2;go_ret;exact⟨by simp[iv],rfl⟩
set_option maxRecDepth 512
set_option maxHeartbeats 200000
theorem xU (wr:World) (B:Nat) (a b:Tm) (g:Nat):((((((wr.setCell ⟨B,0,none⟩ (.int .i64 4)).setCell ⟨B,1,none⟩ (.int .i64 0)).setCell ⟨B,2,none⟩ (.string ⟨#[]⟩)).setCell ⟨B,3,none⟩ (.slice none 0 0)).setCell ⟨B,4,none⟩ (.slice none 0 0)).setCell ⟨B,5,none⟩ (.slice (some ⟨g,0,none⟩) 2 2))=cC wr B (gT a b g):=by
 unfold cC gT Tm.kind Tm.n Tm.name Tm.V Tm.vars Tm.vc Tm.T Tm.types Tm.tc Tm.A Tm.kids Tm.cap;rfl
theorem xV {W wr:World}{B:Nat}{a b:Tm}{v0 v1 v2 v3 v4 v5:Value}(hX:Ext W wr) (hB:av wr B a) (hZ:wr.heap[B+1]?=some (.cells #[v0,v1,v2,v3,v4,v5] 40 (0,0))) (ha:aQ wr a) (TU:az B a) (hb:aQ wr b) (hab:az B b) (BS:W.heap.size≤B){V V2:World}{g:Nat}(hV:V=cC wr B (gT a b g)) (hE:Ext V V2) (hg:g=V2.heap.size) :
  Ext W (V2.alloc (.cells #[.int .i64 a.kind,.int .i64 a.n,.string ⟨a.name.toArray⟩,.slice a.V a.vars.length a.vc,.slice a.T a.types.length a.tc,.slice a.A a.kids.length a.cap,.int .i64 b.kind,.int .i64 b.n,.string ⟨b.name.toArray⟩,.slice b.V b.vars.length b.vc,.slice b.T b.types.length b.tc,.slice b.A b.kids.length b.cap] 40))∧av (V2.alloc (.cells #[.int .i64 a.kind,.int .i64 a.n,.string ⟨a.name.toArray⟩,.slice a.V a.vars.length a.vc,.slice a.T a.types.length a.tc,.slice a.A a.kids.length a.cap,.int .i64 b.kind,.int .i64 b.n,.string ⟨b.name.toArray⟩,.slice b.V b.vars.length b.vc,.slice b.T b.types.length b.tc,.slice b.A b.kids.length b.cap] 40)) B (gT a b (g))∧(V2.alloc (.cells #[.int .i64 a.kind,.int .i64 a.n,.string ⟨a.name.toArray⟩,.slice a.V a.vars.length a.vc,.slice a.T a.types.length a.tc,.slice a.A a.kids.length a.cap,.int .i64 b.kind,.int .i64 b.n,.string ⟨b.name.toArray⟩,.slice b.V b.vars.length b.vc,.slice b.T b.types.length b.tc,.slice b.A b.kids.length b.cap] 40)).heap[B+1]?=some (.cells #[v0,v1,v2,v3,v4,v5] 40 (0,0))∧aQ (V2.alloc (.cells #[.int .i64 a.kind,.int .i64 a.n,.string ⟨a.name.toArray⟩,.slice a.V a.vars.length a.vc,.slice a.T a.types.length a.tc,.slice a.A a.kids.length a.cap,.int .i64 b.kind,.int .i64 b.n,.string ⟨b.name.toArray⟩,.slice b.V b.vars.length b.vc,.slice b.T b.types.length b.tc,.slice b.A b.kids.length b.cap] 40)) (gT a b (g)):=by
 have gr:=bh wr B (gT a b g);rw[←hV] at gr;have xr:av V B (gT a b g):=by rw[hV];exact gX _ hB
 have hz:V.heap[B+1]?=_:=(gr.block (B+1) (ae hZ) (fun e=>by injection e with e;omega)).trans hZ;have hE:Ext V (V2.alloc (.cells #[.int .i64 a.kind,.int .i64 a.n,.string ⟨a.name.toArray⟩,.slice a.V a.vars.length a.vc,.slice a.T a.types.length a.tc,.slice a.A a.kids.length a.cap,.int .i64 b.kind,.int .i64 b.n,.string ⟨b.name.toArray⟩,.slice b.V b.vars.length b.vc,.slice b.T b.types.length b.tc,.slice b.A b.kids.length b.cap] 40)):=hE.alloc _;exact⟨(hX.grown gr (fun c e=>by injection e with e;omega)).trans hE,xr.ext hE,(hE.heap (ae hz)).trans hz,
  LH ((ha.grown gr (fun c e=>by injection e with e;subst e;exact TU)).ext hE) ((hb.grown gr (fun c e=>by injection e with e;subst e;exact hab)).ext hE) (ah V2 _ _ hg)⟩
theorem DL {W wr:World}{B:Nat}{a b:Tm}{v0 v1 v2 v3 v4 v5:Value}(hX:Ext W wr) (hB:av wr B a) (hZ:wr.heap[B+1]?=some (.cells #[v0,v1,v2,v3,v4,v5] 40 (0,0))) (ha:aQ wr a) (TU:az B a) (hb:aQ wr b) (hab:az B b) (BS:W.heap.size≤B) :
  Ext W (((((((((wr.setCell ⟨B,0,none⟩ (.int .i64 4)).setCell ⟨B,1,none⟩ (.int .i64 0)).setCell ⟨B,2,none⟩ (.string ⟨#[]⟩)).setCell ⟨B,3,none⟩ (.slice none 0 0)).setCell ⟨B,4,none⟩ (.slice none 0 0)).setCell ⟨B,5,none⟩ (.slice (some ⟨wr.heap.size+1,0,none⟩) 2 2))).alloc (.cells #[.int .i64 b.kind,.int .i64 b.n,.string ⟨b.name.toArray⟩,.slice b.V b.vars.length b.vc,.slice b.T b.types.length b.tc,.slice b.A b.kids.length b.cap] 40)).alloc (.cells #[.int .i64 a.kind,.int .i64 a.n,.string ⟨a.name.toArray⟩,.slice a.V a.vars.length a.vc,.slice a.T a.types.length a.tc,.slice a.A a.kids.length a.cap,.int .i64 b.kind,.int .i64 b.n,.string ⟨b.name.toArray⟩,.slice b.V b.vars.length b.vc,.slice b.T b.types.length b.tc,.slice b.A b.kids.length b.cap] 40))∧av (((((((((wr.setCell ⟨B,0,none⟩ (.int .i64 4)).setCell ⟨B,1,none⟩ (.int .i64 0)).setCell ⟨B,2,none⟩ (.string ⟨#[]⟩)).setCell ⟨B,3,none⟩ (.slice none 0 0)).setCell ⟨B,4,none⟩ (.slice none 0 0)).setCell ⟨B,5,none⟩ (.slice (some ⟨wr.heap.size+1,0,none⟩) 2 2))).alloc (.cells #[.int .i64 b.kind,.int .i64 b.n,.string ⟨b.name.toArray⟩,.slice b.V b.vars.length b.vc,.slice b.T b.types.length b.tc,.slice b.A b.kids.length b.cap] 40)).alloc (.cells #[.int .i64 a.kind,.int .i64 a.n,.string ⟨a.name.toArray⟩,.slice a.V a.vars.length a.vc,.slice a.T a.types.length a.tc,.slice a.A a.kids.length a.cap,.int .i64 b.kind,.int .i64 b.n,.string ⟨b.name.toArray⟩,.slice b.V b.vars.length b.vc,.slice b.T b.types.length b.tc,.slice b.A b.kids.length b.cap] 40)) B (gT a b (wr.heap.size+1))∧(((((((((wr.setCell ⟨B,0,none⟩ (.int .i64 4)).setCell ⟨B,1,none⟩ (.int .i64 0)).setCell ⟨B,2,none⟩ (.string ⟨#[]⟩)).setCell ⟨B,3,none⟩ (.slice none 0 0)).setCell ⟨B,4,none⟩ (.slice none 0 0)).setCell ⟨B,5,none⟩ (.slice (some ⟨wr.heap.size+1,0,none⟩) 2 2))).alloc (.cells #[.int .i64 b.kind,.int .i64 b.n,.string ⟨b.name.toArray⟩,.slice b.V b.vars.length b.vc,.slice b.T b.types.length b.tc,.slice b.A b.kids.length b.cap] 40)).alloc (.cells #[.int .i64 a.kind,.int .i64 a.n,.string ⟨a.name.toArray⟩,.slice a.V a.vars.length a.vc,.slice a.T a.types.length a.tc,.slice a.A a.kids.length a.cap,.int .i64 b.kind,.int .i64 b.n,.string ⟨b.name.toArray⟩,.slice b.V b.vars.length b.vc,.slice b.T b.types.length b.tc,.slice b.A b.kids.length b.cap] 40)).heap[B+1]?=some (.cells #[v0,v1,v2,v3,v4,v5] 40 (0,0))∧aQ (((((((((wr.setCell ⟨B,0,none⟩ (.int .i64 4)).setCell ⟨B,1,none⟩ (.int .i64 0)).setCell ⟨B,2,none⟩ (.string ⟨#[]⟩)).setCell ⟨B,3,none⟩ (.slice none 0 0)).setCell ⟨B,4,none⟩ (.slice none 0 0)).setCell ⟨B,5,none⟩ (.slice (some ⟨wr.heap.size+1,0,none⟩) 2 2))).alloc (.cells #[.int .i64 b.kind,.int .i64 b.n,.string ⟨b.name.toArray⟩,.slice b.V b.vars.length b.vc,.slice b.T b.types.length b.tc,.slice b.A b.kids.length b.cap] 40)).alloc (.cells #[.int .i64 a.kind,.int .i64 a.n,.string ⟨a.name.toArray⟩,.slice a.V a.vars.length a.vc,.slice a.T a.types.length a.tc,.slice a.A a.kids.length a.cap,.int .i64 b.kind,.int .i64 b.n,.string ⟨b.name.toArray⟩,.slice b.V b.vars.length b.vc,.slice b.T b.types.length b.tc,.slice b.A b.kids.length b.cap] 40)) (gT a b (wr.heap.size+1)):=by
 have hV:=xU wr B a b (wr.heap.size+1);generalize ((((((wr.setCell ⟨B,0,none⟩ (.int .i64 4)).setCell ⟨B,1,none⟩ (.int .i64 0)).setCell ⟨B,2,none⟩ (.string ⟨#[]⟩)).setCell ⟨B,3,none⟩ (.slice none 0 0)).setCell ⟨B,4,none⟩ (.slice none 0 0)).setCell ⟨B,5,none⟩ (.slice (some ⟨wr.heap.size+1,0,none⟩) 2 2))=V at *;have hsz:V.heap.size=wr.heap.size:=by rw[hV,fP]
 exact xV hX hB hZ ha TU hb hab BS hV ((eR V).alloc _) (by simp[hsz])
theorem DM {W wr:World}{B:Nat}{a b:Tm}{v0 v1 v2 v3 v4 v5:Value}(hX:Ext W wr) (hB:av wr B a) (hZ:wr.heap[B+1]?=some (.cells #[v0,v1,v2,v3,v4,v5] 40 (0,0))) (ha:aQ wr a) (TU:az B a) (hb:aQ wr b) (hab:az B b) (BS:W.heap.size≤B) :
  Ext W ((((((((wr.setCell ⟨B,0,none⟩ (.int .i64 4)).setCell ⟨B,1,none⟩ (.int .i64 0)).setCell ⟨B,2,none⟩ (.string ⟨#[]⟩)).setCell ⟨B,3,none⟩ (.slice none 0 0)).setCell ⟨B,4,none⟩ (.slice none 0 0)).setCell ⟨B,5,none⟩ (.slice (some ⟨wr.heap.size,0,none⟩) 2 2))).alloc (.cells #[.int .i64 a.kind,.int .i64 a.n,.string ⟨a.name.toArray⟩,.slice a.V a.vars.length a.vc,.slice a.T a.types.length a.tc,.slice a.A a.kids.length a.cap,.int .i64 b.kind,.int .i64 b.n,.string ⟨b.name.toArray⟩,.slice b.V b.vars.length b.vc,.slice b.T b.types.length b.tc,.slice b.A b.kids.length b.cap] 40))∧av ((((((((wr.setCell ⟨B,0,none⟩ (.int .i64 4)).setCell ⟨B,1,none⟩ (.int .i64 0)).setCell ⟨B,2,none⟩ (.string ⟨#[]⟩)).setCell ⟨B,3,none⟩ (.slice none 0 0)).setCell ⟨B,4,none⟩ (.slice none 0 0)).setCell ⟨B,5,none⟩ (.slice (some ⟨wr.heap.size,0,none⟩) 2 2))).alloc (.cells #[.int .i64 a.kind,.int .i64 a.n,.string ⟨a.name.toArray⟩,.slice a.V a.vars.length a.vc,.slice a.T a.types.length a.tc,.slice a.A a.kids.length a.cap,.int .i64 b.kind,.int .i64 b.n,.string ⟨b.name.toArray⟩,.slice b.V b.vars.length b.vc,.slice b.T b.types.length b.tc,.slice b.A b.kids.length b.cap] 40)) B (gT a b (wr.heap.size))∧((((((((wr.setCell ⟨B,0,none⟩ (.int .i64 4)).setCell ⟨B,1,none⟩ (.int .i64 0)).setCell ⟨B,2,none⟩ (.string ⟨#[]⟩)).setCell ⟨B,3,none⟩ (.slice none 0 0)).setCell ⟨B,4,none⟩ (.slice none 0 0)).setCell ⟨B,5,none⟩ (.slice (some ⟨wr.heap.size,0,none⟩) 2 2))).alloc (.cells #[.int .i64 a.kind,.int .i64 a.n,.string ⟨a.name.toArray⟩,.slice a.V a.vars.length a.vc,.slice a.T a.types.length a.tc,.slice a.A a.kids.length a.cap,.int .i64 b.kind,.int .i64 b.n,.string ⟨b.name.toArray⟩,.slice b.V b.vars.length b.vc,.slice b.T b.types.length b.tc,.slice b.A b.kids.length b.cap] 40)).heap[B+1]?=some (.cells #[v0,v1,v2,v3,v4,v5] 40 (0,0))∧aQ ((((((((wr.setCell ⟨B,0,none⟩ (.int .i64 4)).setCell ⟨B,1,none⟩ (.int .i64 0)).setCell ⟨B,2,none⟩ (.string ⟨#[]⟩)).setCell ⟨B,3,none⟩ (.slice none 0 0)).setCell ⟨B,4,none⟩ (.slice none 0 0)).setCell ⟨B,5,none⟩ (.slice (some ⟨wr.heap.size,0,none⟩) 2 2))).alloc (.cells #[.int .i64 a.kind,.int .i64 a.n,.string ⟨a.name.toArray⟩,.slice a.V a.vars.length a.vc,.slice a.T a.types.length a.tc,.slice a.A a.kids.length a.cap,.int .i64 b.kind,.int .i64 b.n,.string ⟨b.name.toArray⟩,.slice b.V b.vars.length b.vc,.slice b.T b.types.length b.tc,.slice b.A b.kids.length b.cap] 40)) (gT a b (wr.heap.size)):=by
 have hV:=xU wr B a b wr.heap.size;generalize ((((((wr.setCell ⟨B,0,none⟩ (.int .i64 4)).setCell ⟨B,1,none⟩ (.int .i64 0)).setCell ⟨B,2,none⟩ (.string ⟨#[]⟩)).setCell ⟨B,3,none⟩ (.slice none 0 0)).setCell ⟨B,4,none⟩ (.slice none 0 0)).setCell ⟨B,5,none⟩ (.slice (some ⟨wr.heap.size,0,none⟩) 2 2))=V at *;have hsz:V.heap.size=wr.heap.size:=by rw[hV,fP]
 exact xV hX hB hZ ha TU hb hab BS hV (eR V) hsz.symm
set_option maxRecDepth 10000
set_option maxHeartbeats 8000000
theorem H0 (A:Option Addr) (cap:Nat) (l:List Tm) (t:Tm) (w:World) (h:bm w A l) (ht:aQ w t) (hl:l.length≤1000000) :
  Calls Tryz.prog 80 #[bz t,.slice A l.length cap] w fun e w'=>(∃u,e=.returned (bz u)∧aQ w' u∧u.pure=ny t.pure l∧∀c,c<w.heap.size→az c t→(∀x∈l,az c x)→az c u)∧Ext w w':=by
 obtain⟨W,hW⟩:∃W,W=(w.alloc (.cells #[.int .i64 t.kind,.int .i64 t.n,encStr t.name,.slice t.V t.vars.length t.vc,.slice t.T t.types.length t.tc,.slice t.A t.kids.length t.cap] 40)).alloc (.cells #[.int .i64 0,.int .i64 0,.string ⟨#[]⟩,.slice none 0 0,.slice none 0 0,.slice none 0 0] 40):=⟨_,rfl⟩;have HW:=aa hW.symm;have X0:aiE (Ext w W):=aa (by rw[hW];exact((eR _).alloc _).alloc _);have sK:W.heap.size=w.heap.size+2:=by rw[hW];simp
 have B1:aiE (av W w.heap.size t):=aa (by rw[hW];exact(av.new w t).ext ((eR _).alloc _));have B2:aiE (W.heap[w.heap.size+1]?=some (.cells #[.int .i64 0,.int .i64 0,.string ⟨#[]⟩,.slice none 0 0,.slice none 0 0,.slice none 0 0] 40 (0,0))):=aa (by rw[hW];exact ah _ _ _ (by simp));have H:=aa h;have Ht:=aa ht;have BC:aiE (∀c,c<w.heap.size+2→(c<w.heap.size→az c t∧∀x∈l,az c x)→az c t):=aa (fun c _ h=>(Nat.lt_or_ge c w.heap.size).elim (fun h1=>(h h1).1) (fun h1=>bA ht h1));clear h ht hW;unfold bz at *;go_enter Tryz.func80,Tryz.ntmps80;go_upto_region 1 with fail;rw[HW.o];go_wp2
 go_loopw [9] (fun i wr=>∃(k:Nat) (u:Tm),k≤l.length∧i=.int .i64 k∧aiE (Ext w wr)∧aiE (av wr w.heap.size u)∧aiE (wr.heap[w.heap.size+1]?=some (.cells #[.int .i64 0,.int .i64 0,.string ⟨#[]⟩,.slice none 0 0,.slice none 0 0,.slice none 0 0] 40 (0,0)))∧aiE (aQ wr u∧u.pure=ny t.pure (l.take k)∧∀c,c<w.heap.size+2→(c<w.heap.size→az c t∧∀x∈l,az c x)→az c u)) (fun i _=>l.length - (intOf i).toNat)
 case atStart=>exact⟨0,t,aiH _,rfl,X0,B1,B2,aa ⟨Ht.o.ext X0.o,rfl,BC.o⟩⟩
 case round=>
  obtain⟨k,u,hk,rfl,HX,HB,HZ,HU⟩:=hrel;have hz2:=ae HZ.o;have hbl:=HB.o.lt
  by_cases hlt:k<l.length
  ·have aN:(k:Int)<(l.length:Int):=by omega
   have cV:(0:Int)≤(k:Int):=by omega
   obtain⟨b,o,hA,hb,r0,r1,r2,r3,r4,r5⟩:=(H.o.ext HX.o).at_ hlt;have dh:=aa (qK t.pure l hlt);have Hm:=aa (aiF hlt);have Hx:=aa (H.o.kids _ (aiF hlt));rw[hA];generalize l[k]'hlt=x at *;have G8:aiE (∀c,c<w.heap.size+2→(c<w.heap.size→az c t∧∀x∈l,az c x)→az c x):=aa (fun c _ h=>(Nat.lt_or_ge c w.heap.size).elim (fun h1=>(h h1).2 _ Hm.o) (fun h1=>bA Hx.o h1));have FE:aiE (∀g,wr.heap.size≤g→∀c,c<w.heap.size+2→(c<w.heap.size→az c t∧∀x∈l,az c x)→az c (gT u x g)):=aa (fun g hg c hc h2=>tZ (by omega) (HU.o.2.2 c hc h2) (G8.o c hc h2));have HP:aiE (∀g,(gT u x g).pure=ny t.pure (l.take (k+1))):=aa (fun g=>by rw[tY,HU.o.2.1,dh.o]);clear hA;obtain⟨c0,c1,c2,c3,c4,c5⟩:=HB.o.cells;obtain⟨f0,f1,f2,f3,f4,f5⟩:=HB.o.Gn;have HL:=aa (DL HX.o HB.o HZ.o HU.o.1 (HU.o.2.2 _ (by omega) (fun h=>by omega)) (Hx.o.ext HX.o) (G8.o _ (by omega) (fun h=>by omega)) (aiG _));go_wp2;go_roundw
   case rel=>exact⟨k+1,gT u x _,hlt,by go_num,aa HL.o.1,aa HL.o.2.1,aa HL.o.2.2.1,aa ⟨HL.o.2.2.2,HP.o _,FE.o _ (by omega)⟩⟩
   case measure=>simp[intOf];omega
  ·have bS:¬(k:Int)<(l.length:Int):=by omega
   obtain⟨c0,c1,c2,c3,c4,c5⟩:=HB.o.cells;obtain⟨hu,hp,ha⟩:=HU.o;rw[aiK (by omega)] at hp;obtain⟨WF,iM⟩:∃WF,WF=cC wr (w.heap.size+1) u:=⟨_,rfl⟩;have hgr:=bh wr (w.heap.size+1) u;have xr:=gX u HZ.o;rw[←iM] at hgr xr;have XF:=aa (HX.o.grown hgr (fun c e=>by injection e with e;omega));have Ze:=aa (hu.grown hgr (fun c e=>by injection e with e;subst e;exact ha _ (by omega) (fun h=>by omega)));have HP:=aa hp;have HA:=aa ha;have g0:=ai HZ.o 0;have g1:=ai HZ.o 1;have g2:=ai HZ.o 2;have g3:=ai HZ.o 3;have g4:=ai HZ.o 4;have g5:=ai HZ.o 5;have z0:=ag HZ.o 0;have z1:=ag HZ.o 1;have z2:=ag HZ.o 2;have z3:=ag HZ.o 3;have z4:=ag HZ.o 4;have z5:=ag HZ.o 5;simp only[aiN,aiO,aiP] at z0 z1 z2 z3 z4 z5;obtain⟨m0,m1,m2,m3,m4,m5⟩:=xr.cells;clear hu hp ha hgr xr;unfold cC at iM;go_wp2;rw[←iM];refine bodyPost_ret (v:=.agg #[.int .i64 u.kind,.int .i64 u.n,.string ⟨u.name.toArray⟩,.slice u.V u.vars.length u.vc,.slice u.T u.types.length u.tc,.slice u.A u.kids.length u.cap]) ?_ rfl ⟨⟨u,rfl,Ze.o,HP.o,fun c hc h1 h2=>HA.o c (by omega) (fun _=>⟨h1,h2⟩)⟩,XF.o⟩;simp[results,Tryz.f80,go_sem,m0,m1,m2,m3,m4,m5]
set_option maxRecDepth 512
set_option maxHeartbeats 200000
def sw (w:World):Prop:=w.cell? ⟨2,0,none⟩=some (.iface 201 (.agg #[.pointer (some ⟨4,77,none⟩)]))
theorem sw.ext {w w':World}(h:sw w) (e:Ext w w'):sw w':=e.cell h
theorem bB {w:World}{b:Nat}(h:w.heap[b]?=some (.cells #[.int .i64 0,.int .i64 0,.string ⟨#[]⟩,.slice none 0 0,.slice none 0 0,.slice none 0 0] 40)):w.cell? ⟨b,0,none⟩=some (.int .i64 0)∧w.cell? ⟨b,1,none⟩=some (.int .i64 0)∧w.cell? ⟨b,2,none⟩=some (.string ⟨#[]⟩)∧w.cell? ⟨b,3,none⟩=some (.slice none 0 0)∧w.cell? ⟨b,4,none⟩=some (.slice none 0 0)∧w.cell? ⟨b,5,none⟩=some (.slice none 0 0) ∧
  w.frozen? ⟨b,0,none⟩=false∧w.frozen? ⟨b,1,none⟩=false∧w.frozen? ⟨b,2,none⟩=false∧w.frozen? ⟨b,3,none⟩=false∧w.frozen? ⟨b,4,none⟩=false∧w.frozen? ⟨b,5,none⟩=false:=by
 refine⟨?_,?_,?_,?_,?_,?_,?_,?_,?_,?_,?_,?_⟩<;>simp[World.cell?,World.frozen?,h]
theorem Row.zX {w:World}{b:Nat}{t:TypeId}{fr:Nat×Nat}(x0 x1 x2 x3 x4 x5:Value) (h:w.heap[b]?=some (.cells #[x0,x1,x2,x3,x4,x5] t fr)):Row w (some ⟨b,0,none⟩) 6 1 [x0,x1,x2,x3,x4,x5]:=by
 refine⟨rfl,fun _=>⟨b,0,rfl,ae h,fun j u hu => ?_⟩⟩;rw[Nat.zero_add];simp only[World.cell?,h];simpa using hu
theorem gu (us:List Tm) (y:Tm):(us++[y]).flatMap eY.f=us.flatMap eY.f++[.int .i64 y.kind,.int .i64 y.n,encStr y.name,.slice y.V y.vars.length y.vc,.slice y.T y.types.length y.tc,.slice y.A y.kids.length y.cap]:=by
 rw[List.flatMap_append,List.flatMap_cons,List.flatMap_nil,List.append_nil];rfl
def gw (w:World) (b:Nat) (x:di) (P:Option Addr) (pc:Nat) (preds:List Pd) (L:Option Addr) (lc:Nat) (given:List Tm):Prop:=w.heap[b]?=some (.cells #[.slice x.D x.aA.length x.dc,.slice x.C x.af.length x.cc,.slice x.I x.insts.length x.ic,.slice P preds.length pc,.slice L given.length lc] 80 (0,0))
section
variable {w w':World}{b:Nat}{x:di}{P:Option Addr}{pc:Nat}{preds:List Pd}{L:Option Addr}{lc:Nat}{given:List Tm}
theorem gw.lt (h:gw w b x P pc preds L lc given):b<w.heap.size:=ae h
theorem gw.ext (h:gw w b x P pc preds L lc given) (e:Ext w w'):gw w' b x P pc preds L lc given:=(e.heap h.lt).trans h
theorem gw.new (w:World):gw (w.alloc (.cells #[.slice x.D x.aA.length x.dc,.slice x.C x.af.length x.cc,.slice x.I x.insts.length x.ic,.slice P preds.length pc,.slice L given.length lc] 80)) w.heap.size x P pc preds L lc given:=ah _ _ _ rfl
theorem gw.cells (h:gw w b x P pc preds L lc given):w.cell? ⟨b,0,none⟩=some (.slice x.D x.aA.length x.dc)∧w.cell? ⟨b,1,none⟩=some (.slice x.C x.af.length x.cc)∧w.cell? ⟨b,2,none⟩=some (.slice x.I x.insts.length x.ic)∧w.cell? ⟨b,3,none⟩=some (.slice P preds.length pc)∧w.cell? ⟨b,4,none⟩=some (.slice L given.length lc):=
 ⟨ag h 0,ag h 1,ag h 2,ag h 3,ag h 4⟩
end
structure sO (w w':World) (given:List Tm) (p:Pf) (Q:Tm.Pure) (t:Tm):Prop where
 gZ:aQ w' t
 is:t.pure=Q
 away:∀c,c<w.heap.size→(∀g∈given,az c g)→aJ c p→az c t
def Sg (x:di) (P:Option Addr) (pc:Nat) (preds:List Pd) (L:Option Addr) (lc:Nat) (given:List Tm) (p:Pf):Prop:=
 ∀(w:World),dJ w x→bg w P preds→bm w L given→bW w p→(bw x.af x.insts preds p).isSome=true→given.length=preds.length→sw w →
  Calls Tryz.prog 47 #[.agg #[.slice x.D x.aA.length x.dc,.slice x.C x.af.length x.cc,.slice x.I x.insts.length x.ic,.slice P preds.length pc,.slice L given.length lc],bM p] w fun e w'=>(∃t,e=.returned (bz t)∧sO w w' given p (kR x.af x.insts preds (given.map Tm.pure) p) t)∧Ext w w'
theorem nD {cs:List dY}{ins:List cL}{preds:List Pd}{given:List Tm}{p:Pf}(hk:p.kind=1){n:Nat}(hn:p.n=(n:Int)) (hl:n<given.length):kR cs ins preds (given.map Tm.pure) p=(given[n]'hl).pure:=by
 rw[ml];unfold NY pH;rw[if_pos hk,hn,if_pos (by omega)];simp[hl]
theorem qU {cs:List dY}{ins:List cL}{preds:List Pd}{given:List Tm.Pure}{p k:Pf}{b:Pd}(hk:p.kind=2) (j3:p.kids=[k]) (hb:bw cs ins preds k=some b):kR cs ins preds given p=.mk 13 p.n b.cls [] [] [kR cs ins preds given k]:=by
 rw[ml];unfold NY;rw[if_neg (by omega),if_pos hk,j3];show Tm.Pure.mk 13 p.n (((bw cs ins preds k).map Pd.cls).getD []) [] [] [kR cs ins preds given k]=_;rw[hb];rfl
theorem pT {cs:List dY}{ins:List cL}{preds:List Pd}{given:List Tm.Pure}{p:Pf}{x:cL}(hk:p.kind=3) (hx:pH ins p.n=some x):kR cs ins preds given p =
  (p.kids.map (kR cs ins preds given)).foldl ou (if p.types.map Ty.pure=[] then .mk 1 0 (iv x.cls x.aq) [] [] [] else .mk 6 0 [] [] (p.types.map Ty.pure) [.mk 1 0 (iv x.cls x.aq) [] [] []]):=by
 rw[ml];unfold NY;rw[if_neg (by omega),if_neg (by omega),hx];rfl
theorem dR {y:World}{B b i:Nat}(h:b≠B) (v0 v1 v2 v3 v4 v5:Value){u:Value}(k:y.cell? ⟨b,i,none⟩=some u):((((((y.setCell ⟨B,0,none⟩ v0).setCell ⟨B,1,none⟩ v1).setCell ⟨B,2,none⟩ v2).setCell ⟨B,3,none⟩ v3).setCell ⟨B,4,none⟩ v4).setCell ⟨B,5,none⟩ v5).cell? ⟨b,i,none⟩=some u:=by
 refine(World.cell?_of_block (a:=⟨b,i,none⟩) ?_).trans k;show((((((y.setCell ⟨B,0,none⟩ v0).setCell ⟨B,1,none⟩ v1).setCell ⟨B,2,none⟩ v2).setCell ⟨B,3,none⟩ v3).setCell ⟨B,4,none⟩ v4).setCell ⟨B,5,none⟩ v5).heap[b]?=y.heap[b]?;rw[Below.heap_setCell _ _ _ _ h,Below.heap_setCell _ _ _ _ h,Below.heap_setCell _ _ _ _ h,Below.heap_setCell _ _ _ _ h,Below.heap_setCell _ _ _ _ h,Below.heap_setCell _ _ _ _ h]
theorem cE {y:World}{B b i:Nat}(h:b≠B) (v0 v1 v2 v3 v4 v5:Value) (o:Obj){u:Value}(k:y.cell? ⟨b,i,none⟩=some u):(((((((y.setCell ⟨B,0,none⟩ v0).setCell ⟨B,1,none⟩ v1).setCell ⟨B,2,none⟩ v2).setCell ⟨B,3,none⟩ v3).setCell ⟨B,4,none⟩ v4).setCell ⟨B,5,none⟩ v5).alloc o).cell? ⟨b,i,none⟩=some u:=
 ((eR _).alloc o).cell (dR h v0 v1 v2 v3 v4 v5 k)
structure lO (W wx:World) (b:Nat) (s:aj):Prop where
 x:Ext W wx
 lt:b<wx.heap.size
 ge:W.heap.size≤b
 c0:wx.cell? ⟨b,0,none⟩=some (encStr s)
theorem lO.behind {W y:World}{a:Pd}(e:Ext W y):lO W (y.alloc (.cells #[encStr a.cls,encStr a.ty.aq,.int .i64 a.ty.var,.slice a.ty.A a.ty.args.length a.ty.cap] 55)) y.heap.size a.cls:=⟨e.alloc _,by simp,e.size,(aR.new y a).cells.1⟩
theorem lO.ahead {W y:World}{a:Pd}{B:Nat}{v0 v1 v2 v3:Value}(e:Ext W y) (hB:W.heap.size≤B) (h:y.heap[B]?=some (.cells #[v0,v1,v2,v3] 55 (0,0))):lO W ((((y.setCell ⟨B,0,none⟩ (encStr a.cls)).setCell ⟨B,1,none⟩ (encStr a.ty.aq)).setCell ⟨B,2,none⟩ (.int .i64 a.ty.var)).setCell ⟨B,3,none⟩ (.slice a.ty.A a.ty.args.length a.ty.cap)) B a.cls:=by
 have h1:=aw (aw (aw (aw h 0 (encStr a.cls)) 1 (encStr a.ty.aq)) 2 (.int .i64 a.ty.var)) 3 (.slice a.ty.A a.ty.args.length a.ty.cap);refine⟨(((e.setCell hB _).setCell hB _).setCell hB _).setCell hB _,ae h1,hB,(ag h1 0).trans ?_⟩;simp
def Mf (s:aj) (n:Int) (g:Nat) (t:Tm):Tm:=.mk 13 n s none 0 [] none 0 [] (some ⟨g,0,none⟩) 1 [t]
theorem BV {w:World}{s:aj}{n:Int}{g:Nat}{t:Tm}(hs:s.length≤9223372036854775807) (ht:aQ w t) (hg:av w g t):aQ w (Mf s n g t):=
 .mk ⟨aiH _,by show 0≤9223372036854775807;omega,aiH _,by show 0≤9223372036854775807;omega,aiG _,by show 1≤9223372036854775807;omega,hs,ak.nil _ _ _,bH.nil _ _,ak.block eY [t] hg⟩ (fun k hk=>by
  have hk:k∈[t]:=hk;rw[aiV] at hk;subst hk;exact ht)
theorem ur {c:Nat}{s:aj}{n:Int}{g:Nat}{t:Tm}(hg:g≠c) (ht:az c t):az c (Mf s n g t):=
 .mk (fun h=>absurd rfl h) (fun h=>absurd rfl h) (by intro x hx;cases hx) (fun _ a e=>by injection e with e;subst e;exact hg) (fun k hk=>by
  have hk:k∈[t]:=hk;rw[aiV] at hk;subst hk;exact ht)
set_option maxRecDepth 10000
set_option maxHeartbeats 8000000
theorem sP (x:di) (P:Option Addr) (pc:Nat) (preds:List Pd) (L:Option Addr) (lc:Nat) (given:List Tm) (p:Pf) (hk:p.kind=1):Sg x P pc preds L lc given p:=by
 intro w he hP hL hp hq hlen jb;obtain⟨q,hq⟩:=Option.isSome_iff_exists.1 hq
 rcases eB hq with ⟨-,-,-,h0,h1⟩|⟨h,-⟩|⟨h,-⟩
 rotate_left
 ·omega
 ·omega
 obtain⟨n,hn⟩:∃n:Nat,p.n=(n:Int):=⟨p.n.toNat,by omega⟩;have hlt:n<given.length:=by omega
 rw[nD hk hn hlt];obtain⟨W,hW⟩:∃W,W=((w.alloc (.cells #[.slice x.D x.aA.length x.dc,.slice x.C x.af.length x.cc,.slice x.I x.insts.length x.ic,.slice P preds.length pc,.slice L given.length lc] 80)).alloc (.cells #[.int .i64 p.kind,.int .i64 p.n,.slice p.T p.types.length p.tc,.slice p.A p.kids.length p.cap] 34)).alloc (.cells #[.int .i64 0,.int .i64 0,.string ⟨#[]⟩,.slice none 0 0,.slice none 0 0,.slice none 0 0] 40):=⟨_,rfl⟩;have HW:=aa hW.symm;have X0:aiE (Ext w W):=aa (by rw[hW];exact(((eR _).alloc _).alloc _).alloc _);have B1:aiE (gw W w.heap.size x P pc preds L lc given):=aa (by rw[hW];exact(gw.new w).ext (((eR _).alloc _).alloc _));have B2:aiE (aO W (w.heap.size+1) p):=aa (by rw[hW];exact aO.ext (ah _ _ _ (by simp)) ((eR _).alloc _));have B3:aiE (W.heap[w.heap.size+1+1]?=some (.cells #[.int .i64 0,.int .i64 0,.string ⟨#[]⟩,.slice none 0 0,.slice none 0 0,.slice none 0 0] 40)):=aa (by rw[hW];exact ah _ _ _ (by simp));obtain⟨b,o,rfl,hb,q0,q1,q2,q3,q4,q5⟩:=(hL.ext X0.o).at_ hlt;have jV:=hL.kids _ (aiF hlt);have HA:aiE (az (w.heap.size+1+1) (given[n]'hlt)):=aa (bA jV (by omega));have HI:=aa (jV.ext X0.o);have Hm:=aa (aiF hlt);generalize given[n]'hlt=g at *;have HF:aiE (sO w (cC W (w.heap.size+1+1) g) given p g.pure g):=aa ⟨HI.o.grown (bh _ _ _) (fun c e=>by injection e with e;subst e;exact HA.o),rfl,fun c _ h _=>h g Hm.o⟩;have XF:=aa (bk X0.o (by omega:w.heap.size≤w.heap.size+1+1) g);obtain⟨c0,c1,c2,c3⟩:=B2.o.cells;obtain⟨e0,e1,e2,e3,e4⟩:=B1.o.cells;obtain⟨z0,z1,z2,z3,z4,z5,gC,gD,gF,gH,vV,vW⟩:=bB B3.o;have n1:=B1.o.lt;have n2:=B2.o.lt;have n3:=ae B3.o;have zr:(0:Int)≤(n:Int):=by omega
 have sD:(n:Int)<(given.length:Int):=by omega
 rw[hk] at c0;rw[hn] at c1;unfold bM;clear hW he hP hL hp hq jb jV h0 h1 hlen hk hn;go_enter Tryz.func47,Tryz.ntmps47;go_upto_region 1 with fail;rw[HW.o];clear HW;go_wp2;refine bodyPost_ret (v:=bz g) ?_ rfl ⟨⟨g,rfl,HF.o⟩,XF.o⟩;simp[results,Tryz.f47,go_sem,z0,z1,z2,z3,z4,z5]
theorem sQ (x:di) (P:Option Addr) (pc:Nat) (preds:List Pd) (L:Option Addr) (lc:Nat) (given:List Tm) (p:Pf) (hk:p.kind=2) (ih:∀k∈p.kids,Sg x P pc preds L lc given k):Sg x P pc preds L lc given p:=by
 intro w he hP hL hp hq hlen jb;obtain⟨q,hq⟩:=Option.isSome_iff_exists.1 hq
 rcases eB hq with ⟨h,-⟩|⟨-,-,k,b,j3,hkb⟩|⟨h,-⟩
 ·omega
 rotate_left
 ·omega
 rw[qU hk j3 hkb];obtain⟨W,hW⟩:∃W,W=((w.alloc (.cells #[.slice x.D x.aA.length x.dc,.slice x.C x.af.length x.cc,.slice x.I x.insts.length x.ic,.slice P preds.length pc,.slice L given.length lc] 80)).alloc (.cells #[.int .i64 p.kind,.int .i64 p.n,.slice p.T p.types.length p.tc,.slice p.A p.kids.length p.cap] 34)).alloc (.cells #[.int .i64 0,.int .i64 0,.string ⟨#[]⟩,.slice none 0 0,.slice none 0 0,.slice none 0 0] 40):=⟨_,rfl⟩;have HW:=aa hW.symm;have X0:aiE (Ext w W):=aa (by rw[hW];exact(((eR _).alloc _).alloc _).alloc _);have B1:aiE (gw W w.heap.size x P pc preds L lc given):=aa (by rw[hW];exact(gw.new w).ext (((eR _).alloc _).alloc _));have B2:aiE (aO W (w.heap.size+1) p):=aa (by rw[hW];exact aO.ext (ah _ _ _ (by simp)) ((eR _).alloc _));have B3:aiE (W.heap[w.heap.size+1+1]?=some (.cells #[.int .i64 0,.int .i64 0,.string ⟨#[]⟩,.slice none 0 0,.slice none 0 0,.slice none 0 0] 40)):=aa (by rw[hW];exact ah _ _ _ (by simp));have bR:aiE (W.heap.size=w.heap.size+3):=aa (by rw[hW];simp);have cB:k∈p.kids:=by rw[j3];simp
 have hall:=hp.all;have qV:=hall.kids k cB;obtain⟨b0,o0,hA,Qc,q0,q1,q2,q3⟩:=hall.at_ (i:=0) (by rw[j3];simp);have hb0:b0<W.heap.size:=Nat.lt_of_lt_of_le Qc X0.o.size;have cV:p.kids[0]'(by rw[j3];simp)=k:=by simp[j3]
 rw[cV] at q0 q1 q2 q3;simp only[Nat.zero_mul,Nat.add_zero] at q0 q1 q2 q3;have FH:=aa (fun w' (e:Ext W w')=>aa (xQ x P pc preds k w' (he.ext (X0.o.trans e)) (hP.ext (X0.o.trans e)) (qV.ext (X0.o.trans e)) (sw.ext jb (X0.o.trans e))));have HT:=aa (fun w' (e:Ext W w')=>aa (ih k cB w' (he.ext (X0.o.trans e)) (hP.ext (X0.o.trans e)) (hL.ext (X0.o.trans e)) (qV.ext (X0.o.trans e)) (by rw[hkb];rfl) hlen (sw.ext jb (X0.o.trans e))));rw[hkb] at FH;have sR:aiE (∀c,w.heap.size≤c→(∀g∈given,az c g)∧aJ c k):=aa (fun c hc=>⟨fun g hg=>bA (hL.kids g hg) hc,dO qV hc⟩);have nG:aiE (∀c,aJ c p→aJ c k):=aa (fun c h=>h.kids k cB);obtain⟨c0,c1,c2,c3⟩:=B2.o.cells;obtain⟨e0,e1,e2,e3,e4⟩:=B1.o.cells;rw[hk] at c0;rw[hA,j3] at c3;have n1:=B1.o.lt;have n2:=B2.o.lt;have n3:=ae B3.o;have sq:=aa (aiI c0 (aiI c1 c3));replace q0:=X0.o.cell q0;replace q1:=X0.o.cell q1;replace q2:=X0.o.cell q2;replace q3:=X0.o.cell q3;have Mg:=aa (aiI q0 (aiI q1 (aiI q2 q3)));generalize nZ:kR x.af x.insts preds (given.map Tm.pure) k=Q at *;have HV:aiE (bM p=.agg #[.int .i64 2,.int .i64 p.n,.slice p.T p.types.length p.tc,.slice (some ⟨b0,o0,none⟩) 1 p.cap]):=aa (by unfold bM;rw[hk,hA,j3];rfl);rw[HV.o];have HW:aiE (((w.alloc (.cells #[.slice x.D x.aA.length x.dc,.slice x.C x.af.length x.cc,.slice x.I x.insts.length x.ic,.slice P preds.length pc,.slice L given.length lc] 80)).alloc (.cells #[.int .i64 2,.int .i64 p.n,.slice p.T p.types.length p.tc,.slice (some ⟨b0,o0,none⟩) 1 p.cap] 34)).alloc (.cells #[.int .i64 0,.int .i64 0,.string ⟨#[]⟩,.slice none 0 0,.slice none 0 0,.slice none 0 0] 40)=W):=aa (by have h:=HW.o;rw[hk,hA,j3] at h;exact h);unfold eu bM at *;have Zf:aiE (b.cls.length≤1000000000000000000):=aa (ov he hP k qV b hkb).cls;clear hW he hP hL hp hq jb hlen hk j3 hkb cB hall qV hA cV ih nZ HV;have l1:((([k]:List Pf).length:Nat):Int)=1:=rfl;go_enter Tryz.func47,Tryz.ntmps47;go_upto_region 1 with fail;rw[HW.o];clear HW;go_upto_region 5 with fail;refine bJ ?_;intro W5 lI;have X5:aiE (Ext W W5):=aa (by rw[lI];exact eR _);clear lI c0 c1 c2 c3 e0 e1 e2 e3 e4 q0 q1 q2 q3 n1 n2 n3;have xd:=aa (fun w' (e:Ext W w')=>(B1.o.ext e).cells);have ei:aiE (∀w',Ext W w'→w'.cell? ⟨w.heap.size+1,3,none⟩=some (.slice (some ⟨b0,o0,none⟩) 1 p.cap)∧w'.cell? ⟨b0,o0,none⟩=some (.int .i64 k.kind)∧w'.cell? ⟨b0,o0+1,none⟩=some (.int .i64 k.n)∧w'.cell? ⟨b0,o0+2,none⟩=some (.slice k.T k.types.length k.tc)∧w'.cell? ⟨b0,o0+3,none⟩=some (.slice k.A k.kids.length k.cap) ∧
   w'.cell? ⟨w.heap.size,0,none⟩=some (.slice x.D x.aA.length x.dc)∧w'.cell? ⟨w.heap.size,1,none⟩=some (.slice x.C x.af.length x.cc)∧w'.cell? ⟨w.heap.size,2,none⟩=some (.slice x.I x.insts.length x.ic)∧w'.cell? ⟨w.heap.size,3,none⟩=some (.slice P preds.length pc)):=aa (fun w' e=>
  ⟨e.cell sq.o.2.2,e.cell Mg.o.1,e.cell Mg.o.2.1,e.cell Mg.o.2.2.1,e.cell Mg.o.2.2.2,(xd.o w' e).1,(xd.o w' e).2.1,(xd.o w' e).2.2.1,(xd.o w' e).2.2.2.1⟩)
 obtain⟨s0,s1,s2,s3,s4,s5,s6,s7,s8⟩:=ei.o W5 X5.o;have n1:=(B1.o.ext X5.o).lt;have n2:=(B2.o.ext X5.o).lt;have n0:b0<W5.heap.size:=by have:=X5.o.size;omega
 have k0:b0≠W5.heap.size:=by omega
 have k1:w.heap.size≠W5.heap.size:=by omega
 have k2:w.heap.size+1≠W5.heap.size:=by omega
 go_cut [5,6] (fun s5 s6 wx=>∃(b5:Nat),s5=.pointer (some ⟨b5,0,none⟩)∧aiE (lO W5 wx b5 b.cls))
 case first=>
  go_region_held3 (fun w'=>w'.cell? ⟨w.heap.size+1,3,none⟩=some (.slice (some ⟨b0,o0,none⟩) 1 p.cap)∧w'.cell? ⟨b0,o0,none⟩=some (.int .i64 k.kind)∧w'.cell? ⟨b0,o0+1,none⟩=some (.int .i64 k.n)∧w'.cell? ⟨b0,o0+2,none⟩=some (.slice k.T k.types.length k.tc)∧w'.cell? ⟨b0,o0+3,none⟩=some (.slice k.A k.kids.length k.cap) ∧
   w'.cell? ⟨w.heap.size,0,none⟩=some (.slice x.D x.aA.length x.dc)∧w'.cell? ⟨w.heap.size,1,none⟩=some (.slice x.C x.af.length x.cc)∧w'.cell? ⟨w.heap.size,2,none⟩=some (.slice x.I x.insts.length x.ic)∧w'.cell? ⟨w.heap.size,3,none⟩=some (.slice P preds.length pc)) (first|with_reducible assumption|(obtain⟨g0,g1,g2,g3,g4,g5,g6,g7,g8⟩:=kS;with_reducible exact⟨aM k2 _ _ _ _ g0,aM k0 _ _ _ _ g1,aM k0 _ _ _ _ g2,aM k0 _ _ _ _ g3,aM k0 _ _ _ _ g4,aM k1 _ _ _ _ g5,aM k1 _ _ _ _ g6,aM k1 _ _ _ _ g7,aM k1 _ _ _ _ g8⟩)|go_keep) (
   (
   go_at_call 46
   refine Calls.mono (FH.o _ (X5.o.trans (by repeat(first|exact eR _|exact eA (by assumption) _|refine eA ?_ _|refine eM ?_ _ _|refine eD ?_|refine eN ?_ _)))).o ?_;rintro e y ⟨⟨a,n,rfl,Mh⟩,hx⟩;have EA:aiE (Ext W5 y):=aa (by refine Ext.trans ?_ hx;exact(by repeat(first|exact eR _|exact eA (by assumption) _|refine eA ?_ _|refine eM ?_ _ _|refine eD ?_|refine eN ?_ _)));have kS:=ei.o y (X5.o.trans EA.o)
   try (have hz:=aa ((hx.heap (ae (bI W5 _))).trans (bI W5 _));have z0:=ag hz.o 0;have z1:=ag hz.o 1;have z2:=ag hz.o 2;have z3:=ag hz.o 3;have z4:=ai hz.o 0;have z5:=ai hz.o 1;have z6:=ai hz.o 2;have z7:=ai hz.o 3;simp only[aiN,aiO,aiP] at z0 z1 z2 z3)))
  all_goals (have TV:=(Mh.yes b rfl).2.1;go_wp2_with fail;go_meet;first
   |exact⟨y.heap.size,rfl,aa (by rw[←TV];exact lO.behind EA.o)⟩
   |exact⟨W5.heap.size,rfl,aa (by rw[←TV];exact lO.ahead EA.o (aiG _) hz.o)⟩)
 case rest=>
  obtain⟨b5,rfl,HC⟩:=hcut;have X6:=aa (X5.o.trans HC.o.x);have Zg:aiE (b.cls.length≤1000000000000000000):=Zf;clear s0 s1 s2 s3 s4 s5 s6 s7 s8 n1 n2 n0 k0 k1 k2;obtain⟨s0,s1,s2,s3,s4,s5,s6,s7,s8⟩:=ei.o wc X6.o;obtain⟨m0,m1,m2,m3,m4⟩:=xd.o wc X6.o;have c1:=X6.o.cell sq.o.2.1;have d0:=HC.o.c0;have dl:=HC.o.lt;have n1:=(B1.o.ext X6.o).lt;have n2:=(B2.o.ext X6.o).lt;have n0:b0<wc.heap.size:=by have:=X6.o.size;omega
  have Zh:aiE (∀w',Ext wc w'→w'.cell? ⟨w.heap.size+1,1,none⟩=some (.int .i64 p.n)∧w'.cell? ⟨b5,0,none⟩=some (encStr b.cls)∧w'.cell? ⟨w.heap.size,4,none⟩=some (.slice L given.length lc)):=aa (fun w' e=>⟨e.cell c1,e.cell d0,e.cell m4⟩);have B4:aiE (wc.heap[w.heap.size+1+1]?=some (.cells #[.int .i64 0,.int .i64 0,.string ⟨#[]⟩,.slice none 0 0,.slice none 0 0,.slice none 0 0] 40)):=aa ((X6.o.heap (ae B3.o)).trans B3.o);obtain⟨z0,z1,z2,z3,z4,z5,gC,gD,gF,gH,vV,vW⟩:=bB B4.o;have n3:=ae B4.o;have Fv:aiE (∀w',Ext wc w'→w'.cell? ⟨w.heap.size+1,3,none⟩=some (.slice (some ⟨b0,o0,none⟩) 1 p.cap)∧w'.cell? ⟨b0,o0,none⟩=some (.int .i64 k.kind)∧w'.cell? ⟨b0,o0+1,none⟩=some (.int .i64 k.n)∧w'.cell? ⟨b0,o0+2,none⟩=some (.slice k.T k.types.length k.tc)∧w'.cell? ⟨b0,o0+3,none⟩=some (.slice k.A k.kids.length k.cap) ∧
   w'.cell? ⟨w.heap.size,0,none⟩=some (.slice x.D x.aA.length x.dc)∧w'.cell? ⟨w.heap.size,1,none⟩=some (.slice x.C x.af.length x.cc)∧w'.cell? ⟨w.heap.size,2,none⟩=some (.slice x.I x.insts.length x.ic)∧w'.cell? ⟨w.heap.size,3,none⟩=some (.slice P preds.length pc) ∧
   w'.cell? ⟨w.heap.size+1,1,none⟩=some (.int .i64 p.n)∧w'.cell? ⟨b5,0,none⟩=some (encStr b.cls)∧w'.cell? ⟨w.heap.size,4,none⟩=some (.slice L given.length lc)):=aa (fun w' e=>by
   obtain⟨a0,a1,a2,a3,a4,a5,a6,a7,a8⟩:=ei.o w' (X6.o.trans e);exact⟨a0,a1,a2,a3,a4,a5,a6,a7,a8,Zh.o w' e⟩)
  have bS:=HC.o.ge;have jA:=X5.o.size;have j0:b0≠w.heap.size+1+1:=by omega
  have j1:w.heap.size≠w.heap.size+1+1:=by omega
  have j2:w.heap.size+1≠w.heap.size+1+1:=by omega
  have hws:W.heap.size=w.heap.size+3:=bR.o;have j5:b5≠w.heap.size+1+1:=by omega
  clear HC;go_wp2
  go_region_held3 (fun w'=>w'.cell? ⟨w.heap.size+1,3,none⟩=some (.slice (some ⟨b0,o0,none⟩) 1 p.cap)∧w'.cell? ⟨b0,o0,none⟩=some (.int .i64 k.kind)∧w'.cell? ⟨b0,o0+1,none⟩=some (.int .i64 k.n)∧w'.cell? ⟨b0,o0+2,none⟩=some (.slice k.T k.types.length k.tc)∧w'.cell? ⟨b0,o0+3,none⟩=some (.slice k.A k.kids.length k.cap) ∧
   w'.cell? ⟨w.heap.size,0,none⟩=some (.slice x.D x.aA.length x.dc)∧w'.cell? ⟨w.heap.size,1,none⟩=some (.slice x.C x.af.length x.cc)∧w'.cell? ⟨w.heap.size,2,none⟩=some (.slice x.I x.insts.length x.ic)∧w'.cell? ⟨w.heap.size,3,none⟩=some (.slice P preds.length pc) ∧
   w'.cell? ⟨w.heap.size+1,1,none⟩=some (.int .i64 p.n)∧w'.cell? ⟨b5,0,none⟩=some (encStr b.cls)∧w'.cell? ⟨w.heap.size,4,none⟩=some (.slice L given.length lc)) (first|with_reducible assumption|(obtain⟨g0,g1,g2,g3,g4,g5,g6,g7,g8,g9,g10,g11⟩:=kS;with_reducible exact⟨cE j2 _ _ _ _ _ _ _ g0,cE j0 _ _ _ _ _ _ _ g1,cE j0 _ _ _ _ _ _ _ g2,cE j0 _ _ _ _ _ _ _ g3,cE j0 _ _ _ _ _ _ _ g4,cE j1 _ _ _ _ _ _ _ g5,cE j1 _ _ _ _ _ _ _ g6,cE j1 _ _ _ _ _ _ _ g7,cE j1 _ _ _ _ _ _ _ g8,cE j2 _ _ _ _ _ _ _ g9,cE j5 _ _ _ _ _ _ _ g10,cE j1 _ _ _ _ _ _ _ g11⟩)|go_keep) (
   (
   go_at_call 47
   refine Calls.mono (HT.o _ (X6.o.trans (by repeat(first|exact eR _|exact eA (by assumption) _|refine eA ?_ _|refine eM ?_ _ _|refine eD ?_|refine eN ?_ _)))).o ?_;rintro e y ⟨⟨t,rfl,ht⟩,hx⟩;have EA:aiE (Ext wc y):=aa (by refine Ext.trans ?_ hx;exact(by repeat(first|exact eR _|exact eA (by assumption) _|refine eA ?_ _|refine eM ?_ _ _|refine eD ?_|refine eN ?_ _)));have kS:=Fv.o y EA.o;have B5:=aa ((EA.o.heap (ae B4.o)).trans B4.o);obtain⟨a0,a1,a2,a3,a4,a5,Wy,af1,af2,af3,af4,af5⟩:=bB B5.o;have WY:=ae B5.o))
  have ht:sO wc y given k Q t:=⟨ht.gZ,ht.is,ht.away⟩;have H6:=aa (sR.o (w.heap.size+1+1) (by omega));have n9:=aa (ht.away (w.heap.size+1+1) (by omega) H6.o.1 H6.o.2);obtain⟨U,hU⟩:∃U,U=Mf b.cls p.n y.heap.size t:=⟨_,rfl⟩;have HX:aiE (((((((y.setCell ⟨w.heap.size+1+1,0,none⟩ (.int .i64 13)).setCell ⟨w.heap.size+1+1,1,none⟩ (.int .i64 p.n)).setCell ⟨w.heap.size+1+1,2,none⟩ (.string ⟨b.cls.toArray⟩)).setCell ⟨w.heap.size+1+1,3,none⟩ (.slice none 0 0)).setCell ⟨w.heap.size+1+1,4,none⟩ (.slice none 0 0)).setCell ⟨w.heap.size+1+1,5,none⟩ (.slice (some ⟨y.heap.size,0,none⟩) 1 1)).alloc (.cells #[.int .i64 t.kind,.int .i64 t.n,encStr t.name,.slice t.V t.vars.length t.vc,.slice t.T t.types.length t.tc,.slice t.A t.kids.length t.cap] 40)=(cC y (w.heap.size+1+1) U).alloc (.cells #[.int .i64 t.kind,.int .i64 t.n,encStr t.name,.slice t.V t.vars.length t.vc,.slice t.T t.types.length t.tc,.slice t.A t.kids.length t.cap] 40)):=aa (by rw[hU];rfl);have H8:=fP y (w.heap.size+1+1) U;have XF:=aa (((bk (X0.o.trans (X6.o.trans EA.o)) (by omega:w.heap.size≤w.heap.size+1+1) U).alloc (.cells #[.int .i64 t.kind,.int .i64 t.n,encStr t.name,.slice t.V t.vars.length t.vc,.slice t.T t.types.length t.tc,.slice t.A t.kids.length t.cap] 40)));have HI:aiE (aQ ((cC y (w.heap.size+1+1) U).alloc (.cells #[.int .i64 t.kind,.int .i64 t.n,encStr t.name,.slice t.V t.vars.length t.vc,.slice t.T t.types.length t.tc,.slice t.A t.kids.length t.cap] 40)) U):=aa (by
   rw[hU];refine BV (by have:=Zg.o;omega) ((ht.gZ.grown (bh _ _ _) (fun c e=>by injection e with e;subst e;exact n9.o)).ext ((eR _).alloc _)) ?_;have:=av.new (cC y (w.heap.size+1+1) U) t;rw[H8] at this;rw[←hU];exact this)
  have HU:aiE (U.pure=.mk 13 p.n b.cls [] [] [Q]∧∀c,c<w.heap.size→(∀g∈given,az c g)→aJ c p→az c U):=aa ⟨by rw[hU,Tm.aG];show Tm.Pure.mk 13 p.n b.cls [] [] [t.pure]=_;rw[ht.is],fun c hc h1 h2=>by
   rw[hU];exact ur (by have:=EA.o.size;have:=X6.o.size;omega) (ht.away c (by have:=X6.o.size;have:=EA.o.size;omega) h1 (nG.o c h2))⟩
  have Zi:aiE (bz U=.agg #[.int .i64 13,.int .i64 p.n,.string ⟨b.cls.toArray⟩,.slice none 0 0,.slice none 0 0,.slice (some ⟨y.heap.size,0,none⟩) 1 1]):=aa (by rw[hU];rfl);rw[←HX.o] at XF HI;clear hU H8 HX ht;go_wp2;refine bodyPost_ret (v:=bz U) ?_ rfl ⟨⟨U,rfl,?_,HU.o.1,HU.o.2⟩,?_⟩
  ·rw[Zi.o];simp[results,Tryz.f47,go_sem,a0,a1,a2,a3,a4,a5,WY]
  ·exact HI.o.ext (by repeat(first|exact eR _|exact eA (by assumption) _|refine eA ?_ _|refine eM ?_ _ _|refine eD ?_|refine eN ?_ _))
  ·exact XF.o.trans (by repeat(first|exact eR _|exact eA (by assumption) _|refine eA ?_ _|refine eM ?_ _ _|refine eD ?_|refine eN ?_ _))
set_option maxRecDepth 512
set_option maxHeartbeats 200000
theorem Row.WZ {w:World}{b:Nat}{t:TypeId}{fr:Nat×Nat}(x0 x1 x2:Value) (h:w.heap[b]?=some (.cells #[x0,x1,x2] t fr)):Row w (some ⟨b,0,none⟩) 3 1 [x0,x1,x2]:=by
 refine⟨rfl,fun _=>⟨b,0,rfl,ae h,fun j u hu => ?_⟩⟩;rw[Nat.zero_add];simp only[World.cell?,h];simpa using hu
theorem kY (us:List Ty) (u:Ty):(us++[u]).flatMap dr.f=us.flatMap dr.f++[encStr u.aq,.int .i64 u.var,.slice u.A u.args.length u.cap]:=by
 rw[List.flatMap_append,List.flatMap_cons,List.flatMap_nil,List.append_nil];rfl
theorem nH : (Tryz.prog.info? 53).map (fun i=>(i.zero,i.size,i.bytes))=some (some (.agg #[.string ⟨#[]⟩,.int .i64 0,.slice none 0 0]),3,48):=by kernel_rfl
set_option maxRecDepth 10000
set_option maxHeartbeats 8000000
theorem vX (S:Option Addr) (sc:Nat) (s:List Pr) (x:Int) (w:World) (h:ft w S s) (hn:s.length≤9223372036854775807) :
  Calls Tryz.prog 213 #[.slice S s.length sc,.int .i64 x] w fun e w'=>e=.returned (.tuple #[bl ((putAt (bF s) (bG s) x).getD Ty.zero),.bool (putAt (bF s) (bG s) x).isSome])∧Ext w w':=by
 obtain⟨W,hW⟩:∃W,W=w.alloc (.cells #[.string ⟨#[]⟩,.int .i64 0,.slice none 0 0] 53):=⟨_,rfl⟩;have HW:=aa hW.symm;have X0:aiE (Ext w W):=aa (by rw[hW];exact(eR _).alloc _);have B2:aiE (W.heap[w.heap.size]?=some (.cells #[.string ⟨#[]⟩,.int .i64 0,.slice none 0 0] 53 (0,0))):=aa (by rw[hW];exact ah _ _ _ (by simp));have H:=aa h;have pC:=aa (fun k => @jx _ _ (bF s) x 0 k);have j7:=aa (jy (bF s) x 0);have HA:aiE (putAt (bF s) (bG s) x=if 0≤ik (bF s) x then(bG s)[(ik (bF s) x).toNat]? else none):=aa rfl;generalize putAt (bF s) (bG s) x=R at *;clear hW h;unfold bl;go_enter Tryz.func213,Tryz.ntmps213;go_upto_region 1 with fail;rw[HW.o];clear HW;go_wp2
 go_loopw [6] (fun i wr=>∃j:Nat,j≤s.length∧i=.int .i64 j∧aiE (∀i,i<j→((bF s).getD i 0 == x)=false)∧aiE (Ext W wr)) (fun i _=>s.length - (intOf i).toNat)
 case atStart=>exact⟨0,aiH _,rfl,aa (fun i hi=>absurd hi (by omega)),aa (eR _)⟩
 case round=>
  obtain⟨j,hj,rfl,Hj,HX⟩:=hrel;have C2:=aa ((HX.o.heap (ae B2.o)).trans B2.o);have f0:=ai C2.o 0;have f1:=ai C2.o 1;have f2:=ai C2.o 2;have k0:=ag C2.o 0;have k1:=ag C2.o 1;have k2:=ag C2.o 2;have R7:=ae C2.o;simp only[aiN,aiO,aiP] at k0 k1 k2
  by_cases hlt:j<s.length
  ·have aN:(j:Int)<(s.length:Int):=by omega
   have qx:(0:Int)≤(j:Int):=by omega
   obtain⟨b,o,rfl,hb,q0,q1,q2,q3⟩:=oB (H.o.ext (X0.o.trans HX.o)).row hlt;have Hg:aiE ((bF s).getD j 0=(s[j]'hlt).v):=aa (nk s hlt);have Mi:aiE ((bG s)[j]?=some (s[j]'hlt).ty):=aa (by rw[List.getElem?_map,aiU hlt];rfl);generalize s[j]'hlt=y at *;cases hs:(y.v == x)
   ·go_wp2;go_roundw
    case rel=>
     refine⟨j+1,hlt,by go_num,aa (fun i hi => ?_),HX⟩
     by_cases xj:i=j
     ·rw[xj,Hg.o];exact hs
     ·exact Hj.o i (by omega)
    case measure=>simp[intOf];omega
   ·have hJ:=pC.o j (by simpa using hlt) Hj.o (by rw[Hg.o];exact hs);have hR:R=some y.ty:=by rw[HA.o,hJ,if_pos (by omega)];simpa using Mi.o
    clear pC j7 HA hJ;subst hR;have Zj:aiE (Ext w (((wr.setCell ⟨w.heap.size,0,none⟩ (encStr y.ty.aq)).setCell ⟨w.heap.size,1,none⟩ (.int .i64 y.ty.var)).setCell ⟨w.heap.size,2,none⟩ (.slice y.ty.A y.ty.args.length y.ty.cap))):=aa ((((X0.o.trans HX.o).setCell (by simp) _).setCell (by simp) _).setCell (by simp) _);go_wp2;refine bodyPost_ret (v:=.tuple #[.agg #[encStr y.ty.aq,.int .i64 y.ty.var,.slice y.ty.A y.ty.args.length y.ty.cap],.bool true]) ?_ rfl ⟨rfl,Zj.o⟩;simp[results,Tryz.f213,go_sem,k0,k1,k2]
  ·have bS:¬(j:Int)<(s.length:Int):=by omega
   have hJ:=j7.o (fun i hi=>Hj.o i (by have hi':i<s.length:=(by simpa using hi);omega));have hR:R=none:=by rw[HA.o,hJ];rfl
   clear pC j7 HA hJ;subst hR;have Zj:aiE (Ext w (((wr.setCell ⟨w.heap.size,0,none⟩ (.string ⟨#[]⟩)).setCell ⟨w.heap.size,1,none⟩ (.int .i64 0)).setCell ⟨w.heap.size,2,none⟩ (.slice none 0 0))):=aa ((((X0.o.trans HX.o).setCell (by simp) _).setCell (by simp) _).setCell (by simp) _);go_wp2;refine bodyPost_ret (v:=.tuple #[.agg #[.string ⟨#[]⟩,.int .i64 0,.slice none 0 0],.bool false]) ?_ rfl ⟨rfl,Zj.o⟩;simp[results,Tryz.f213,go_sem,k0,k1,k2]
set_option maxRecDepth 512
set_option maxHeartbeats 200000
theorem Ia {w:World}{S:Option Addr}{s:List Pr}(h:ft w S s){x:Int}{u:Ty}(e:putAt (bF s) (bG s) x=some u):aH w u:=by
 obtain⟨p,hp,rfl⟩:=List.mem_map.1 (iW e);exact h.ty p hp
theorem ft.ja {w:World}{S:Option Addr}{s:List Pr}(h:ft w S s):∀k∈bG s,aH w k:=fun k hk=>by
 obtain⟨p,hp,rfl⟩:=List.mem_map.1 hk;exact h.ty p hp
set_option maxRecDepth 10000
set_option maxHeartbeats 8000000
theorem Ib (S:Option Addr) (sc:Nat) (s:List Pr) (hn:s.length≤9223372036854775807) (hsz:∀p∈s,p.ty.size≤1000000) (t:Ty):∀(w:World),aH w t→ft w S s→iD (bF s) (bG s) t≤1000000000000000 →
  Calls Tryz.prog 234 #[.slice S s.length sc,bl t] w fun e w'=>e=.returned (.int .i64 (iD (bF s) (bG s) t:Int))∧Ext w w':=by
 induction t using Ty.ind with
 |h t ih=>
 intro w h hS hb;obtain⟨W,hW⟩:∃W,W=w.alloc (.cells #[encStr t.aq,.int .i64 t.var,.slice t.A t.args.length t.cap] 53):=⟨_,rfl⟩;have HW:=aa hW.symm;have X0:aiE (Ext w W):=aa (by rw[hW];exact(eR _).alloc _);have B1:aiE (aU W w.heap.size t):=aa (by rw[hW];exact aU.new w t);have H:=aa h;have Ot:=aa hS;have IH:=aa ih;have hle:=h.le;have hmx:=h.max;have HE:=aa (jE (bF s) (bG s) t);have c0:=B1.o.c0;have c1:=B1.o.c1;have c2:=B1.o.c2;have hbl:=B1.o.lt;generalize hZ:iD (bF s) (bG s) t=Z at *;clear h hS hW ih hZ;unfold bl at *;cases hc:(t.aq == ([]:aj))
 ·have hc0:t.aq≠[]:=by simpa using hc
  have zg:aiE (Z=(t.args.map (iD (bF s) (bG s))).sum+1):=aa (by rw[HE.o,if_neg hc0]);clear HE hc0;go_enter Tryz.func234,Tryz.ntmps234;go_upto_region 1 with fail;rw[HW.o];clear HW;go_wp2
  go_loopw [7,8] (fun v i wr=>∃k:Nat,k≤t.args.length∧i=.int .i64 k∧v=.int .i64 ((((t.args.take k).map (iD (bF s) (bG s))).sum+1:Nat):Int)∧aiE (Ext W wr)) (fun _ i _=>t.args.length - (intOf i).toNat)
  case atStart=>exact⟨0,aiH _,rfl,by simp,aa (eR _)⟩
  case round=>
   obtain⟨k,hk,rfl,rfl,HX⟩:=hrel;have XR:=aa (X0.o.trans HX.o);have C1:=aa (B1.o.ext HX.o);have g2:=C1.o.c2;have hbr:=C1.o.lt
   by_cases hlt:k<t.args.length
   ·have aN:(k:Int)<(t.args.length:Int):=by omega
    have cV:(0:Int)≤(k:Int):=by omega
    obtain⟨b,o,hA,N0,q0,q1,q2⟩:=(H.o.all.ext XR.o).at_ hlt;have cB:=aiF hlt;have iC:aiE (((t.args.take (k+1)).map (iD (bF s) (bG s))).sum=((t.args.take k).map (iD (bF s) (bG s))).sum+iD (bF s) (bG s) (t.args[k]'hlt)):=aa (by rw[aiJ hlt,aiX,List.sum_append];simp);have Zk:((t.args.take (k+1)).map (iD (bF s) (bG s))).sum≤(t.args.map (iD (bF s) (bG s))).sum:=by
     conv=>rhs;rw[←List.take_append_drop (k+1) t.args,aiX,List.sum_append]
     omega
    have hb2:iD (bF s) (bG s) (t.args[k]'hlt)≤1000000000000000:=by have:=iC.o;have:=zg.o;omega
    have hb3:((t.args.take k).map (iD (bF s) (bG s))).sum≤1000000000000000:=by have:=iC.o;have:=zg.o;omega
    have BJ:=aa (IH.o _ cB wr ((H.o.all.args _ cB).ext XR.o) (Ot.o.ext XR.o) hb2);generalize iD (bF s) (bG s) (t.args[k]'hlt)=z at *;generalize t.args[k]'hlt=x at *;generalize hq:((t.args.take (k+1)).map (iD (bF s) (bG s))).sum=a' at *;have Hq:=aa hq;clear hq;generalize ((t.args.take k).map (iD (bF s) (bG s))).sum=a at *;rw[hA] at g2;clear hA cB Zk;go_wp2_with fail;refine BJ.o.mono ?_;rintro e w3 ⟨rfl,hx3⟩;have X3:=aa (HX.o.trans hx3);clear hx3;go_wp2;go_roundw
    case rel=>exact⟨k+1,hlt,by go_num,by rw[Hq.o,iC.o];first|(congr 1;omega)|(congr 1;push_cast;omega),X3⟩
    case measure=>simp[intOf];omega
   ·have bS:¬(k:Int)<(t.args.length:Int):=by omega
    have e9:t.args.take k=t.args:=aiK (by omega);rw[e9];clear e9;have HZ:aiE ((((t.args.map (iD (bF s) (bG s))).sum+1:Nat):Int)=(Z:Int)):=aa (by rw[zg.o]);rw[HZ.o];go_wp2;go_ret;exact⟨rfl,XR.o⟩
 ·have hc0:t.aq=[]:=by simpa using hc
  have zg:aiE (Z=match putAt (bF s) (bG s) t.var with|some u=>u.size|none=>1):=aa (by rw[HE.o,if_pos hc0];cases putAt (bF s) (bG s) t.var<;>rfl);have HG:=aa (fun w' (e:Ext w w')=>vX S sc s t.var w' (Ot.o.ext e) hn);have pR:=aa (fun u (e:putAt (bF s) (bG s) t.var=some u)=>aiI (Ia Ot.o e) (show u.size≤1000000 by
   obtain⟨p,hp,rfl⟩:=List.mem_map.1 (iW e);exact hsz p hp))
  clear HE hc0 IH;generalize putAt (bF s) (bG s) t.var=R at *;have sS:=aa (HG.o W X0.o);unfold bl at sS;clear HG;go_enter Tryz.func234,Tryz.ntmps234;go_upto_region 1 with fail;rw[HW.o];clear HW;go_wp2_with fail;refine sS.o.mono ?_;rintro e w2 ⟨rfl,hx⟩;have X2:=aa (X0.o.trans hx);clear hx sS;cases R with
  |none=>
   have hz:Z=1:=zg.o;subst hz;go_wp2;go_ret;exact⟨rfl,X2.o.alloc _⟩
  |some u=>
   have hz:Z=u.size:=zg.o;obtain⟨hu,hus⟩:=pR.o u rfl;simp only[Option.getD_some,Option.isSome_some];have ki:=aa (qu u (w2.alloc (.cells #[encStr u.aq,.int .i64 u.var,.slice u.A u.args.length u.cap] 53)) (hu.ext (X2.o.alloc _)) hus);have HZ:=aa hz;rw[←hz] at ki;clear hu hus hz zg pR;unfold bl at ki;go_wp2_with fail;refine ki.o.mono ?_;rintro e w3 ⟨rfl,hx⟩;go_wp2;go_ret;exact⟨rfl,(X2.o.alloc _).trans hx⟩
theorem Mj (S:Option Addr) (sc:Nat) (s:List Pr) (hn:s.length≤9223372036854775807) (t:Ty):∀(w:World),aH w t→ft w S s→t.size≤100000 →
  Calls Tryz.prog 235 #[.slice S s.length sc,bl t] w fun e w'=>(∃u,e=.returned (bl u)∧iX w w' (bF s) (bG s) t u)∧Ext w w':=by
 induction t using Ty.ind with
 |h t ih=>
 intro w h hS hsz;obtain⟨i1,hj,nB,gI,gM⟩:=info_parts nH;obtain⟨W,hW⟩:∃W,W=(w.alloc (.cells #[encStr t.aq,.int .i64 t.var,.slice t.A t.args.length t.cap] 53)).alloc (.cells #[.string ⟨#[]⟩,.int .i64 0,.slice none 0 0] 53):=⟨_,rfl⟩;have HW:=aa hW.symm;have X0:aiE (Ext w W):=aa (by rw[hW];exact((eR _).alloc _).alloc _);have B1:aiE (aU W w.heap.size t):=aa (by rw[hW];exact(aU.new w t).ext ((eR _).alloc _));have B2:aiE (W.heap[w.heap.size+1]?=some (.cells #[.string ⟨#[]⟩,.int .i64 0,.slice none 0 0] 53 (0,0))):=aa (by rw[hW];exact ah _ _ _ (by simp));have sK:W.heap.size=w.heap.size+2:=by rw[hW];simp
 have H:=aa h;have Ot:=aa hS;have Ht:=aa (hS.ja);have IH:=aa ih;have hle:=h.le;have hmx:=h.max;have hlen:=t.fy;clear h hS hW ih;unfold bl at *;cases hc:(t.aq == ([]:aj))
 ·have hc0:aiE (t.aq≠[]):=aa (by simpa using hc);have c0:=B1.o.c0;have c1:=B1.o.c1;have c2:=B1.o.c2;go_enter Tryz.func235,Tryz.ntmps235;go_upto_region 1 with fail;rw[HW.o];go_wp2
  go_loopw [7,8] (fun u i wr=>∃(k:Nat) (us:List Ty),k≤t.args.length∧i=.int .i64 k∧aiE (Ext W wr)∧aiE (wr.ownsRow (w.heap.size+2) 53 3 u us.length (us.flatMap dr.f))∧aiE (cJ w wr (fun c=>(w.heap.size≤c∧c<w.heap.size+2)∨u.ownBlock=some c) (bF s) (bG s) (t.args.take k) us)) (fun _ i _=>t.args.length - (intOf i).toNat)
  case atStart=>exact⟨0,[],aiH _,rfl,aa (eR _),aa (World.ownsRow_nil _ _ _ _),aa (cJ.nil _ _ _ _ _)⟩
  case round=>
   obtain⟨k,us,hk,rfl,HX,HO,HP⟩:=hrel;have KU:us.length≤t.args.length:=by have:=HP.o.len;rw[List.length_take] at this;omega
   have C1:=aa (B1.o.ext HX.o);have g1:=C1.o.c0;have g2:=C1.o.c1;have g3:=C1.o.c2;have XR:=aa (X0.o.trans HX.o);have aeM:=HX.o.size
   by_cases hlt:k<t.args.length
   ·have aN:(k:Int)<(t.args.length:Int):=by omega
    have cV:(0:Int)≤(k:Int):=by omega
    obtain⟨b,o,hA,hb,q0,q1,q2⟩:=(H.o.all.ext XR.o).at_ hlt;have cB:=aiF hlt;have BJ:=aa (IH.o _ cB wr ((H.o.all.args _ cB).ext XR.o) (Ot.o.ext XR.o) (by have:=Ty.bo cB;omega));have Hx:=aa (H.o.all.args _ cB);have dh:aiE (t.args.take (k+1)=t.args.take k++[t.args[k]'hlt]):=aa (aiJ hlt);generalize t.args[k]'hlt=x at *;rw[hA] at g3;clear hA cB;obtain⟨A5,c5,rfl,p1,p2,p3,p4⟩:=ak.own dr (l:=us) HO.o;have HPr:aiE (∀c,((w.heap.size≤c∧c<w.heap.size+2)∨(Value.slice A5 us.length c5).ownBlock=some c)→w.heap.size≤c∧c<wr.heap.size):=aa (fun c hc=>by
     rcases hc with hc|hc
     ·omega
     ·have:=HO.o.lt c hc;omega)
    clear p3 p4;go_wp2_with fail;refine BJ.o.mono ?_;rintro e w3 ⟨⟨u,rfl,hu⟩,hx3⟩;have N8:aiE (cJ w w3 (fun c=>(w.heap.size≤c∧c<w.heap.size+2)∨(Value.slice A5 us.length c5).ownBlock=some c) (bF s) (bG s) (t.args.take (k+1)) (us++[u])):=aa (by
     rw[dh.o];exact HP.o.snoc hu hx3 Hx.o Ht.o (by omega) HPr.o)
    have X3:=aa (HX.o.trans hx3);have O3:=aa (aZ HO.o hx3);have hs3:=X3.o.size;clear hu hx3;go_wp2_with (at_builtin;refine aD _ rfl _ _ 31 rfl (w.heap.size+2) 53 i1 _ 3 48 Tryz.underlying31 hj nB gI gM rfl (by decide) (.slice A5 us.length c5) us.length (us.flatMap dr.f) rfl (O3.o.alloc _) _ 1 1 [encStr u.aq,.int .i64 u.var,.slice u.A u.args.length u.cap] rfl ?c2 ?c3 ?c4 ?c5 ?c6 ?_)
    case c2=>exact Row.WZ _ _ _ (ah _ _ _ (by simp))
    case c3=>first|exact⟨rfl,rfl,rfl⟩|(intro y hy;simp at hy;rcases hy with rfl|rfl|rfl<;>rfl)
    case c4=>unfold maxLen;omega
    case c5=>omega
    case c6=>simp;omega
    intro v4 w4 br hg4 eW;have X4:=aa (Ext.app (X3.o.alloc _) hg4 (O3.o.alloc _) (by omega));have O4:aiE (w4.ownsRow (w.heap.size+2) 53 3 v4 (us++[u]).length ((us++[u]).flatMap dr.f)):=aa (by rw[kY,aiL];exact br);have HP4:aiE (cJ w w4 (fun c=>(w.heap.size≤c∧c<w.heap.size+2)∨v4.ownBlock=some c) (bF s) (bG s) (t.args.take (k+1)) (us++[u])):=aa (by
     have h1:=(N8.o.ext ((eR w3).alloc (.cells #[encStr u.aq,.int .i64 u.var,.slice u.A u.args.length u.cap] 53)));refine(h1.rows (R':=fun c=>((w.heap.size≤c∧c<w.heap.size+2)∨(Value.slice A5 us.length c5).ownBlock=some c)∨v4.ownBlock=some c) (fun c hc => ?_)).grown hg4 (fun c e=>.inl (.inr e))|>.rows (fun c hc=>.inl ?_)
     ·rcases hc with hc|hc
      ·exact .inl hc
      ·rcases eW with e|e
       ·exact .inl (.inr (e▸hc))
       ·rw[e] at hc;injection hc with hc;exact .inr (by rw[World.size_alloc];omega)
     ·exact hc.elim (fun h=>.inl (.inl h)) .inr)
    clear br hg4 eW N8;go_wp2;go_roundw
    case rel=>exact⟨k+1,us++[u],hlt,by go_num,X4,O4,HP4⟩
    case measure=>simp[intOf];omega
   ·have bS:¬(k:Int)<(t.args.length:Int):=by omega
    have BK:aiE (cJ w wr (fun c=>w.heap.size≤c∧c<w.heap.size+2) (bF s) (bG s) t.args us):=aa (by have:=HP.o;rw[aiK (by omega)] at this;exact this.rows (fun c hc=>.inl (.inl hc)));obtain⟨A5,c5,rfl,p1,p2,p3,p4⟩:=ak.own dr (l:=us) HO.o;have P3:=aa p3;have P4:aiE (∀a,A5=some a→w.heap.size+2≤a.block):=aa (fun a e=>by
     subst e
     by_cases hn:us.length=0
     ·have h2:=HO.o.lt a.block
      rcases HO.o.2 with ⟨h3,-⟩|⟨g,cap,cur,h3,h4,-⟩
      ·cases h3
      ·injection h3 with h3;injection h3 with h3;subst h3;show w.heap.size+2≤g;omega
     ·obtain⟨g,o,e,-⟩:=p3.2 (by omega);injection e with e;subst e;have:=(p4 g o rfl).1;show w.heap.size+2≤g;omega)
    have C2:=aa ((HX.o.heap (ae B2.o)).trans B2.o);clear HO HP p3 p4;have fb:=C1.o.free 2;have f0:=ai C2.o 0;have f1:=ai C2.o 1;have f2:=ai C2.o 2;have k0:=ag C2.o 0;have k1:=ag C2.o 1;have k2:=ag C2.o 2;simp only[aiN,aiO,aiP] at k0 k1 k2;obtain⟨U,hU⟩:∃U:Ty,U=.mk t.aq t.var A5 c5 us:=⟨_,rfl⟩;obtain⟨WF,iM⟩:∃WF,WF=(((wr.setCell ⟨w.heap.size,2,none⟩ (.slice A5 us.length c5)).setCell ⟨w.heap.size+1,0,none⟩ (encStr t.aq)).setCell ⟨w.heap.size+1,1,none⟩ (.int .i64 t.var)).setCell ⟨w.heap.size+1,2,none⟩ (.slice A5 us.length c5):=⟨_,rfl⟩;have XF:aiE (Ext w WF):=aa (by rw[iM];exact(((( X0.o.trans HX.o).setCell (by simp) _).setCell (by simp) _).setCell (by simp) _).setCell (by simp) _);have PF:aiE (iX w WF (bF s) (bG s) t U):=aa (by
     have Zl:=cf (wr.setCell ⟨w.heap.size,2,none⟩ (.slice A5 us.length c5)) (w.heap.size+1) 0 1 2 (encStr t.aq) (.int .i64 t.var) (.slice A5 us.length c5);rw[←iM] at Zl;have h1:=(BK.o.grown (aL wr w.heap.size 2 (.slice A5 us.length c5)) (fun c e=>by injection e with e;omega)).grown Zl (fun c e=>by injection e with e;omega);have h2:ak dr WF A5 us:=ew (ew P3.o (aL wr w.heap.size 2 (.slice A5 us.length c5)) (fun _ a e e2=>by have:=P4.o a e;injection e2 with e2;omega)) Zl (fun _ a e e2=>by have:=P4.o a e;injection e2 with e2;omega);rw[hU];exact h1.done hc0.o H.o.txt p1 p2 h2 (fun _ a e=>by have:=P4.o a e;omega))
    have Tn:bl U=.agg #[encStr t.aq,.int .i64 t.var,.slice A5 us.length c5]:=by rw[hU];rfl
    clear BK hU P3 P4;go_wp2;rw[←iM];refine bodyPost_ret (v:=.agg #[encStr t.aq,.int .i64 t.var,.slice A5 us.length c5]) ?_ rfl ⟨⟨U,by rw[←Tn];rfl,PF.o⟩,XF.o⟩;rw[iM];simp[results,Tryz.f235,go_sem,k0,k1,k2]
 ·have hc0:aiE (t.aq=[]):=aa (by simpa using hc);have HP:=aa (iX.var (vars:=bF s) (types:=bG s) hc0.o H.o Ht.o);have HG:=aa (vX S sc s t.var W (Ot.o.ext X0.o) hn);have XF:∀u:Ty,∀wr,Ext W wr→aiE (Ext w (((wr.setCell ⟨w.heap.size+1,0,none⟩ (encStr u.aq)).setCell ⟨w.heap.size+1,1,none⟩ (.int .i64 u.var)).setCell ⟨w.heap.size+1,2,none⟩ (.slice u.A u.args.length u.cap))):=fun u wr e=>aa ((((X0.o.trans e).setCell (by simp) _).setCell (by simp) _).setCell (by simp) _)
  generalize putAt (bF s) (bG s) t.var=R at *;unfold bl at HG;have c0:=B1.o.c0;have c1:=B1.o.c1;have c2:=B1.o.c2;go_enter Tryz.func235,Tryz.ntmps235;go_upto_region 1 with fail;rw[HW.o];go_wp2_with fail;refine HG.o.mono ?_;rintro e w2 ⟨rfl,hx⟩;have X2:=aa hx;have C1:=aa (B1.o.ext hx);have C2:=aa ((hx.heap (ae B2.o)).trans B2.o);clear hx c0 c1 c2 HG;cases R with
  |none=>
   simp only[Option.getD_none,Option.isSome_none];obtain⟨W3,hW3⟩:∃W3,W3=w2.alloc (.cells #[encStr Ty.zero.aq,.int .i64 Ty.zero.var,.slice Ty.zero.A Ty.zero.args.length Ty.zero.cap] 53):=⟨_,rfl⟩;have X3:aiE (Ext w2 W3):=aa (by rw[hW3];exact(eR _).alloc _);have W6:=aa (C1.o.ext X3.o);have zY:=aa ((X3.o.heap (ae C2.o)).trans C2.o);have g0:=W6.o.c0;have g1:=W6.o.c1;have g2:=W6.o.c2;have hbl:=W6.o.lt;have f0:=ai zY.o 0;have f1:=ai zY.o 1;have f2:=ai zY.o 2;have k0:=ag zY.o 0;have k1:=ag zY.o 1;have k2:=ag zY.o 2;have R7:=ae zY.o;simp only[aiN,aiO,aiP] at k0 k1 k2;have TW:=XF t W3 (X2.o.trans X3.o);go_upto_region 3 with fail;rw[←hW3];clear hW3;go_wp2;refine bodyPost_ret (v:=.agg #[encStr t.aq,.int .i64 t.var,.slice t.A t.args.length t.cap]) ?_ rfl ⟨⟨t,rfl,HP.o.ext TW.o⟩,TW.o⟩;simp[results,Tryz.f235,go_sem,k0,k1,k2]
  |some u=>
   simp only[Option.getD_some,Option.isSome_some];obtain⟨W3,hW3⟩:∃W3,W3=w2.alloc (.cells #[encStr u.aq,.int .i64 u.var,.slice u.A u.args.length u.cap] 53):=⟨_,rfl⟩;have X3:aiE (Ext w2 W3):=aa (by rw[hW3];exact(eR _).alloc _);have D3:aiE (aU W3 w2.heap.size u):=aa (by rw[hW3];exact aU.new w2 u);have zY:=aa ((X3.o.heap (ae C2.o)).trans C2.o);have g0:=D3.o.c0;have g1:=D3.o.c1;have g2:=D3.o.c2;have hbl:=D3.o.lt;have f0:=ai zY.o 0;have f1:=ai zY.o 1;have f2:=ai zY.o 2;have k0:=ag zY.o 0;have k1:=ag zY.o 1;have k2:=ag zY.o 2;have R7:=ae zY.o;simp only[aiN,aiO,aiP] at k0 k1 k2;have TW:=XF u W3 (X2.o.trans X3.o);go_upto_region 3 with fail;rw[←hW3];clear hW3;go_wp2;refine bodyPost_ret (v:=.agg #[encStr u.aq,.int .i64 u.var,.slice u.A u.args.length u.cap]) ?_ rfl ⟨⟨u,rfl,HP.o.ext TW.o⟩,TW.o⟩;simp[results,Tryz.f235,go_sem,k0,k1,k2]
theorem BW (S:Option Addr) (sc:Nat) (s:List Pr) (x:Int) (t:Ty) (w:World) (h:ft w S s) (hle:s.length≤sc) (hmx:sc≤9223372036854775807) (hr:gg s) (ht:aH w t) (hsz:t.size≤900000) (hl:ax t=true) (hf:s.length≤100000) (hno:putAt (bF s) (bG s) x=none) :
  Calls Tryz.prog 181 #[.slice S s.length sc,.int .i64 x,bl t] w fun e w'=>(∃i A cap,e=.returned (.tuple #[.slice A (cG s i x t).length cap,.int .i64 0])∧vA s x i∧ft w' A (cG s i x t)∧(cG s i x t).length≤cap∧cap≤9223372036854775807)∧Ext w w':=by
 obtain⟨i0,hi,hz0,hz1,hz2⟩:=info_parts oz;obtain⟨W,hW⟩:∃W,W=w.alloc (.cells #[encStr t.aq,.int .i64 t.var,.slice t.A t.args.length t.cap] 53):=⟨_,rfl⟩;have HW:=aa hW.symm;have X0:aiE (Ext w W):=aa (by rw[hW];exact(eR _).alloc _);have B1:aiE (aU W w.heap.size t):=aa (by rw[hW];exact aU.new w t);have H:=aa h;have HT:=aa ht;have Xa:=aa hr;have aeP:=ht.le;have aeQ:=ht.max;have oV:=aa (fM t W (ht.ext X0.o) hsz);rw[hl] at oV;have Zm:=aa (fun w' (e:Ext w w')=>vX S sc s x w' (h.ext e) (by omega));rw[hno] at Zm;have kZ:=aa ((np hr).1 hno);have c0:=B1.o.c0;have c1:=B1.o.c1;have c2:=B1.o.c2;have hbl:=B1.o.lt;clear hW h ht hr hl hno hsz;unfold bl at *;go_enter Tryz.func181,Tryz.ntmps181;go_upto_region 1 with fail;rw[HW.o];clear HW;go_wp2_with fail;refine oV.o.mono ?_;rintro e w2 ⟨rfl,hx⟩;have X2:=aa (X0.o.trans hx);have Y2:=aa hx;clear hx oV c0 c1 c2 hbl;have sS:=aa (Zm.o w2 X2.o);clear Zm;simp only[Option.getD_none,Option.isSome_none] at sS;go_wp2_with fail;refine sS.o.mono ?_;rintro e w3 ⟨rfl,hx⟩;obtain⟨W4,uh⟩:∃W4,W4=w3.alloc (.cells #[encStr Ty.zero.aq,.int .i64 Ty.zero.var,.slice Ty.zero.A Ty.zero.args.length Ty.zero.cap] 53):=⟨_,rfl⟩;have TX:aiE (Ext w3 W4):=aa (by rw[uh];exact(eR _).alloc _);have X4:=aa (X2.o.trans (hx.trans TX.o));have Y4:=aa (Y2.o.trans (hx.trans TX.o));clear hx sS;go_upto_region 4 with fail;rw[←uh];clear uh;go_wp2
 go_loopw [10] (fun i wr=>∃k:Nat,k≤s.length∧i=.int .i64 k∧aiE (∀j (h:j<s.length),j<k→(s[j]'h).v<x)∧aiE (Ext W4 wr)) (fun i _=>s.length - (intOf i).toNat)
 case atStart=>exact⟨0,aiH _,rfl,aa (fun j _ hj=>absurd hj (by omega)),aa (eR _)⟩
 case round=>
  obtain⟨k,hk,rfl,HJ,HX⟩:=hrel;have XR:=aa (X4.o.trans HX.o)
  by_cases hgo:∃hlt:k<s.length,(s[k]'hlt).v<x
  ·obtain⟨hlt,hv⟩:=hgo;have aN:(k:Int)<(s.length:Int):=by omega
   have cV:(0:Int)≤(k:Int):=by omega
   obtain⟨b,o,rfl,hb,q0,q1,q2,q3⟩:=oB (H.o.ext XR.o).row hlt;have jU:aiE (∀j (h:j<s.length),j<k+1→(s[j]'h).v<x):=aa (fun j hj hjk=>by
    by_cases e:j=k
    ·subst e;exact hv
    ·exact HJ.o j hj (by omega))
   generalize s[k]'hlt=y at *;go_wp2;go_roundw
   case rel=>exact⟨k+1,hlt,by go_num,jU,HX⟩
   case measure=>simp[intOf];omega
  ·have zT:aiE (vA s x k):=aa ⟨hk,fun j hj hjk=>HJ.o j hj hjk,fun j hj hkj=>by
    have h1:k<s.length:=by omega
    have h2:¬(s[k]'h1).v<x:=fun h=>hgo ⟨h1,h⟩
    rcases Nat.lt_or_ge k j with h3|h3
    ·have:=iK Xa.o h3 hj;omega
    ·have:j=k:=by omega
     subst this;omega⟩
   have Ic:aiE (Row wr S 4 k ((s.take k).flatMap bQ.f)):=aa (by
    have:=ak.take bQ (H.o.ext XR.o).row hk;unfold ak at this
    rwa [List.length_take,Nat.min_eq_left hk] at this)
   have zZ:aiE ((cG s k x t).length=s.length+1):=aa (kn hk);have pR:aiE (∀w',Ext w w'→∀p∈cG s k x t,aH w' p.ty):=aa (fun w' e p hp=>by
    rcases gh.1 hp with rfl|hp
    ·exact HT.o.ext e
    ·exact(H.o.ty p hp).ext e)
   have HS:aiE (∀w',Ext wr w'→w'.cell? ⟨w.heap.size,0,none⟩=some (encStr t.aq)∧w'.cell? ⟨w.heap.size,1,none⟩=some (.int .i64 t.var)∧w'.cell? ⟨w.heap.size,2,none⟩=some (.slice t.A t.args.length t.cap)):=aa (fun w' e=>by
    have:=B1.o.ext (Y4.o.trans (HX.o.trans e));exact⟨this.c0,this.c1,this.c2⟩)
   have sB:(k:Int)≤(s.length:Int):=by omega
   have hk2:(k:Int)≤(sc:Int):=by omega
   have hk3:(s.length:Int)≤(sc:Int):=by omega
   have hk4:(0:Int)≤(k:Int):=by omega
   obtain⟨s0,s1',s2'⟩:=HS.o wr (eR _);have hbr:w.heap.size<wr.heap.size:=(B1.o.ext (Y4.o.trans HX.o)).lt
   by_cases mP:sc=k
   ·have j3:k=s.length:=by omega
    have Qd:aiE ((s.take k).flatMap bQ.f++[.int .i64 x,encStr t.aq,.int .i64 t.var,.slice t.A t.args.length t.cap]++[]=(cG s k x t).flatMap bQ.f):=aa (by
     unfold cG;rw[List.flatMap_append,List.flatMap_cons,List.drop_eq_nil_of_le (by omega),List.flatMap_nil,List.append_nil,List.append_nil];rfl)
    have hns:¬(k:Int)<(s.length:Int):=by omega
    subst j3;subst mP;go_wp2
    go_region_held3 (fun w'=>w'.cell? ⟨w.heap.size,0,none⟩=some (encStr t.aq)∧w'.cell? ⟨w.heap.size,1,none⟩=some (.int .i64 t.var)∧w'.cell? ⟨w.heap.size,2,none⟩=some (.slice t.A t.args.length t.cap)) (first|assumption|go_keep) (first
     |(
      refine aK _ rfl (.const (.slice none 0 0)) (.tmp 40) 190 rfl wr.heap.size 194 i0 _ 4 56 Tryz.underlying190 hi hz0 hz1 hz2 rfl (by decide) (.slice none 0 0) 0 [] rfl (World.ownsRow_nil _ _ _ _) S s.length s.length ((s.take s.length).flatMap bQ.f) rfl (Row.ext Ic.o (w:=wr) (by repeat(first|exact eR _|exact eA (by assumption) _|refine eA ?_ _|refine eM ?_ _ _|refine eD ?_|refine eN ?_ _))) (fV _) (by unfold maxLen;omega) (by omega) (Ext.size (w:=wr) (by repeat(first|exact eR _|exact eA (by assumption) _|refine eA ?_ _|refine eM ?_ _ _|refine eD ?_|refine eN ?_ _))) ?_;intro v1 w2 hown1 hg1 Ie;have X1:aiE (Ext wr w2):=aa (Ext.app (w:=wr) (by repeat(first|exact eR _|exact eA (by assumption) _|refine eA ?_ _|refine eM ?_ _ _|refine eD ?_|refine eN ?_ _)) hg1 (World.ownsRow_nil _ wr.heap.size 194 4) (aiG _));have TY:=aa hg1;rw[Nat.zero_add,List.nil_append] at hown1;have O1:=aa hown1;have s1:=HS.o _ X1.o;clear hown1 hg1 Ie)
     |(
      refine aK _ rfl (.tmp 46) (.tmp 49) 190 rfl wr.heap.size 194 i0 _ 4 56 Tryz.underlying190 hi hz0 hz1 hz2 rfl (by decide) v2 (s.length+1) ((s.take s.length).flatMap bQ.f++[.int .i64 x,encStr t.aq,.int .i64 t.var,.slice t.A t.args.length t.cap]) rfl O2.o S 0 0 [] rfl (ak.nil bQ _ _) (by simp) (by unfold maxLen;omega) (by omega) (by have:=X3.o.size;omega) ?_;intro v3 w4 gO hg3 qW;have X4:aiE (Ext wr w4):=aa (Ext.app X3.o hg3 O2.o (aiG _));have O3:=aa gO;have s3:=HS.o _ X4.o;clear gO hg3 qW)
     |(
      refine aK _ rfl (.tmp 41) (.tmp 45) 190 rfl wr.heap.size 194 i0 _ 4 56 Tryz.underlying190 hi hz0 hz1 hz2 rfl (by decide) v1 s.length ((s.take s.length).flatMap bQ.f) rfl (by first|exact O1.o.alloc _|exact O1.o) (some ⟨_,0,none⟩) 1 1 [.int .i64 x,encStr t.aq,.int .i64 t.var,.slice t.A t.args.length t.cap] rfl (by first|exact ak.block bQ [⟨x,t⟩] (heap_alloc_new _ _)|exact ak.block bQ [⟨x,t⟩] ((TY.o.block _ (by simp) (by simp[Value.ownBlock])).trans (ah _ _ _ (by simp)))) (by intro u hu;simp at hu;rcases hu with rfl|rfl|rfl|rfl<;>rfl) (by unfold maxLen;omega) (by omega) (Ext.size (w:=wr) (by first|exact X1.o.alloc _|exact X1.o)) ?_;intro v2 w3 hown2 hg2 Ig;have X3:aiE (Ext wr w3):=aa (Ext.app (w:=wr) (by first|exact X1.o.alloc _|exact X1.o) hg2 (by first|exact O1.o.alloc _|exact O1.o) (aiG _));have O2:=aa hown2;have s2:=HS.o _ X3.o;clear hown2 hg2 Ig))
    all_goals
     have h3:=O3.o;rw[show s.length+1+0=(cG s s.length x t).length by have:=zZ.o;omega,show(s.take s.length).flatMap bQ.f++[.int .i64 x,encStr t.aq,.int .i64 t.var,.slice t.A t.args.length t.cap]++[]=(cG s s.length x t).flatMap bQ.f from Qd.o] at h3;obtain⟨A',cap',rfl,hc1,hc2,hs,-⟩:=ak.own bQ (l:=cG s s.length x t) h3;have Hs:aiE (ft w4 A' (cG s s.length x t)):=aa ⟨hs,fun p hp=>pR.o w4 (XR.o.trans X4.o) p hp⟩;have XX:=aa (XR.o.trans X4.o);clear h3 hs O3;go_wp2;refine bodyPost_ret (v:=.tuple #[.slice A' (cG s s.length x t).length cap',.int .i64 0]) (by simp[results,Tryz.results181,go_sem]) rfl ⟨⟨s.length,A',cap',rfl,zT.o,Hs.o,hc1,hc2⟩,XX.o⟩
   ·have Qd:aiE ((s.take k).flatMap bQ.f++[.int .i64 x,encStr t.aq,.int .i64 t.var,.slice t.A t.args.length t.cap]++(s.drop k).flatMap bQ.f=(cG s k x t).flatMap bQ.f):=aa (by
     unfold cG;rw[List.flatMap_append,List.flatMap_cons,List.append_assoc];rfl)
    have Qe:aiE (Row wr (S.map (·.add (k*4))) 4 (s.length - k) ((s.drop k).flatMap bQ.f)):=aa (by
     have:=ak.cut bQ (H.o.ext XR.o).row hk hle;rw[if_neg mP] at this;unfold ak at this
     rwa [List.length_drop] at this)
    by_cases hlt:k<s.length
    ·have aN:(k:Int)<(s.length:Int):=by omega
     have hv:¬(s[k]'hlt).v<x:=fun h=>hgo ⟨hlt,h⟩
     obtain⟨b,o,hA,hb,q0,q1,q2,q3⟩:=oB (H.o.ext XR.o).row hlt;generalize s[k]'hlt=y at *;subst hA;have TZ:aiE (Row wr (some ⟨b,o+k*4,none⟩) 4 (s.length - k) ((s.drop k).flatMap bQ.f)):=aa (by
      have h1:=Qe.o;have h2:Option.map (·.add (k*4)) (some (⟨b,o,none⟩:Addr))=some ⟨b,o+k*4,none⟩:=by
       by_cases h0:k*4=0
       ·rw[h0];rfl
       ·show some (Addr.add _ _)=_;unfold Addr.add;rw[if_neg h0]
      rwa [h2] at h1)
     clear Qe;go_wp2
     go_region_held3 (fun w'=>w'.cell? ⟨w.heap.size,0,none⟩=some (encStr t.aq)∧w'.cell? ⟨w.heap.size,1,none⟩=some (.int .i64 t.var)∧w'.cell? ⟨w.heap.size,2,none⟩=some (.slice t.A t.args.length t.cap)) (first|assumption|go_keep) (first
      |(
       refine aK _ rfl (.const (.slice none 0 0)) (.tmp 40) 190 rfl wr.heap.size 194 i0 _ 4 56 Tryz.underlying190 hi hz0 hz1 hz2 rfl (by decide) (.slice none 0 0) 0 [] rfl (World.ownsRow_nil _ _ _ _) (some ⟨b,o,none⟩) k sc ((s.take k).flatMap bQ.f) rfl (Row.ext Ic.o (w:=wr) (by repeat(first|exact eR _|exact eA (by assumption) _|refine eA ?_ _|refine eM ?_ _ _|refine eD ?_|refine eN ?_ _))) (fV _) (by unfold maxLen;omega) (by omega) (Ext.size (w:=wr) (by repeat(first|exact eR _|exact eA (by assumption) _|refine eA ?_ _|refine eM ?_ _ _|refine eD ?_|refine eN ?_ _))) ?_;intro v1 w2 hown1 hg1 Ie;have X1:aiE (Ext wr w2):=aa (Ext.app (w:=wr) (by repeat(first|exact eR _|exact eA (by assumption) _|refine eA ?_ _|refine eM ?_ _ _|refine eD ?_|refine eN ?_ _)) hg1 (World.ownsRow_nil _ wr.heap.size 194 4) (aiG _));have TY:=aa hg1;rw[Nat.zero_add,List.nil_append] at hown1;have O1:=aa hown1;have s1:=HS.o _ X1.o;clear hown1 hg1 Ie)
      |(
       refine aK _ rfl (.tmp 46) (.tmp 49) 190 rfl wr.heap.size 194 i0 _ 4 56 Tryz.underlying190 hi hz0 hz1 hz2 rfl (by decide) v2 (k+1) ((s.take k).flatMap bQ.f++[.int .i64 x,encStr t.aq,.int .i64 t.var,.slice t.A t.args.length t.cap]) rfl O2.o (some ⟨b,o+k*4,none⟩) (s.length - k) (sc - k) ((s.drop k).flatMap bQ.f) rfl (TZ.o.ext X3.o) (fV _) (by unfold maxLen;omega) (by omega) (by have:=X3.o.size;omega) ?_;intro v3 w4 gO hg3 qW;have X4:aiE (Ext wr w4):=aa (Ext.app X3.o hg3 O2.o (aiG _));have O3:=aa gO;have s3:=HS.o _ X4.o;clear gO hg3 qW)
      |(
       refine aK _ rfl (.tmp 41) (.tmp 45) 190 rfl wr.heap.size 194 i0 _ 4 56 Tryz.underlying190 hi hz0 hz1 hz2 rfl (by decide) v1 k ((s.take k).flatMap bQ.f) rfl (by first|exact O1.o.alloc _|exact O1.o) (some ⟨_,0,none⟩) 1 1 [.int .i64 x,encStr t.aq,.int .i64 t.var,.slice t.A t.args.length t.cap] rfl (by first|exact ak.block bQ [⟨x,t⟩] (heap_alloc_new _ _)|exact ak.block bQ [⟨x,t⟩] ((TY.o.block _ (by simp) (by simp[Value.ownBlock])).trans (ah _ _ _ (by simp)))) (by intro u hu;simp at hu;rcases hu with rfl|rfl|rfl|rfl<;>rfl) (by unfold maxLen;omega) (by omega) (Ext.size (w:=wr) (by first|exact X1.o.alloc _|exact X1.o)) ?_;intro v2 w3 hown2 hg2 Ig;have X3:aiE (Ext wr w3):=aa (Ext.app (w:=wr) (by first|exact X1.o.alloc _|exact X1.o) hg2 (by first|exact O1.o.alloc _|exact O1.o) (aiG _));have O2:=aa hown2;have s2:=HS.o _ X3.o;clear hown2 hg2 Ig))
     all_goals
      have h3:=O3.o;rw[show k+1+(s.length - k)=(cG s k x t).length by have:=zZ.o;omega,show(s.take k).flatMap bQ.f++[.int .i64 x,encStr t.aq,.int .i64 t.var,.slice t.A t.args.length t.cap]++((s.drop k).flatMap bQ.f)=(cG s k x t).flatMap bQ.f from Qd.o] at h3;obtain⟨A',cap',rfl,hc1,hc2,hs,-⟩:=ak.own bQ (l:=cG s k x t) h3;have Hs:aiE (ft w4 A' (cG s k x t)):=aa ⟨hs,fun p hp=>pR.o w4 (XR.o.trans X4.o) p hp⟩;have XX:=aa (XR.o.trans X4.o);clear h3 hs O3;go_wp2;refine bodyPost_ret (v:=.tuple #[.slice A' (cG s k x t).length cap',.int .i64 0]) (by simp[results,Tryz.results181,go_sem]) rfl ⟨⟨k,A',cap',rfl,zT.o,Hs.o,hc1,hc2⟩,XX.o⟩
    ·have hns:¬(k:Int)<(s.length:Int):=by omega
     go_wp2
     go_region_held3 (fun w'=>w'.cell? ⟨w.heap.size,0,none⟩=some (encStr t.aq)∧w'.cell? ⟨w.heap.size,1,none⟩=some (.int .i64 t.var)∧w'.cell? ⟨w.heap.size,2,none⟩=some (.slice t.A t.args.length t.cap)) (first|assumption|go_keep) (first
      |(
       refine aK _ rfl (.const (.slice none 0 0)) (.tmp 40) 190 rfl wr.heap.size 194 i0 _ 4 56 Tryz.underlying190 hi hz0 hz1 hz2 rfl (by decide) (.slice none 0 0) 0 [] rfl (World.ownsRow_nil _ _ _ _) S k sc ((s.take k).flatMap bQ.f) rfl (Row.ext Ic.o (w:=wr) (by repeat(first|exact eR _|exact eA (by assumption) _|refine eA ?_ _|refine eM ?_ _ _|refine eD ?_|refine eN ?_ _))) (fV _) (by unfold maxLen;omega) (by omega) (Ext.size (w:=wr) (by repeat(first|exact eR _|exact eA (by assumption) _|refine eA ?_ _|refine eM ?_ _ _|refine eD ?_|refine eN ?_ _))) ?_;intro v1 w2 hown1 hg1 Ie;have X1:aiE (Ext wr w2):=aa (Ext.app (w:=wr) (by repeat(first|exact eR _|exact eA (by assumption) _|refine eA ?_ _|refine eM ?_ _ _|refine eD ?_|refine eN ?_ _)) hg1 (World.ownsRow_nil _ wr.heap.size 194 4) (aiG _));have TY:=aa hg1;rw[Nat.zero_add,List.nil_append] at hown1;have O1:=aa hown1;have s1:=HS.o _ X1.o;clear hown1 hg1 Ie)
      |(
       refine aK _ rfl (.tmp 46) (.tmp 49) 190 rfl wr.heap.size 194 i0 _ 4 56 Tryz.underlying190 hi hz0 hz1 hz2 rfl (by decide) v2 (k+1) ((s.take k).flatMap bQ.f++[.int .i64 x,encStr t.aq,.int .i64 t.var,.slice t.A t.args.length t.cap]) rfl O2.o (S.map (·.add (k*4))) (s.length - k) (sc - k) ((s.drop k).flatMap bQ.f) rfl (Qe.o.ext X3.o) (fV _) (by unfold maxLen;omega) (by omega) (by have:=X3.o.size;omega) ?_;intro v3 w4 gO hg3 qW;have X4:aiE (Ext wr w4):=aa (Ext.app X3.o hg3 O2.o (aiG _));have O3:=aa gO;have s3:=HS.o _ X4.o;clear gO hg3 qW)
      |(
       refine aK _ rfl (.tmp 41) (.tmp 45) 190 rfl wr.heap.size 194 i0 _ 4 56 Tryz.underlying190 hi hz0 hz1 hz2 rfl (by decide) v1 k ((s.take k).flatMap bQ.f) rfl (by first|exact O1.o.alloc _|exact O1.o) (some ⟨_,0,none⟩) 1 1 [.int .i64 x,encStr t.aq,.int .i64 t.var,.slice t.A t.args.length t.cap] rfl (by first|exact ak.block bQ [⟨x,t⟩] (heap_alloc_new _ _)|exact ak.block bQ [⟨x,t⟩] ((TY.o.block _ (by simp) (by simp[Value.ownBlock])).trans (ah _ _ _ (by simp)))) (by intro u hu;simp at hu;rcases hu with rfl|rfl|rfl|rfl<;>rfl) (by unfold maxLen;omega) (by omega) (Ext.size (w:=wr) (by first|exact X1.o.alloc _|exact X1.o)) ?_;intro v2 w3 hown2 hg2 Ig;have X3:aiE (Ext wr w3):=aa (Ext.app (w:=wr) (by first|exact X1.o.alloc _|exact X1.o) hg2 (by first|exact O1.o.alloc _|exact O1.o) (aiG _));have O2:=aa hown2;have s2:=HS.o _ X3.o;clear hown2 hg2 Ig))
     all_goals
      have h3:=O3.o;rw[show k+1+(s.length - k)=(cG s k x t).length by have:=zZ.o;omega,show(s.take k).flatMap bQ.f++[.int .i64 x,encStr t.aq,.int .i64 t.var,.slice t.A t.args.length t.cap]++((s.drop k).flatMap bQ.f)=(cG s k x t).flatMap bQ.f from Qd.o] at h3;obtain⟨A',cap',rfl,hc1,hc2,hs,-⟩:=ak.own bQ (l:=cG s k x t) h3;have Hs:aiE (ft w4 A' (cG s k x t)):=aa ⟨hs,fun p hp=>pR.o w4 (XR.o.trans X4.o) p hp⟩;have XX:=aa (XR.o.trans X4.o);clear h3 hs O3;go_wp2;refine bodyPost_ret (v:=.tuple #[.slice A' (cG s k x t).length cap',.int .i64 0]) (by simp[results,Tryz.results181,go_sem]) rfl ⟨⟨k,A',cap',rfl,zT.o,Hs.o,hc1,hc2⟩,XX.o⟩
set_option maxRecDepth 512
set_option maxHeartbeats 200000
structure Qf (w w':World) (s:List Pr) (t u:Ty):Prop where
 ty:aH w' u
 is:u.pure=fZ (bF s) (bG s) t
 away:∀c,c<w.heap.size→aC c t=true→(∀k∈bG s,aC c k=true)→aC c u=true
set_option maxRecDepth 10000
set_option maxHeartbeats 8000000
theorem DN (S:Option Addr) (sc:Nat) (s:List Pr) (t:Ty) (w:World) (h:ft w S s) (hn:s.length≤9223372036854775807) (hsm:∀p∈s,ax p.ty=true) (ht:aH w t) (hl:ax t=true) (h1:iD (bF s) (bG s) t≤4096) (h2:oU (bF s) (bG s) t≤100) :
  Calls Tryz.prog 214 #[.slice S s.length sc,bl t] w fun e w'=>(∃u,e=.returned (.tuple #[bl u,.int .i64 0])∧Qf w w' s t u)∧Ext w w':=by
 obtain⟨W,hW⟩:∃W,W=(w.alloc (.cells #[encStr t.aq,.int .i64 t.var,.slice t.A t.args.length t.cap] 53)).alloc (.cells #[.string ⟨#[]⟩,.int .i64 0,.slice none 0 0] 53):=⟨_,rfl⟩;have HW:=aa hW.symm;have X0:aiE (Ext w W):=aa (by rw[hW];exact((eR _).alloc _).alloc _);have B1:aiE (aU W w.heap.size t):=aa (by rw[hW];exact(aU.new w t).ext ((eR _).alloc _));have B2:aiE (W.heap[w.heap.size+1]?=some (.cells #[.string ⟨#[]⟩,.int .i64 0,.slice none 0 0] 53 (0,0))):=aa (by rw[hW];exact ah _ _ _ (by simp));have jr:t.size≤4096:=(aS hl).1;have sx:∀p∈s,p.ty.size≤1000000:=fun p hp=>by have:=(aS (hsm p hp)).1;omega
 have PS:=aa (fM t W (ht.ext X0.o) (by omega));rw[hl] at PS;have ki:=aa (fun w' (e:Ext w w')=>aa (Ib S sc s hn sx t w' (ht.ext e) (h.ext e) (by omega)));have Sd:=aa (fun w' (e:Ext w w')=>aa (Mj S sc s hn t w' (ht.ext e) (h.ext e) (by omega)));have Zn:=aa (fun(u:Ty) (e:u.pure=fZ (bF s) (bG s) t)=>show ax u=true∧u.size≤900000 by
  have h3:=tV (vars:=bF s) (types:=bG s) (fun k hk=>by obtain⟨p,hp,rfl⟩:=List.mem_map.1 hk;exact hsm p hp) hl e;rw[decide_eq_true h1,decide_eq_true h2] at h3;exact⟨h3,by have:=(aS h3).1;omega⟩)
 have n9:=aa (fun c (hc:w.heap.size≤c)=>aiI (aP ht hc) (fun k (hk:k∈bG s)=>aP (h.ja k hk) hc));have hz:¬(4096:Int)<(iD (bF s) (bG s) t:Int):=by omega
 have hz2:(iD (bF s) (bG s) t:Int)≤4096:=by omega
 generalize iD (bF s) (bG s) t=Z at *;have c0:=B1.o.c0;have c1:=B1.o.c1;have c2:=B1.o.c2;have hbl:=B1.o.lt;clear hW h ht hl hsm jr sx h1 h2;unfold bl at *;go_enter Tryz.func214,Tryz.ntmps214;go_upto_region 1 with fail;rw[HW.o];clear HW;go_wp2_with fail;refine PS.o.mono ?_;rintro e w2 ⟨rfl,hx⟩;have X2:=aa (X0.o.trans hx);have C1:=aa (B1.o.ext hx);have C2:=aa ((hx.heap (ae B2.o)).trans B2.o);clear hx PS c0 c1 c2 hbl;have c0:=C1.o.c0;have c1:=C1.o.c1;have c2:=C1.o.c2;have hbl:=C1.o.lt;go_wp2_with fail;refine(ki.o w2 X2.o).o.mono ?_;rintro e w3 ⟨rfl,hx⟩;have X3:=aa (X2.o.trans hx);have D1:=aa (C1.o.ext hx);have D2:=aa ((hx.heap (ae C2.o)).trans C2.o);clear hx ki c0 c1 c2 hbl C1 C2;have c0:=D1.o.c0;have c1:=D1.o.c1;have c2:=D1.o.c2;have hbl:=D1.o.lt;go_wp2_with fail;refine(Sd.o w3 X3.o).o.mono ?_;rintro e w4 ⟨⟨u,rfl,hu⟩,hx⟩;obtain⟨W5,lI⟩:∃W5,W5=w4.alloc (.cells #[encStr u.aq,.int .i64 u.var,.slice u.A u.args.length u.cap] 53):=⟨_,rfl⟩;have zA:aiE (Ext w4 W5):=aa (by rw[lI];exact(eR _).alloc _);have X5:=aa (X3.o.trans (hx.trans zA.o));have E2:=aa (((hx.trans zA.o).heap (ae D2.o)).trans D2.o);have U5:aiE (aU W5 w4.heap.size u):=aa (by rw[lI];exact aU.new w4 u);have Hu:=aa (hu.ext zA.o);have Xb:=aa (fM u W5 Hu.o.ty (Zn.o u hu.is).2);rw[(Zn.o u hu.is).1] at Xb;have hs3:=X3.o.size;have hs0:w.heap.size+2≤w3.heap.size:=by
  have h1:=ae D2.o;omega
 clear hx hu Sd c0 c1 c2 hbl D1 D2 Zn;unfold bl at Xb;go_upto_region 6 with fail;rw[←lI];clear lI;have c0:=U5.o.c0;have c1:=U5.o.c1;have c2:=U5.o.c2;have hbl:=U5.o.lt;go_wp2_with fail;refine Xb.o.mono ?_;rintro e w6 ⟨rfl,hx⟩;have X6:=aa (X5.o.trans hx);have U6:=aa (U5.o.ext hx);have F2:=aa ((hx.heap (ae E2.o)).trans E2.o);have HuT:=aa (Hu.o.ty.ext hx);clear hx Xb c0 c1 c2 hbl;have c0:=U6.o.c0;have c1:=U6.o.c1;have c2:=U6.o.c2;have hbl:=U6.o.lt;have f0:=ai F2.o 0;have f1:=ai F2.o 1;have f2:=ai F2.o 2;have k0:=ag F2.o 0;have k1:=ag F2.o 1;have k2:=ag F2.o 2;have R7:=ae F2.o;simp only[aiN,aiO,aiP] at k0 k1 k2;have T5:aiE (Qf w (((w6.setCell ⟨w.heap.size+1,0,none⟩ (encStr u.aq)).setCell ⟨w.heap.size+1,1,none⟩ (.int .i64 u.var)).setCell ⟨w.heap.size+1,2,none⟩ (.slice u.A u.args.length u.cap)) s t u∧Ext w (((w6.setCell ⟨w.heap.size+1,0,none⟩ (encStr u.aq)).setCell ⟨w.heap.size+1,1,none⟩ (.int .i64 u.var)).setCell ⟨w.heap.size+1,2,none⟩ (.slice u.A u.args.length u.cap))):=aa (by
  have g:=cf w6 (w.heap.size+1) 0 1 2 (encStr u.aq) (.int .i64 u.var) (.slice u.A u.args.length u.cap);have ha:aC (w.heap.size+1) u=true:=Hu.o.away _ (by omega) (n9.o _ (by omega)).1 (n9.o _ (by omega)).2;refine⟨⟨HuT.o.grown g (fun c e=>by injection e with e;subst e;exact ha),Hu.o.is,fun c hc h1 h2=>Hu.o.away c (by omega) h1 h2⟩,?_⟩;exact(((X6.o.setCell (by simp) _).setCell (by simp) _).setCell (by simp) _))
 go_wp2;refine bodyPost_ret (v:=.tuple #[.agg #[encStr u.aq,.int .i64 u.var,.slice u.A u.args.length u.cap],.int .i64 0]) ?_ rfl ⟨⟨u,rfl,T5.o.1⟩,T5.o.2⟩;simp[results,Tryz.f214,go_sem,k0,k1,k2]
set_option maxRecDepth 512
set_option maxHeartbeats 200000
structure sU (N:Nat) (w':World) (row:Option Nat) (s:List Pr) (l ds:List Pd):Prop where
 away:∀d∈ds,∀c,c<N→(∀x∈l,aC c x.ty=true)→(∀k∈bG s,aC c k=true)→aC c d.ty=true
 ty:∀d∈ds,aH w' d.ty
 off:∀d∈ds,∀c,row=some c→aC c d.ty=true
 is:ds.map (fun d=>(d.cls,d.ty.pure))=l.map fun x=>(x.cls,fZ (bF s) (bG s) x.ty)
theorem sU.len {N:Nat}{w':World}{row:Option Nat}{s:List Pr}{l ds:List Pd}(h:sU N w' row s l ds):ds.length=l.length:=by simpa using congrArg List.length h.is
theorem sU.step {w wr w3 w5:World}{row row':Option Nat}{s:List Pr}{l ds:List Pd}{x:Pd}{u:Ty}{S:Option Addr}{N:Nat}(h:sU N wr row s l ds) (hN:N≤wr.heap.size) (hS:ft w S s) (hx:aH w x.ty) (hu:Qf wr w3 s x.ty u)
  (zn:∀c,row=some c→w.heap.size≤c∧c<wr.heap.size) (e:Ext wr w3){w4:World}(e4:Ext w3 w4) (hg:w4.grownBy w5 row) (ho:row'=row∨row'=some w4.heap.size):sU N w5 row' s (l++[x]) (ds++[⟨x.cls,u⟩]):=by
 have Zd:∀c,row=some c→aC c u=true:=fun c hc=>hu.away c (zn c hc).2 (aP hx (zn c hc).1) (fun k hk=>aP (hS.ja k hk) (zn c hc).1)
 have ke:∀d∈ds++[(⟨x.cls,u⟩:Pd)],aH w4 d.ty∧∀c,row=some c→aC c d.ty=true:=by
  intro d hd
  rcases List.mem_append.1 hd with hd|hd
  ·exact⟨(h.ty d hd).ext (e.trans e4),fun c hc=>h.off d hd c hc⟩
  ·rw[aiV] at hd;subst hd;exact⟨hu.ty.ext e4,Zd⟩
 refine⟨fun d hd c hc h1 h2 => ?_,fun d hd=>(ke d hd).1.grown hg (ke d hd).2,fun d hd c hc => ?_,?_⟩
 ·rcases List.mem_append.1 hd with hd|hd
  ·exact h.away d hd c hc (fun y hy=>h1 y (List.mem_append.2 (.inl hy))) h2
  ·rw[aiV] at hd;subst hd;exact hu.away c (by omega) (h1 x (by simp)) h2
 ·rcases ho with h1|h1
  ·exact(ke d hd).2 c (h1▸hc)
  ·rw[h1] at hc;injection hc with hc;exact aP (ke d hd).1 (by omega)
 ·rw[aiX,aiX,h.is];simp[hu.is]
set_option maxRecDepth 10000
set_option maxHeartbeats 8000000
theorem uu (S:Option Addr) (sc:Nat) (s:List Pr) (B:Option Addr) (bc:Nat) (l:List Pd) (w:World) (h:ft w S s) (hn:s.length≤9223372036854775807) (hsm:∀p∈s,ax p.ty=true) (hl:bg w B l) (hlen:l.length≤40000) (bT:vU s l) :
  Calls Tryz.prog 182 #[.slice S s.length sc,.slice B l.length bc] w fun e w'=>(∃v ds,e=.returned (.tuple #[v,.int .i64 0])∧w'.ownsRow w.heap.size 55 4 v ds.length (ds.flatMap j8.f)∧sU w.heap.size w' v.ownBlock s l ds)∧Ext w w':=by
 obtain⟨i0,hi,hz0,hz1,hz2⟩:=info_parts uj;have HS:=aa h;have HL:=aa hl;have P7:=aa (fun(x:Pd) (hx:x∈l) w' (e:Ext w w')=>aa (DN S sc s x.ty w' (h.ext e) hn hsm ((hl.all x hx).ty.ext e) (bT x hx).1 (bT x hx).2.1 (bT x hx).2.2));clear h hsm hl bT;go_enter Tryz.func182,Tryz.ntmps182;go_wp2
 go_loopw [6,7] (fun v i wr=>∃(k:Nat) (ds:List Pd),k≤l.length∧i=.int .i64 k∧aiE (Ext w wr)∧aiE (wr.ownsRow w.heap.size 55 4 v ds.length (ds.flatMap j8.f))∧aiE (sU w.heap.size wr v.ownBlock s (l.take k) ds)) (fun _ i _=>l.length - (intOf i).toNat)
 case atStart=>exact⟨0,[],aiH _,rfl,aa (eR _),aa (World.ownsRow_nil _ _ _ _),aa ⟨by simp,by simp,by simp,rfl⟩⟩
 case round=>
  obtain⟨k,ds,hk,rfl,HX,HO,HD⟩:=hrel
  by_cases hlt:k<l.length
  ·have aN:(k:Int)<(l.length:Int):=by omega
   have cV:(0:Int)≤(k:Int):=by omega
   obtain⟨b,o,rfl,hb0,p0,p1,p2,p3⟩:=HL.o.at_ hlt;have q0:=HX.o.cell p0;have q1:=HX.o.cell p1;have q2:=HX.o.cell p2;have q3:=HX.o.cell p3;have hb:b<wr.heap.size:=by have:=HX.o.size;omega
   have hm:=aiF hlt;have G8:=aa (P7.o _ hm wr HX.o);have Hx:=aa (HL.o.all _ hm);have dh:aiE (l.take (k+1)=l.take k++[l[k]'hlt]):=aa (aiJ hlt);have N2:ds.length≤40000:=by have:=HD.o.len;rw[List.length_take] at this;omega
   generalize l[k]'hlt=x at *;clear hm;unfold bl at G8;obtain⟨A6,c6,rfl,-,-,-,-⟩:=ak.own j8 (l:=ds) HO.o;go_wp2_with fail;refine G8.o.o.mono ?_;rintro e w3 ⟨⟨u,rfl,hu⟩,hx3⟩;obtain⟨W4,uh⟩:∃W4,W4=w3.alloc (.cells #[encStr u.aq,.int .i64 u.var,.slice u.A u.args.length u.cap] 53):=⟨_,rfl⟩;have TX:aiE (Ext w3 W4):=aa (by rw[uh];exact(eR _).alloc _);have U4:aiE (aU W4 w3.heap.size u):=aa (by rw[uh];exact aU.new w3 u);have T6:=aa (hx3.trans TX.o);have X4:=aa (HX.o.trans T6.o);have T8:=aa (fun w5 v' (w4:World) (e4:Ext W4 w4) (hg:w4.grownBy w5 (Value.slice A6 ds.length c6).ownBlock) (ho:(v':Value).ownBlock=(Value.slice A6 ds.length c6).ownBlock∨v'.ownBlock=some w4.heap.size)=>
    sU.step HD.o HX.o.size HS.o Hx.o.ty hu (fun c hc=>HO.o.lt c hc) hx3 (TX.o.trans e4) hg ho)
   have HSb:aiE (∀w',Ext W4 w'→w'.cell? ⟨b,o+k*4,none⟩=some (.string ⟨x.cls.toArray⟩)∧w'.cell? ⟨w3.heap.size,0,none⟩=some (encStr u.aq)∧w'.cell? ⟨w3.heap.size,1,none⟩=some (.int .i64 u.var)∧w'.cell? ⟨w3.heap.size,2,none⟩=some (.slice u.A u.args.length u.cap)):=aa (fun w' e=>by
    have:=U4.o.ext e;exact⟨(T6.o.trans e).cell q0,this.c0,this.c1,this.c2⟩)
   have HSc:aiE (∀w4 w5,Ext W4 w4→w4.grownBy w5 (Value.slice A6 ds.length c6).ownBlock→Ext w w5→w5.cell? ⟨b,o+k*4,none⟩=some (.string ⟨x.cls.toArray⟩)∧w5.cell? ⟨w3.heap.size,0,none⟩=some (encStr u.aq)∧w5.cell? ⟨w3.heap.size,1,none⟩=some (.int .i64 u.var)∧w5.cell? ⟨w3.heap.size,2,none⟩=some (.slice u.A u.args.length u.cap)):=aa (fun w4 w5 e4 hg e=>by
    have h4:=U4.o.ext e4;have h5:aU w5 w3.heap.size u:=(hg.block _ h4.lt (fun e=>by have h6:=(HO.o.lt _ e.symm).2;have h7:=hx3.size;omega)).trans h4;exact⟨e.cell p0,h5.c0,h5.c1,h5.c2⟩)
   clear hu hx3 q0 q1 q2 q3 p0 p1 p2 p3;go_upto_region 8 with fail;rw[←uh];clear uh;obtain⟨s0,s1,s2,s3⟩:=HSb.o W4 (eR _);have hbl:=U4.o.lt;have hb4:b<W4.heap.size:=by have:=T6.o.size;omega
   go_wp2
   go_region_held3 (fun w'=>w'.cell? ⟨b,o+k*4,none⟩=some (.string ⟨x.cls.toArray⟩)∧w'.cell? ⟨w3.heap.size,0,none⟩=some (encStr u.aq)∧w'.cell? ⟨w3.heap.size,1,none⟩=some (.int .i64 u.var)∧w'.cell? ⟨w3.heap.size,2,none⟩=some (.slice u.A u.args.length u.cap)) (first|assumption|go_keep) (first
   |(
    refine aK _ rfl (.tmp 29) (.tmp 37) 27 rfl w.heap.size 55 i0 _ 4 64 Tryz.underlying27 hi hz0 hz1 hz2 rfl (by decide) (.slice A6 ds.length c6) ds.length (ds.flatMap j8.f) rfl (aZ HO.o (T6.o.trans (by repeat(first|exact eR _|exact eA (by assumption) _|refine eA ?_ _|refine eM ?_ _ _|refine eD ?_|refine eN ?_ _)))) (some ⟨_,0,none⟩) 1 1 (j8.f (Pd.mk x.cls u)) rfl (by first|exact vT (heap_alloc_new _ _)|exact vT (ah _ _ _ (by simp))) (fun y hy=>BP [Pd.mk x.cls u] y (by rw[List.flatMap_cons,List.flatMap_nil,List.append_nil];exact hy)) (by unfold maxLen;omega) (by omega) (aiM X4.o.size (Ext.size (by repeat(first|exact eR _|exact eA (by assumption) _|refine eA ?_ _|refine eM ?_ _ _|refine eD ?_|refine eN ?_ _)))) ?_;intro v5 w5 oX zf G9;have Y5:aiE (Ext w w5):=aa (Ext.app (X4.o.trans (by repeat(first|exact eR _|exact eA (by assumption) _|refine eA ?_ _|refine eM ?_ _ _|refine eD ?_|refine eN ?_ _))) zf (aZ HO.o (T6.o.trans (by repeat(first|exact eR _|exact eA (by assumption) _|refine eA ?_ _|refine eM ?_ _ _|refine eD ?_|refine eN ?_ _)))) (aiG _));have O5:aiE (w5.ownsRow w.heap.size 55 4 v5 (ds++[Pd.mk x.cls u]).length ((ds++[Pd.mk x.cls u]).flatMap j8.f)):=aa (by rw[aiL,List.flatMap_append];simpa using oX);have D5:aiE (sU w.heap.size w5 v5.ownBlock s (l.take (k+1)) (ds++[Pd.mk x.cls u])):=aa (by rw[dh.o];exact T8.o w5 v5 _ (by repeat(first|exact eR _|exact eA (by assumption) _|refine eA ?_ _|refine eM ?_ _ _|refine eD ?_|refine eN ?_ _)) zf G9);have t0:=HSc.o _ w5 (by repeat(first|exact eR _|exact eA (by assumption) _|refine eA ?_ _|refine eM ?_ _ _|refine eD ?_|refine eN ?_ _)) zf Y5.o;clear oX zf G9))
   go_wp2;go_roundw
   case rel=>exact⟨k+1,_,hlt,by go_num,Y5,O5,D5⟩
   case measure=>simp[intOf];omega
  ·have bS:¬(k:Int)<(l.length:Int):=by omega
   have P8:aiE (sU w.heap.size wr u6.ownBlock s l ds):=aa (by have:=HD.o;rwa [aiK (by omega)] at this);go_wp2;go_ret2;exact⟨⟨_,rfl,ds,HO.o,P8.o⟩,HX.o⟩
set_option maxRecDepth 512
set_option maxHeartbeats 200000
theorem Qg {α:Type}{p:α→Bool}{l:List α}{k:Nat}(h:k<l.length) (hp:p (l[k]'h)=false):l.all p=false:=by
 rw[Bool.eq_false_iff];intro ha;rw[aiY] at ha;have:=ha _ (aiF h);rw[hp] at this;cases this
set_option maxRecDepth 10000
set_option maxHeartbeats 8000000
theorem uv (x:cL) (w:World) (h:pG w x):Calls Tryz.prog 101 #[xq x] w fun e w'=>e=.returned (.int .i64 (if bE x then 0 else 10))∧Ext w w':=by
 obtain⟨cls,aq,n,A,cap,preds⟩:=x;obtain⟨W,hW⟩:∃W,W=w.alloc (.cells #[encStr cls,encStr aq,.int .i64 n,.slice A preds.length cap] 70):=⟨_,rfl⟩;have HW:=aa hW.symm;have X0:aiE (Ext w W):=aa (by rw[hW];exact(eR _).alloc _);have HB:aiE (eV W w.heap.size ⟨cls,aq,n,A,cap,preds⟩):=aa (by rw[hW];exact eV.new w ⟨cls,aq,n,A,cap,preds⟩);obtain⟨c0,c1,c2,c3⟩:=HB.o.cells;have hbl:=HB.o.lt;have qD:cls.length≤1000000000000000000:=h.txt;have hco:aq.length≤1000000000000000000:=h.ctxt;have hle:=h.le;have hmx:=h.max;have Lx:=aa (h.row.ext X0.o);have S8:=aa (jC cls W (by omega));have BF:=aa (jC aq W (by omega));have HI:aiE (bE ⟨cls,aq,n,A,cap,preds⟩=(fA ⟨cls,aq,n,A,cap,preds⟩&&preds.all (bj n))):=aa rfl;have HH:aiE (fA ⟨cls,aq,n,A,cap,preds⟩=(bZ cls&&(bZ aq||(aq == [45,62]&&n == 2))&&decide (0≤n)&&decide (n≤100))):=aa rfl;generalize bE ⟨cls,aq,n,A,cap,preds⟩=R at *;generalize fA ⟨cls,aq,n,A,cap,preds⟩=H at *;simp only[] at *;clear hW h;unfold xq at *;go_enter Tryz.func101,Tryz.ntmps101;go_upto_region 1 with fail;rw[HW.o];clear HW
 go_cut [34] (fun s34 wx=>s34=.bool (!H)∧W=wx)
 case first=>
  clear HI Lx;go_wp2_with fail;refine S8.o.mono ?_;rintro e w2 ⟨rfl,rfl⟩;cases h1:bZ cls
  ·have hH:H=false:=by rw[HH.o];simp[h1]
   clear HH;subst hH;go_wp2_with fail;go_meet;exact⟨by first|rfl|(simp;done)|(simp;omega),rfl⟩
  ·go_wp2_with fail;refine BF.o.mono ?_;rintro e w3 ⟨rfl,rfl⟩;have HD:aiE ((bZ aq||(aq == [45,62]&&n == 2))=true→H=(decide (0≤n)&&decide (n≤100))):=aa (fun hd=>by rw[HH.o,h1,hd];simp);cases h2:bZ aq
   ·cases h3:(aq == ([45,62]:aj))
    ·have hH:H=false:=by rw[HH.o];simp[h1,h2,h3]
     clear HH;subst hH;go_wp2_with fail;go_meet;exact⟨by first|rfl|(simp;done)|(simp;omega),rfl⟩
    ·cases h4:(n == 2)
     ·have hH:H=false:=by rw[HH.o];simp[h1,h2,h4]
      clear HH;subst hH;go_wp2_with fail;go_meet;exact⟨by first|rfl|(simp;done)|(simp;omega),rfl⟩
     ·have hn:n=2:=by simpa using h4
      have hH:H=true:=by rw[HD.o (by rw[h2,h3,h4];rfl),hn];rfl
      have h5:(0:Int)≤n:=by omega
      have h6:n≤100:=by omega
      clear HH HD hn;subst hH;go_wp2_with fail;go_meet;exact⟨by first|rfl|(simp;done)|(simp;omega),rfl⟩
   ·have hH:=HD.o (by rw[h2];rfl);clear HH HD
    by_cases h5:n<0
    ·have Ua:H=false:=by rw[hH];simp;omega
     clear hH;subst Ua;go_wp2_with fail;go_meet;exact⟨by first|rfl|(simp;done)|(simp;omega),rfl⟩
    ·have h5':(0:Int)≤n:=by omega
     by_cases h6:(100:Int)<n
     ·have Ua:H=false:=by rw[hH];simp;omega
      clear hH;subst Ua;go_wp2_with fail;go_meet;exact⟨by first|rfl|(simp;done)|(simp;omega),rfl⟩
     ·have h6':n≤100:=by omega
      have Ua:H=true:=by rw[hH];simp;omega
      clear hH;subst Ua;go_wp2_with fail;go_meet;exact⟨by first|rfl|(simp;done)|(simp;omega),rfl⟩
 case rest=>
  obtain⟨rfl,rfl⟩:=hcut;clear HH S8 BF c0 c1;cases H
  ·have hR:R=false:=by rw[HI.o];rfl
   clear HI;subst hR;go_wp2;go_ret;exact⟨rfl,X0.o⟩
  ·have ky:aiE (R=preds.all (bj n)):=aa (by rw[HI.o];rfl);clear HI c2 c3 hbl;simp only[Bool.not_true];go_wp2
   go_loopw [3] (fun i wr=>∃k:Nat,k≤preds.length∧i=.int .i64 k∧aiE (Ext W wr)∧aiE (∀j (h:j<preds.length),j<k→bj n (preds[j]'h)=true)) (fun i _=>preds.length - (intOf i).toNat)
   case atStart=>exact⟨0,aiH _,rfl,aa (eR _),aa (fun j _ hj=>absurd hj (by omega))⟩
   case round=>
    obtain⟨k,hk,rfl,HX,HJ⟩:=hrel;have XR:=aa (X0.o.trans HX.o);obtain⟨-,-,c2,c3⟩:=(HB.o.ext HX.o).cells;have hbl:=(HB.o.ext HX.o).lt;simp only[] at c2 c3
    by_cases hlt:k<preds.length
    ·have aN:(k:Int)<(preds.length:Int):=by omega
     have cV:(0:Int)≤(k:Int):=by omega
     obtain⟨b,o,rfl,hb,q0,q1,q2,q3⟩:=(Lx.o.ext HX.o).at_ hlt;have jU:aiE (bj n (preds[k]'hlt)=true→∀j (h:j<preds.length),j<k+1→bj n (preds[j]'h)=true):=aa (fun h1 j hj hjk=>by
      by_cases e:j=k
      ·subst e;exact h1
      ·exact HJ.o j hj (by omega))
     have kZ:aiE (bj n (preds[k]'hlt)=false→R=false):=aa (fun h1=>by rw[ky.o];exact Qg hlt h1);have DO:aiE (bj n (preds[k]'hlt)=(bZ (preds[k]'hlt).cls&&(preds[k]'hlt).ty.aq == []&&(preds[k]'hlt).ty.args.isEmpty&&decide (0≤(preds[k]'hlt).ty.var)&&decide ((preds[k]'hlt).ty.var<n))):=aa rfl;have hpc:(preds[k]'hlt).cls.length≤1000000000000000000:=(Lx.o.all _ (aiF hlt)).cls;generalize preds[k]'hlt=p at *;generalize bj n p=D at *;have HN:=aa (fun w'=>jC p.cls w' (by omega));obtain⟨WB,BS⟩:∃WB,WB=wr.alloc (.cells #[.string ⟨p.ty.aq.toArray⟩,.int .i64 p.ty.var,.slice p.ty.A p.ty.args.length p.ty.cap] 53):=⟨_,rfl⟩;have XB:aiE (Ext wr WB):=aa (by rw[BS];exact(eR _).alloc _);have BT:aiE (aU WB wr.heap.size p.ty):=aa (by rw[BS];exact aU.new wr p.ty);have YB:=aa (XR.o.trans XB.o);have YB2:=aa (HX.o.trans XB.o);have g2:=XB.o.cell c2;have g3:=XB.o.cell c3;have r0:=XB.o.cell q0;have jb:w.heap.size<WB.heap.size:=by have:=XB.o.size;omega
     have hgb:b<WB.heap.size:=by have:=XB.o.size;omega
     go_upto_region 7 with fail;rw[←BS];clear BS c2 c3 q0 q1 q2 q3 hbl hb;have t0:=BT.o.c0;have t1:=BT.o.c1;have t2:=BT.o.c2;have S7:=BT.o.lt;have Ub:aiE (D=(bZ p.cls&&p.ty.aq == []&&decide (p.ty.args.length=0)&&decide (0≤p.ty.var)&&decide (p.ty.var<n))):=aa (by
      rw[DO.o]
      congr 3
      cases p.ty.args<;>simp)
     clear DO BT;have DO:=Ub;clear Ub;generalize p.ty.args.length=L at *;go_wp2_with fail;refine(HN.o WB).mono ?_;rintro e w2 ⟨rfl,rfl⟩;cases h1:bZ p.cls
     ·have hD:D=false:=by rw[DO.o];simp[h1]
      have hR:=kZ.o hD;clear kZ ky jU DO;subst hR;go_wp2;go_ret;exact⟨rfl,YB.o⟩
     ·cases h2:(p.ty.aq == ([]:aj))
      ·have NU:(p.ty.aq != ([]:aj))=true:=by rw[bne,h2];rfl
       have hD:D=false:=by rw[DO.o];simp[h2]
       have hR:=kZ.o hD;clear kZ ky jU DO;subst hR;go_wp2;go_ret;exact⟨rfl,YB.o⟩
      ·have NU:(p.ty.aq != ([]:aj))=false:=by rw[bne,h2];rfl
       by_cases h3:(0:Int)<(L:Int)
       ·have hD:D=false:=by
         rw[DO.o];have:¬L=0:=by omega
         simp[this]
        have hR:=kZ.o hD;clear kZ ky jU DO;subst hR;go_wp2;go_ret;exact⟨rfl,YB.o⟩
       ·have N3:(L:Int)≤0:=by omega
        have h3e:L=0:=by omega
        have DR:aiE (D=(decide (0≤p.ty.var)&&decide (p.ty.var<n))):=aa (by rw[DO.o,h1,h2,decide_eq_true h3e];simp);clear DO h3e
        by_cases h4:p.ty.var<0
        ·have hD:D=false:=by rw[DR.o];simp;omega
         have hR:=kZ.o hD;clear kZ ky jU DR;subst hR;go_wp2;go_ret;exact⟨rfl,YB.o⟩
        ·have h4':(0:Int)≤p.ty.var:=by omega
         by_cases h5:n≤p.ty.var
         ·have hD:D=false:=by rw[DR.o];simp;omega
          have hR:=kZ.o hD;clear kZ ky jU DR;subst hR;go_wp2;go_ret;exact⟨rfl,YB.o⟩
         ·have h5':p.ty.var<n:=by omega
          have hD:D=true:=by rw[DR.o];simp;omega
          have Ih:=aa (jU.o hD);clear kZ jU DR;go_wp2;go_roundw
          case rel=>exact⟨k+1,hlt,by go_num,YB2,Ih⟩
          case measure=>simp[intOf];omega
    ·have bS:¬(k:Int)<(preds.length:Int):=by omega
     have hR:R=true:=by
      rw[ky.o,aiY];intro y hy;obtain⟨i,hi,rfl⟩:=List.getElem_of_mem hy;exact HJ.o i hi (by omega)
     clear ky;subst hR;go_wp2;go_ret;exact⟨rfl,XR.o⟩
set_option maxRecDepth 512
set_option maxHeartbeats 200000
end Go.Proofs.YtigafbmabjglfaaGreatDoor
