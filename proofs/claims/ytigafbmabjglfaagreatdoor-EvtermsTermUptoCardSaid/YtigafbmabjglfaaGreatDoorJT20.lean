import Derived.Test.YtigafbmabjglfaaGreatDoorJT19
import Derived.Shelf.GgSortFunc.Insertion
import Derived.Lib.SlicesCompact
import Derived.Laws.OwnMore
import Derived.Lib.SliceRun
namespace Go.Proofs.YtigafbmabjglfaaGreatDoor
open Go.RowKit Go.Sort Go.Shelf
section
variable {α : Type} [Inhabited α] (enc:α→Value) (w:World) (blk off m:Nat) (dk:Array α) (os:Array Obj)
end
noncomputable def Dx (l:List Pd):Nat:=(l.map fun p=>p.ty.size).sum
theorem Km {l:List Pd}{p:Pd}(h:p∈l):p.ty.size≤Dx l:=Tree.kv (fun p:Pd=>p.ty.size) h
theorem sI : (Tryz.prog.info? 55).map (fun i=>(i.zero,i.size,i.bytes))=some (some (.agg #[.string ⟨#[]⟩,.string ⟨#[]⟩,.int .i64 0,.slice none 0 0]),4,64):=by kernel_rfl
theorem zV (l:List Pd):∀u∈l.flatMap kC.f,u.oneCell'=true:=by
 intro u hu;obtain⟨p,-,hp⟩:=List.mem_flatMap.1 hu;have DV:u∈[encStr p.cls,encStr p.ty.aq,.int .i64 p.ty.var,.slice p.ty.A p.ty.args.length p.ty.cap]:=hp;simp at DV
 rcases DV with rfl|rfl|rfl|rfl<;>rfl
theorem uj {w:World}{vb:Nat}{x:Pd}(h:w.heap[vb]?=some (.cells (kC.f x).toArray 55 (0,0))):Row w (some ⟨vb,0,none⟩) 4 1 (kC.f x):=by
 have h1:w.heap[vb]?=some (.cells ([x].flatMap kC.f).toArray 55 (0,0)):=by simpa using h
 have:=ak.block kC [x] h1;unfold ak at this;exact(by simpa using this:Row w (some ⟨vb,0,none⟩) kC.k 1 (kC.f x))
structure sJ (N:Nat) (w':World) (row:Option Nat) (s:List Pr) (l ds:List Pd):Prop where
 away:∀d∈ds,∀c,c<N→(∀x∈l,aF c x.ty=true)→aF c d.ty=true
 ty:∀d∈ds,aC w' d.ty
 off:∀d∈ds,∀c,row=some c→aF c d.ty=true
 is:ds.map (fun d=>(d.cls,d.ty.pure))=l.map fun x=>(x.cls,fF (br s) (bz s) x.ty)
theorem sJ.len {N:Nat}{w':World}{row:Option Nat}{s:List Pr}{l ds:List Pd}(h:sJ N w' row s l ds):ds.length=l.length:=by simpa using congrArg List.length h.is
def uk (s:List Pr) (l:List Pd):Prop:=∀x∈l,az x.ty=true∧gR (br s) (bz s) x.ty≤4096∧nM (br s) (bz s) x.ty≤100
set_option maxRecDepth 10000
set_option maxHeartbeats 8000000
theorem Kn (p:Nat) (A:Option Addr) (cap:Nat) (s:List Pr) (B:Option Addr) (bc:Nat) (l:List Pd) (w:World) (hs:ij w p A cap s) (hsm:∀x∈s,az x.ty=true) (hl:bA w B l) (hlen:l.length≤40000) (bP:uk s l) :
  Calls Tryz.prog 193 #[.pointer (some ⟨p,0,none⟩),.slice B l.length bc] w fun e w'=>(∃v ds,e=.returned (.tuple #[v,.int .i64 0])∧w'.ownsRow w.heap.size 55 4 v ds.length (ds.flatMap kC.f)∧sJ w.heap.size w' v.ownBlock s l ds)∧Ext w w':=by
 obtain⟨i0,hi,hz0,hz1,hz2⟩:=info_parts sI;have HS:=aa hs;have vX:=aa hsm;have HL:=aa hl;have RG:=aa bP;have N2:=aa (fun(x:Pd) (hx:x∈l) w' (e:Ext w w')=>aa (ui p A cap s x.ty w' (hs.ext e) hsm ((hl.all x hx).ty.ext e) (by have:=(aW (bP x hx).1).1;omega)));clear hs hsm hl bP;go_enter Tryz.func193,Tryz.ntmps193;go_wp2
 go_loopw [6,13] (fun v i wr=>∃(k:Nat) (ds:List Pd),k≤l.length∧i=.int .i64 k∧ahg (Ext w wr)∧ahg (wr.ownsRow w.heap.size 55 4 v ds.length (ds.flatMap kC.f))∧ahg (sJ w.heap.size wr v.ownBlock s (l.take k) ds)) (fun _ i _=>l.length - (intOf i).toNat)
 case atStart=>exact⟨0,[],ahj _,rfl,aa (eR _),aa (World.ownsRow_nil _ _ _ _),aa ⟨by simp,by simp,by simp,rfl⟩⟩
 case round=>
  obtain⟨k,ds,hk,rfl,HX,HO,HD⟩:=hrel
  by_cases hlt:k<l.length
  ·have aS:(k:Int)<(l.length:Int):=by omega
   have dy:(0:Int)≤(k:Int):=by omega
   obtain⟨b,o,rfl,hb,q0,q1,q2,q3⟩:=(HL.o.ext HX.o).at_ hlt;have hm:=ahh hlt;have Fj:=aa (N2.o _ hm);have Hx:=aa (HL.o.all _ hm);have Hpo:=aa (RG.o _ hm);have cS:ahg (l.take (k+1)=l.take k++[l[k]'hlt]):=aa (ahl hlt);have J3:ds.length≤40000:=by have:=HD.o.len;rw[List.length_take] at this;omega
   generalize l[k]'hlt=x at *;clear hm;unfold bh at Fj;go_wp2_with fail;refine(Fj.o _ (HX.o.alloc _)).o.mono ?_;rintro e w3 ⟨⟨u,n,rfl,hu⟩,hx3⟩;obtain⟨rfl,UX⟩:=hu.yes Hpo.o.1 Hpo.o.2;have Hu:=aa hu;have Hup:=aa UX;have X3:=aa ((HX.o.alloc _).trans hx3);have WR:=aa ((eR wr).alloc _ |>.trans hx3);have QX:ahg (w3.heap[wr.heap.size]?=some (.cells #[encStr x.cls,encStr x.ty.aq,.int .i64 x.ty.var,.slice x.ty.A x.ty.args.length x.ty.cap] 55 (0,0))):=aa ((hx3.heap (by simp)).trans (ah wr _ _ rfl));have c0:w3.cell? ⟨wr.heap.size,0,none⟩=some (encStr x.cls):=af QX.o 0;have acZ:=ae QX.o;clear hu UX hx3;go_wp2_with (at_builtin;refine aH _ rfl _ _ 27 rfl w.heap.size 55 i0 _ 4 64 Tryz.underlying27 hi hz0 hz1 hz2 rfl (by decide) u6 ds.length (ds.flatMap kC.f) rfl (bk HO.o ?c1) (some ⟨w3.heap.size+1,0,none⟩) 1 1 (kC.f (Pd.mk x.cls u)) rfl ?c2 ?c3 ?c4 ?c5 ?c6 ?_)
   case c1=>exact(WR.o.alloc _).alloc _
   case c2=>exact uj (ah _ _ _ (by simp))
   case c3=>have:=zV [Pd.mk x.cls u];simpa using this
   case c4=>unfold maxLen;omega
   case c5=>omega
   case c6=>exact aho X3.o.size (by simp;omega)
   intro v5 w5 nP xG Fk;have X5:=aa (Ext.app ((X3.o.alloc _).alloc _) xG (bk HO.o ((WR.o.alloc _).alloc _)) (ahi _));have O5:ahg (w5.ownsRow w.heap.size 55 4 v5 (ds++[Pd.mk x.cls u]).length ((ds++[Pd.mk x.cls u]).flatMap kC.f)):=aa (by rw[ahn,List.flatMap_append];simpa using nP);have D5:ahg (sJ w.heap.size w5 v5.ownBlock s (l.take (k+1)) (ds++[Pd.mk x.cls u])):=aa (by
    have xO:=fun c (hc:u6.ownBlock=some c)=>HO.o.lt c hc
    have WS:∀c,u6.ownBlock=some c→aF c u=true:=fun c hc=>Hu.o.away c (by have:=(xO c hc).2;simp;omega) (aU Hx.o.ty (xO c hc).1)
    have nO:∀d∈ds++[Pd.mk x.cls u],aC ((w3.alloc (.cells #[encStr u.aq,.int .i64 u.var,.slice u.A u.args.length u.cap] 53)).alloc (.cells (kC.f (Pd.mk x.cls u)).toArray 55)) d.ty∧∀c,u6.ownBlock=some c→aF c d.ty=true:=by
     intro d hd
     rcases List.mem_append.1 hd with hd|hd
     ·exact⟨(HD.o.ty d hd).ext ((WR.o.alloc _).alloc _),fun c hc=>HD.o.off d hd c hc⟩
     ·rw[ahx] at hd;subst hd;exact⟨Hu.o.ty.ext (((eR _).alloc _).alloc _),WS⟩
    refine⟨fun d hd c hc hx => ?_,fun d hd=>(nO d hd).1.grown xG (nO d hd).2,fun d hd c hc => ?_,?_⟩
    ·rw[cS.o] at hx
     rcases List.mem_append.1 hd with hd|hd
     ·exact HD.o.away d hd c hc (fun y hy=>hx y (List.mem_append.2 (.inl hy)))
     ·rw[ahx] at hd;subst hd;exact Hu.o.away c (by have:=HX.o.size;simp;omega) (hx x (by simp))
    ·rcases Fk with h1|h1
     ·exact(nO d hd).2 c (h1▸hc)
     ·rw[h1] at hc;injection hc with hc;exact aU (nO d hd).1 (by simp;omega)
    ·rw[cS.o,ahz,ahz,HD.o.is];simp[Hup.o])
   clear nP xG Fk;go_wp2;go_roundw
   case rel=>exact⟨k+1,_,hlt,by go_num,X5,O5,D5⟩
   case measure=>simp[intOf];omega
  ·have bU:¬(k:Int)<(l.length:Int):=by omega
   have N3:ahg (sJ w.heap.size wr u6.ownBlock s l ds):=aa (by have:=HD.o;rwa [ahm (by omega)] at this);go_wp2;go_ret2;exact⟨⟨_,rfl,ds,HO.o,N3.o⟩,HX.o⟩
set_option maxRecDepth 512
set_option maxHeartbeats 200000
theorem Ko (x:dz) (G:Option Addr) (gc:Nat) (given:List Pd) (p:Pf):pN x G gc given 75 (bm x.ag x.insts given p) p:=by
 induction p using Pf.ind with
 |h p ih=>
 cases h1:(p.kind == 1)
 ·cases h2:(p.kind == 2)
  ·cases h3:(p.kind == 3)
   ·exact Nv x G gc given p h1 h2 h3
   ·exact JV x G gc given p h1 h2 h3 (Ny x G gc given p ih)
  ·exact JU x G gc given p h1 h2 (JW x G gc given p ih)
 ·exact JS x G gc given p h1
theorem vY (W:World) (b:Nat) (a:Pd):W.grownBy (dQ W b a) (some b):=by
 refine⟨rfl,rfl,rfl,by rw[xW];exact ahi _,fun k _ hk=>dH a (fun e=>hk (by rw[e]))⟩
theorem vZ {w:World}{B p:Nat}(h:ez w B p (.slice none 0 0) []):ij w p none 0 []:=by
 obtain⟨A,cap,e,hs⟩:=h.sub;injection e with e1 _ e3;subst e1 e3;exact hs
structure RJ (w w':World) (o:Option Pd) (b:Pd) (n:Int):Prop where
 yes:∀a,o=some a→n=0∧xU b a
 no:o=none→n=1∧b=⟨[],Ty.zero⟩
 iM:eV w' b
 away:∀c,c<w.heap.size→(∀a,o=some a→aF c a.ty=true)→aF c b.ty=true
theorem sK {y:World}{B b i:Nat}(h:b≠B) (v0 v1 v2:Value){u:Value}(k:y.cell? ⟨b,i,none⟩=some u):(((y.setCell ⟨B,0,none⟩ v0).setCell ⟨B,1,none⟩ v1).setCell ⟨B,2,none⟩ v2).cell? ⟨b,i,none⟩=some u:=by
 refine(World.cell?_of_block (a:=⟨b,i,none⟩) ?_).trans k;show(((y.setCell ⟨B,0,none⟩ v0).setCell ⟨B,1,none⟩ v1).setCell ⟨B,2,none⟩ v2).heap[b]?=y.heap[b]?;rw[Below.heap_setCell _ _ _ _ h,Below.heap_setCell _ _ _ _ h,Below.heap_setCell _ _ _ _ h]
theorem sL (t:Ty):fF [] [] t=t.pure:=by
 induction t using Ty.ind with
 |h t ih=>
 have e:putAt [] [] t.var=none:=rfl;have el:t.args.map (fF [] [])=t.args.map Ty.pure:=List.map_congr_left fun k hk=>ih k hk
 rw[ek,e,el]
 conv=>rhs;rw[Ty.aG]
 split
 ·rw[Option.getD_none,Ty.aG]
 ·rfl
theorem kI {w w':World}{t u:Ty}{n:Int}(hl:az t=true) (hu:zU w w' [] t u n):n=0∧u.pure=t.pure:=by
 have h:=sj (vars:=[]) (types:=[]) (by simp) hl (sL t).symm;rw[hl] at h;have h:=h.symm;rw[ahv,decide_eq_true_eq,decide_eq_true_eq] at h;obtain⟨h1,h2⟩:=hu.yes hl h;exact⟨h1,h2.trans (sL t)⟩
structure jG (w W wx:World) (b:Nat) (t u:Ty):Prop where
 x:Ext W wx
 le:W.heap.size≤b
 box:aP wx b u
 ty:aC wx u
 is:u.pure=t.pure
 away:∀c,c<W.heap.size→aF c t=true→aF c u=true
theorem jG.behind {w W wc y:World}{t u:Ty}(hW:Ext W wc) (hx:Ext wc y) (hu:aC y u) (hp:u.pure=t.pure) (ha:∀c,c<wc.heap.size→aF c t=true→aF c u=true):jG w W (y.alloc (.cells #[encStr u.aq,.int .i64 u.var,.slice u.A u.args.length u.cap] 53)) y.heap.size t u:=
 ⟨(hW.trans hx).alloc _,(hW.trans hx).size,aP.new y u,hu.ext ((eR _).alloc _),hp,fun c hc=>ha c (by have:=hW.size;omega)⟩
theorem jG.ahead {w W wc y:World}{t u:Ty}{B:Nat}(hW:Ext W wc) (hx:Ext wc y) (hB:W.heap.size≤B) (hz:wc.heap[B]?=some (.cells #[.string ⟨#[]⟩,.int .i64 0,.slice none 0 0] 53 (0,0))) (ht:aC W t) (hu:aC y u) (hp:u.pure=t.pure)
  (ha:∀c,c<wc.heap.size→aF c t=true→aF c u=true) :
  jG w W (((y.setCell ⟨B,0,none⟩ (encStr u.aq)).setCell ⟨B,1,none⟩ (.int .i64 u.var)).setCell ⟨B,2,none⟩ (.slice u.A u.args.length u.cap)) B t u:=by
 obtain⟨h1,h2⟩:=UN hW hx hB hz u;exact⟨h1,hB,h2,hu.grown (bR _ B 0 1 2 _ _ _) (fun c e=>by injection e with e;subst e;exact ha _ (ae hz) (aU ht hB)),hp,fun c hc=>ha c (by have:=hW.size;omega)⟩
set_option maxRecDepth 10000
set_option maxHeartbeats 8000000
theorem wa (x:dz) (G:Option Addr) (gc:Nat) (given:List Pd) (p:Pf) (w:World) (he:dX w x) (hg:bA w G given) (hp:bM w p)
  (jd:w.cell? ⟨2,0,none⟩=some (.iface 201 (.agg #[.pointer (some ⟨4,77,none⟩)]))) :
  Calls Tryz.prog 46 #[eX x,.slice G given.length gc,cr p] w fun e w'=>(∃b n,e=.returned (.tuple #[jC b,.int .i64 n])∧RJ w w' (bm x.ag x.insts given p) b n)∧Ext w w':=by
 obtain⟨W,hW⟩:∃W,W=((w.alloc (.cells #[.slice x.D x.aA.length x.dc,.slice x.C x.ag.length x.cc,.slice x.I x.insts.length x.ic] 26)).alloc (.cells #[.int .i64 p.kind,.int .i64 p.n,.slice p.T p.types.length p.tc,.slice p.A p.kids.length p.cap] 34)).alloc (.cells #[.string ⟨#[]⟩,.string ⟨#[]⟩,.int .i64 0,.slice none 0 0] 55):=⟨_,rfl⟩;have HW:=aa hW.symm;have X0:ahg (Ext w W):=aa (by rw[hW];exact(((eR _).alloc _).alloc _).alloc _);have B1:ahg (aJ W w.heap.size x):=aa (by rw[hW];exact(aJ.new w x).ext (((eR _).alloc _).alloc _));have B2:ahg (aO W (w.heap.size+1) p):=aa (by rw[hW];exact aO.ext (ah _ _ _ (by simp)) ((eR _).alloc _));have B3:ahg (W.heap[w.heap.size+1+1]?=some (.cells #[.string ⟨#[]⟩,.string ⟨#[]⟩,.int .i64 0,.slice none 0 0] 55)):=aa (by rw[hW];exact ah _ _ _ (by simp));have bS:ahg (W.heap.size=w.heap.size+3):=aa (by rw[hW];simp);have HG:=aa jd;have HP:=aa (Ko x G gc given p W (he.ext X0.o) (hg.ext X0.o) (hp.ext X0.o));have I8:=aa (fun a (ha:bm x.ag x.insts given p=some a)=>(ahk (np he hg p hp a ha) (sq ha)));obtain⟨c0,c1,c2,c3⟩:=B2.o.cells;obtain⟨e0,e1,e2⟩:=B1.o.cells;clear hW he hg hp jd;unfold eX cr jC at *;generalize bm x.ag x.insts given p=O at *;go_enter Tryz.func46,Tryz.ntmps46;go_upto_region 1 with fail;rw[HW.o];clear HW;go_wp2_with fail;refine HP.o.mono ?_;rintro e w2 ⟨⟨q,er,rfl,bP⟩,hx2⟩;have X2:=aa (X0.o.trans hx2);have B3:=aa ((hx2.heap (ae B3.o)).trans B3.o);have gy:=aa (ae B3.o);clear hx2 c0 c1 c2 c3 e0 e1 e2 HP B1 B2;go_upto_region 3 with fail;refine bC ?_;intro W3 hW3;have E3:ahg (Ext w2 W3):=aa (by rw[hW3];exact((eR _).alloc _).alloc _);have D1:ahg (aY W3 w2.heap.size q):=aa (by rw[hW3];exact(aY.new w2 q).ext ((eR _).alloc _));have D2:ahg (W3.heap[w2.heap.size+1]?=some (.cells #[.int .i64 0] 140 (0,0))):=aa (by rw[hW3];exact ah _ _ _ (by simp));have X3:=aa (X2.o.trans E3.o);have B3:=aa ((E3.o.heap (ae B3.o)).trans B3.o);cases O with
 |none=>
  obtain rfl:=bP.none;clear bP;have k0:=af D2.o 0;simp only[ahp,ahq] at k0;have kf:=ai D2.o 0;have HA:=aa (NF 1 (w2.heap.size+1) _ W3 (X3.o.cell HG.o) k0 kf);clear hW3;go_wp2_with fail;refine HA.o.mono ?_;rintro e y ⟨rfl,hy⟩;have hs2:=X2.o.size;have X4:ahg (Ext w y):=aa (by rw[hy];exact((((X3.o.setCell (by show _≤w2.heap.size+1;omega) _).alloc _).alloc _).alloc _).alloc _);have D3:ahg (y.heap[w2.heap.size+1]?=some (.cells #[.int .i64 1] 140 (0,0))):=aa (by
   rw[hy];refine(((((eR _).alloc _).alloc _).alloc _).alloc _ |>.heap ?_).trans ?_
   ·simp[World.setCell];exact ae D2.o
   ·have:=aw D2.o 0 (.int .i64 1);simpa using this)
  have B4:ahg (y.heap[w.heap.size+1+1]?=some (.cells #[.string ⟨#[]⟩,.string ⟨#[]⟩,.int .i64 0,.slice none 0 0] 55)):=aa (by
   rw[hy];refine(((((eR _).alloc _).alloc _).alloc _).alloc _ |>.heap ?_).trans ?_
   ·simp[World.setCell];exact ae B3.o
   ·rw[Below.heap_setCell _ _ _ _ (by show _≠w2.heap.size+1;have:=bS.o;have:=X0.o.size;have hx:w.heap.size+1+1<w2.heap.size:=gy.o;omega)];exact B3.o)
  clear hy HA k0 kf;have k0:=af D3.o 0;simp only[ahp,ahq] at k0;obtain⟨y0,y1,y2,y3,dY,dZ,ee,eh⟩:=ax B4.o;have l5:=ae B4.o;have hk3:=ae D3.o;have hne:w.heap.size+1+1≠w2.heap.size+1:=by have:=gy.o;omega
  have Bq:w2.heap.size+1≠w.heap.size+1+1:=by omega
  go_wp2
  go_region
  go_wp2;refine bodyPost_ret (v:=.tuple #[.agg #[.string ⟨#[]⟩,.string ⟨#[]⟩,.int .i64 0,.slice none 0 0],.int .i64 1]) ?_ rfl ⟨⟨⟨[],Ty.zero⟩,1,rfl,⟨fun a h=>by(cases h),fun _=>⟨rfl,rfl⟩,⟨ahj _,aC.zero _⟩,fun c _ _=>lO c⟩⟩,?_⟩
  ·simp[results,Tryz.f46,go_sem,y0,y1,y2,y3]
  ·exact(ar X4.o (by omega) _ _ _ _).drew
 |some a=>
  obtain⟨rfl,rfl⟩:=bP.some;clear bP hW3;rename Pd=>a
  obtain⟨Ha,j8⟩:=I8.o a rfl;have Ha:=aa Ha;have hsz:a.ty.size≤900000:=by
   unfold eQ at j8;rw[ahv] at j8;have:=(aW j8.2).1;omega
  have oI:ahg (az a.ty=true):=aa (by unfold eQ at j8;rw[ahv] at j8;exact j8.2);have HN:=aa (fun t w'=>NB t w');have RM:=aa (Ha.o.ty.ext X3.o);clear j8;obtain⟨a0,a1,a2,a3⟩:=D1.o.cells;have ha4:=D1.o.lt;go_wp2_with fail;refine(HN.o _ _).mono ?_;rintro e w4 ⟨rfl,hw⟩;rw[hw];clear hw w4;go_upto_region 5 with fail;have fk:=aa (fun w' (e:Ext W3 w')=>ahk (e.cell a1) (ahk (e.cell a2) (e.cell a3)));have kY:w2.heap.size≠W3.heap.size:=by omega
  go_cut [11,12] (fun s11 s12 wx=>∃(MH:Nat) (u:Ty),s11=.pointer (some ⟨MH,0,none⟩)∧ahg (jG w W3 wx MH a.ty u))
  case first=>
   go_region_held3 (fun w'=>w'.cell? ⟨w2.heap.size,1,none⟩=some (encStr a.ty.aq)∧w'.cell? ⟨w2.heap.size,2,none⟩=some (.int .i64 a.ty.var)∧w'.cell? ⟨w2.heap.size,3,none⟩=some (.slice a.ty.A a.ty.args.length a.ty.cap)) (first|with_reducible assumption|(obtain⟨g1,g2,g3⟩:=kS;with_reducible exact⟨sK Kq _ _ _ g1,sK Kq _ _ _ g2,sK Kq _ _ _ g3⟩)|go_keep) (first
    |(
     go_at_call 77
     refine Calls.mono (E6 _) ?_;rintro e y1 ⟨rfl,fT,hx1⟩;have HSub:=aa (vZ fT)
     first
      |(have HSub:ahg (ij y1 (W3.heap.size+1) none 0 []):=aa (by have h:=HSub.o;have e:∀o,(W3.alloc o).drew.heap.size=W3.heap.size+1:=fun o=>World.size_alloc W3 o;rw[e] at h;exact h))
      |skip
     have E1:ahg (Ext W3 y1):=aa (by refine Ext.trans ?_ hx1;exact(by repeat(first|exact eR _|exact eA (by assumption) _|refine eA ?_ _|refine eM ?_ _ _|refine eD ?_|refine eN ?_ _)));have kS:=fk.o y1 E1.o
     (try (have hz1:=aa ((hx1.heap (ae (cn W3 _))).trans (cn W3 _))))
     clear fT hx1)
    |(
     go_at_call 78
     refine Calls.mono (ui _ none 0 [] a.ty _ (HSub.o.ext (by repeat(first|exact eR _|exact eA (by assumption) _|refine eA ?_ _|refine eM ?_ _ _|refine eD ?_|refine eN ?_ _))) (by simp) (RM.o.ext (E1.o.trans (by repeat(first|exact eR _|exact eA (by assumption) _|refine eA ?_ _|refine eM ?_ _ _|refine eD ?_|refine eN ?_ _)))) hsz) ?_;rintro e y2 ⟨⟨u,n,rfl,hu⟩,hx2⟩;have Ec:ahg (Ext y1 y2):=aa (by refine Ext.trans ?_ hx2;exact(by repeat(first|exact eR _|exact eA (by assumption) _|refine eA ?_ _|refine eM ?_ _ _|refine eD ?_|refine eN ?_ _)));have kS:=fk.o y2 (E1.o.trans Ec.o)
     first
      |(have hz:ahg (y2.heap[y1.heap.size]?=some (.cells #[.string ⟨#[]⟩,.int .i64 0,.slice none 0 0] 53 (0,0))):=aa (by with_reducible exact(hx2.heap (ae (ah y1 _ _ rfl))).trans (ah y1 _ _ rfl));have Kq:w2.heap.size≠y1.heap.size:=by have:=E1.o.size;omega)
      |(have hz:=aa ((Ec.o.heap (ae hz1.o)).trans hz1.o);have Kq:=kY)
      |skip
     try (have z0:=af hz.o 0;have z1:=af hz.o 1;have z2:=af hz.o 2;have z3:=ai hz.o 0;have z4:=ai hz.o 1;have z5:=ai hz.o 2;simp only[ahp,ahq,ahr] at z0 z1 z2)))
   all_goals (go_wp2_with fail;go_meet;first
    |exact⟨y2.heap.size,u,rfl,aa (jG.behind E1.o hx2 hu.ty (kI oI.o hu).2 hu.away)⟩
    |exact⟨y1.heap.size,u,rfl,aa (jG.ahead (E1.o.trans ((eR _).alloc _)) hx2 E1.o.size (ah y1 _ _ rfl) RM.o hu.ty (kI oI.o hu).2 hu.away)⟩
    |exact⟨W3.heap.size,u,rfl,aa (jG.ahead E1.o hx2 (ahi _) hz1.o RM.o hu.ty (kI oI.o hu).2 hu.away)⟩)
  case rest=>
   obtain⟨MH,u,rfl,HA⟩:=hcut;have XA:=aa (X3.o.trans HA.o.x);have B4:=aa ((HA.o.x.heap (ae B3.o)).trans B3.o);have D4:=aa (D1.o.ext HA.o.x);have hyW:=ae B3.o;clear a0 a1 a2 a3 fk;obtain⟨y0,y1,y2,y3,dY,dZ,ee,eh⟩:=ax B4.o;obtain⟨a0,-,-,-⟩:=D4.o.cells;have t0:=HA.o.box.c0;have t1:=HA.o.box.c1;have t2:=HA.o.box.c2;have UY:=aa (HA.o.away _ hyW (aU Ha.o.ty (by omega)));have Htg:=aa (HA.o.ty.grown (vY _ (w.heap.size+1+1) ⟨a.cls,u⟩) (fun c e=>by injection e with e;subst e;exact UY.o));have oh:=Ha.o.cls;have Hpw:ahg (∀c,c<w.heap.size→aF c a.ty=true→aF c u=true):=aa (fun c hc h=>HA.o.away c (by have:=X3.o.size;omega) h);have Kr:=aa HA.o.is;go_wp2;refine bodyPost_ret (v:=.tuple #[.agg #[encStr a.cls,encStr u.aq,.int .i64 u.var,.slice u.A u.args.length u.cap],.int .i64 0]) ?_ rfl ⟨⟨⟨a.cls,u⟩,0,rfl,⟨fun a' h=>(by cases h;exact⟨rfl,rfl,Kr.o⟩),fun h=>(by cases h),⟨oh,Htg.o⟩,fun c hc h=>Hpw.o c hc (h a rfl)⟩⟩,ar XA.o (by omega) _ _ _ _⟩;simp[results,Tryz.f46,go_sem,y0,y1,y2,y3]
set_option maxRecDepth 512
set_option maxHeartbeats 200000
theorem Fl {P:Program}{c:Code}{Q:Exit→Act→World→Prop}{a:Act}{w:World}(h:∀W,W=w→Code.wp P c Q a W):Code.wp P c Q a w:=h w rfl
noncomputable def jH : Ty→Bool:=Ty.oY fun t=>decide (t.args.length≤3000000000000)
theorem Fm (t:Ty):jH t=(decide (t.args.length≤3000000000000)&&t.args.all jH):=fX _ t
def jM (c:Nat) (A:Option Addr) (n:Nat):Prop:=n≠0→∀a,A=some a→a.block≠c
theorem jM.new {w:World}{A:Option Addr}{k n c:Nat}{l:List Value}(h:Row w A k n l) (hc:w.heap.size≤c):jM c A n:=by
 intro hn a ha;obtain⟨b,o,e,hb,-⟩:=h.2 (by omega);subst ha;injection e with e;subst e;show b≠c;omega
inductive aL (c:Nat):Pf→Prop
 |mk {t:Pf}(ty:jM c t.T t.types.length) (iD:∀x∈t.types,aF c x=true) (k:jM c t.A t.kids.length) (kids:∀k∈t.kids,aL c k):aL c t
section
variable {w w':World}{t:Pf}{c:Nat}
theorem aL.ty (h:aL c t):jM c t.T t.types.length:=by cases h;assumption
theorem aL.iD (h:aL c t):∀x∈t.types,aF c x=true:=by cases h;assumption
theorem aL.k (h:aL c t):jM c t.A t.kids.length:=by cases h;assumption
theorem aL.kids (h:aL c t):∀k∈t.kids,aL c k:=by cases h;assumption
theorem dm (h:bM w t) (hc:w.heap.size≤c):aL c t:=by
 induction h with
 |mk h _ ih=>exact .mk (jM.new h.types.row hc) (fun x hx=>aU (h.types.args x hx) hc) (jM.new h.row hc) ih
theorem bM.grown {row:Option Nat}(h:bM w t) (hg:w.grownBy w' row) (ha:∀c,row=some c→aL c t):bM w' t:=by
 induction h with
 |mk h _ ih=>
  refine .mk ⟨h.DR,h.pj,h.le,h.max,⟨dI h.types.row hg (fun hn a hA e=>(ha _ e).ty hn a hA rfl),fun x hx=>(h.types.args x hx).grown hg (fun c e=>(ha c e).iD x hx)⟩,dI h.row hg (fun hn a hA e=>(ha _ e).k hn a hA rfl)⟩ (fun k hk=>ih k hk (fun c e=>(ha c e).kids k hk))
end
theorem Fo : (Tryz.prog.info? 34).map (fun i=>(i.zero,i.size,i.bytes))=some (some (.agg #[.int .i64 0,.int .i64 0,.slice none 0 0,.slice none 0 0]),4,64):=by kernel_rfl
noncomputable def gF : Pf→Bool:=Pf.fold fun t l=>decide (t.types.length≤3000000000000)&&t.types.all jH&&l.all id
theorem wh (t:Pf):gF t=(decide (t.types.length≤3000000000000)&&t.types.all jH&&t.kids.all gF):=by
 unfold gF;rw[Pf.fold_eq,List.all_map];rfl
theorem j9 {t:Pf}(h:gF t=true):t.types.length≤3000000000000∧(∀x∈t.types,jH x=true)∧∀k∈t.kids,gF k=true:=by
 rw[wh,ahv,ahv,decide_eq_true_eq,ahA,ahA] at h;exact⟨h.1.1,h.1.2,h.2⟩
structure wj (w w':World) (x:Pf.Pure) (u:Pf):Prop where
 iM:bM w' u
 is:u.pure=x
 away:∀c,c<w.heap.size→aL c u
theorem wj.ext {w w' w2:World}{x:Pf.Pure}{u:Pf}(h:wj w w' x u) (e:Ext w' w2):wj w w2 x u:=⟨h.iM.ext e,h.is,h.away⟩
theorem wj.old {w w1 w':World}{x:Pf.Pure}{u:Pf}(h:wj w1 w' x u) (hs:w.heap.size≤w1.heap.size):wj w w' x u:=⟨h.iM,h.is,fun c hc=>h.away c (by omega)⟩
section
variable {w w1 w2 w':World}{R:Nat→Prop}{l:List Pf.Pure}{us:List Pf}{t:Pf.Pure}{u:Pf}
end
def gH (c t:aj):aj:=([64]:aj)++c++([64]:aj)++t
set_option maxRecDepth 10000
set_option maxHeartbeats 8000000
theorem N6 (c t:aj) (w:World) (hc:c.length≤1000000000000000000) (ht:t.length≤1000000000000000000) :
  Calls Tryz.prog 79 #[encStr c,encStr t] w fun e w'=>e=.returned (encStr (gH c t))∧w'=w:=by
 have hs1:¬((⟨[(64:UInt8)].toArray⟩:ByteArray).size+(⟨c.toArray⟩:ByteArray).size>9223372036854775807):=by rw[aB,aB];simp;omega
 have e1:=ByteArray.mk_append_mk [(64:UInt8)] c;have hs2:¬((⟨(64 :: c).toArray⟩:ByteArray).size+(⟨[(64:UInt8)].toArray⟩:ByteArray).size>9223372036854775807):=by rw[aB,aB];simp;omega
 have e2:=ByteArray.mk_append_mk (64 :: c) [(64:UInt8)];have hs3:¬((⟨(64 :: (c++[64])).toArray⟩:ByteArray).size+(⟨t.toArray⟩:ByteArray).size>9223372036854775807):=by rw[aB,aB];simp;omega
 have e3:=ByteArray.mk_append_mk (64 :: (c++[64])) t;go_enter Tryz.func79,Tryz.ntmps79;go_wp2;go_ret;exact⟨by simp[gH],rfl⟩
set_option maxRecDepth 512
set_option maxHeartbeats 200000
theorem wk (wr:World) (B:Nat) (a b:Tm) (g:Nat):((((((wr.setCell ⟨B,0,none⟩ (.int .i64 4)).setCell ⟨B,1,none⟩ (.int .i64 0)).setCell ⟨B,2,none⟩ (.string ⟨#[]⟩)).setCell ⟨B,3,none⟩ (.slice none 0 0)).setCell ⟨B,4,none⟩ (.slice none 0 0)).setCell ⟨B,5,none⟩ (.slice (some ⟨g,0,none⟩) 2 2))=cw wr B (fY a b g):=by
 unfold cw fY Tm.kind Tm.n Tm.name Tm.V Tm.vars Tm.vc Tm.T Tm.types Tm.tc Tm.A Tm.kids Tm.cap;rfl
theorem wm {W wr:World}{B:Nat}{a b:Tm}{v0 v1 v2 v3 v4 v5:Value}(hX:Ext W wr) (hB:av wr B a) (hZ:wr.heap[B+1]?=some (.cells #[v0,v1,v2,v3,v4,v5] 40 (0,0))) (ha:aM wr a) (RN:ay B a) (hb:aM wr b) (hab:ay B b) (zW:W.heap.size≤B){V V2:World}{g:Nat}(hV:V=cw wr B (fY a b g)) (hE:Ext V V2) (hg:g=V2.heap.size) :
  Ext W (V2.alloc (.cells #[.int .i64 a.kind,.int .i64 a.n,.string ⟨a.name.toArray⟩,.slice a.V a.vars.length a.vc,.slice a.T a.types.length a.tc,.slice a.A a.kids.length a.cap,.int .i64 b.kind,.int .i64 b.n,.string ⟨b.name.toArray⟩,.slice b.V b.vars.length b.vc,.slice b.T b.types.length b.tc,.slice b.A b.kids.length b.cap] 40))∧av (V2.alloc (.cells #[.int .i64 a.kind,.int .i64 a.n,.string ⟨a.name.toArray⟩,.slice a.V a.vars.length a.vc,.slice a.T a.types.length a.tc,.slice a.A a.kids.length a.cap,.int .i64 b.kind,.int .i64 b.n,.string ⟨b.name.toArray⟩,.slice b.V b.vars.length b.vc,.slice b.T b.types.length b.tc,.slice b.A b.kids.length b.cap] 40)) B (fY a b (g))∧(V2.alloc (.cells #[.int .i64 a.kind,.int .i64 a.n,.string ⟨a.name.toArray⟩,.slice a.V a.vars.length a.vc,.slice a.T a.types.length a.tc,.slice a.A a.kids.length a.cap,.int .i64 b.kind,.int .i64 b.n,.string ⟨b.name.toArray⟩,.slice b.V b.vars.length b.vc,.slice b.T b.types.length b.tc,.slice b.A b.kids.length b.cap] 40)).heap[B+1]?=some (.cells #[v0,v1,v2,v3,v4,v5] 40 (0,0))∧aM (V2.alloc (.cells #[.int .i64 a.kind,.int .i64 a.n,.string ⟨a.name.toArray⟩,.slice a.V a.vars.length a.vc,.slice a.T a.types.length a.tc,.slice a.A a.kids.length a.cap,.int .i64 b.kind,.int .i64 b.n,.string ⟨b.name.toArray⟩,.slice b.V b.vars.length b.vc,.slice b.T b.types.length b.tc,.slice b.A b.kids.length b.cap] 40)) (fY a b (g)):=by
 have gr:=aZ wr B (fY a b g);rw[←hV] at gr;have vw:av V B (fY a b g):=by rw[hV];exact gj _ hB
 have hz:V.heap[B+1]?=_:=(gr.block (B+1) (ae hZ) (fun e=>by injection e with e;omega)).trans hZ;have hE:Ext V (V2.alloc (.cells #[.int .i64 a.kind,.int .i64 a.n,.string ⟨a.name.toArray⟩,.slice a.V a.vars.length a.vc,.slice a.T a.types.length a.tc,.slice a.A a.kids.length a.cap,.int .i64 b.kind,.int .i64 b.n,.string ⟨b.name.toArray⟩,.slice b.V b.vars.length b.vc,.slice b.T b.types.length b.tc,.slice b.A b.kids.length b.cap] 40)):=hE.alloc _;exact⟨(hX.grown gr (fun c e=>by injection e with e;omega)).trans hE,vw.ext hE,(hE.heap (ae hz)).trans hz,
  JP ((ha.grown gr (fun c e=>by injection e with e;subst e;exact RN)).ext hE) ((hb.grown gr (fun c e=>by injection e with e;subst e;exact hab)).ext hE) (ah V2 _ _ hg)⟩
theorem BX {W wr:World}{B:Nat}{a b:Tm}{v0 v1 v2 v3 v4 v5:Value}(hX:Ext W wr) (hB:av wr B a) (hZ:wr.heap[B+1]?=some (.cells #[v0,v1,v2,v3,v4,v5] 40 (0,0))) (ha:aM wr a) (RN:ay B a) (hb:aM wr b) (hab:ay B b) (zW:W.heap.size≤B) :
  Ext W (((((((((wr.setCell ⟨B,0,none⟩ (.int .i64 4)).setCell ⟨B,1,none⟩ (.int .i64 0)).setCell ⟨B,2,none⟩ (.string ⟨#[]⟩)).setCell ⟨B,3,none⟩ (.slice none 0 0)).setCell ⟨B,4,none⟩ (.slice none 0 0)).setCell ⟨B,5,none⟩ (.slice (some ⟨wr.heap.size+1,0,none⟩) 2 2))).alloc (.cells #[.int .i64 b.kind,.int .i64 b.n,.string ⟨b.name.toArray⟩,.slice b.V b.vars.length b.vc,.slice b.T b.types.length b.tc,.slice b.A b.kids.length b.cap] 40)).alloc (.cells #[.int .i64 a.kind,.int .i64 a.n,.string ⟨a.name.toArray⟩,.slice a.V a.vars.length a.vc,.slice a.T a.types.length a.tc,.slice a.A a.kids.length a.cap,.int .i64 b.kind,.int .i64 b.n,.string ⟨b.name.toArray⟩,.slice b.V b.vars.length b.vc,.slice b.T b.types.length b.tc,.slice b.A b.kids.length b.cap] 40))∧av (((((((((wr.setCell ⟨B,0,none⟩ (.int .i64 4)).setCell ⟨B,1,none⟩ (.int .i64 0)).setCell ⟨B,2,none⟩ (.string ⟨#[]⟩)).setCell ⟨B,3,none⟩ (.slice none 0 0)).setCell ⟨B,4,none⟩ (.slice none 0 0)).setCell ⟨B,5,none⟩ (.slice (some ⟨wr.heap.size+1,0,none⟩) 2 2))).alloc (.cells #[.int .i64 b.kind,.int .i64 b.n,.string ⟨b.name.toArray⟩,.slice b.V b.vars.length b.vc,.slice b.T b.types.length b.tc,.slice b.A b.kids.length b.cap] 40)).alloc (.cells #[.int .i64 a.kind,.int .i64 a.n,.string ⟨a.name.toArray⟩,.slice a.V a.vars.length a.vc,.slice a.T a.types.length a.tc,.slice a.A a.kids.length a.cap,.int .i64 b.kind,.int .i64 b.n,.string ⟨b.name.toArray⟩,.slice b.V b.vars.length b.vc,.slice b.T b.types.length b.tc,.slice b.A b.kids.length b.cap] 40)) B (fY a b (wr.heap.size+1))∧(((((((((wr.setCell ⟨B,0,none⟩ (.int .i64 4)).setCell ⟨B,1,none⟩ (.int .i64 0)).setCell ⟨B,2,none⟩ (.string ⟨#[]⟩)).setCell ⟨B,3,none⟩ (.slice none 0 0)).setCell ⟨B,4,none⟩ (.slice none 0 0)).setCell ⟨B,5,none⟩ (.slice (some ⟨wr.heap.size+1,0,none⟩) 2 2))).alloc (.cells #[.int .i64 b.kind,.int .i64 b.n,.string ⟨b.name.toArray⟩,.slice b.V b.vars.length b.vc,.slice b.T b.types.length b.tc,.slice b.A b.kids.length b.cap] 40)).alloc (.cells #[.int .i64 a.kind,.int .i64 a.n,.string ⟨a.name.toArray⟩,.slice a.V a.vars.length a.vc,.slice a.T a.types.length a.tc,.slice a.A a.kids.length a.cap,.int .i64 b.kind,.int .i64 b.n,.string ⟨b.name.toArray⟩,.slice b.V b.vars.length b.vc,.slice b.T b.types.length b.tc,.slice b.A b.kids.length b.cap] 40)).heap[B+1]?=some (.cells #[v0,v1,v2,v3,v4,v5] 40 (0,0))∧aM (((((((((wr.setCell ⟨B,0,none⟩ (.int .i64 4)).setCell ⟨B,1,none⟩ (.int .i64 0)).setCell ⟨B,2,none⟩ (.string ⟨#[]⟩)).setCell ⟨B,3,none⟩ (.slice none 0 0)).setCell ⟨B,4,none⟩ (.slice none 0 0)).setCell ⟨B,5,none⟩ (.slice (some ⟨wr.heap.size+1,0,none⟩) 2 2))).alloc (.cells #[.int .i64 b.kind,.int .i64 b.n,.string ⟨b.name.toArray⟩,.slice b.V b.vars.length b.vc,.slice b.T b.types.length b.tc,.slice b.A b.kids.length b.cap] 40)).alloc (.cells #[.int .i64 a.kind,.int .i64 a.n,.string ⟨a.name.toArray⟩,.slice a.V a.vars.length a.vc,.slice a.T a.types.length a.tc,.slice a.A a.kids.length a.cap,.int .i64 b.kind,.int .i64 b.n,.string ⟨b.name.toArray⟩,.slice b.V b.vars.length b.vc,.slice b.T b.types.length b.tc,.slice b.A b.kids.length b.cap] 40)) (fY a b (wr.heap.size+1)):=by
 have hV:=wk wr B a b (wr.heap.size+1);generalize ((((((wr.setCell ⟨B,0,none⟩ (.int .i64 4)).setCell ⟨B,1,none⟩ (.int .i64 0)).setCell ⟨B,2,none⟩ (.string ⟨#[]⟩)).setCell ⟨B,3,none⟩ (.slice none 0 0)).setCell ⟨B,4,none⟩ (.slice none 0 0)).setCell ⟨B,5,none⟩ (.slice (some ⟨wr.heap.size+1,0,none⟩) 2 2))=V at *;have hsz:V.heap.size=wr.heap.size:=by rw[hV,fy]
 exact wm hX hB hZ ha RN hb hab zW hV ((eR V).alloc _) (by simp[hsz])
theorem BZ {W wr:World}{B:Nat}{a b:Tm}{v0 v1 v2 v3 v4 v5:Value}(hX:Ext W wr) (hB:av wr B a) (hZ:wr.heap[B+1]?=some (.cells #[v0,v1,v2,v3,v4,v5] 40 (0,0))) (ha:aM wr a) (RN:ay B a) (hb:aM wr b) (hab:ay B b) (zW:W.heap.size≤B) :
  Ext W ((((((((wr.setCell ⟨B,0,none⟩ (.int .i64 4)).setCell ⟨B,1,none⟩ (.int .i64 0)).setCell ⟨B,2,none⟩ (.string ⟨#[]⟩)).setCell ⟨B,3,none⟩ (.slice none 0 0)).setCell ⟨B,4,none⟩ (.slice none 0 0)).setCell ⟨B,5,none⟩ (.slice (some ⟨wr.heap.size,0,none⟩) 2 2))).alloc (.cells #[.int .i64 a.kind,.int .i64 a.n,.string ⟨a.name.toArray⟩,.slice a.V a.vars.length a.vc,.slice a.T a.types.length a.tc,.slice a.A a.kids.length a.cap,.int .i64 b.kind,.int .i64 b.n,.string ⟨b.name.toArray⟩,.slice b.V b.vars.length b.vc,.slice b.T b.types.length b.tc,.slice b.A b.kids.length b.cap] 40))∧av ((((((((wr.setCell ⟨B,0,none⟩ (.int .i64 4)).setCell ⟨B,1,none⟩ (.int .i64 0)).setCell ⟨B,2,none⟩ (.string ⟨#[]⟩)).setCell ⟨B,3,none⟩ (.slice none 0 0)).setCell ⟨B,4,none⟩ (.slice none 0 0)).setCell ⟨B,5,none⟩ (.slice (some ⟨wr.heap.size,0,none⟩) 2 2))).alloc (.cells #[.int .i64 a.kind,.int .i64 a.n,.string ⟨a.name.toArray⟩,.slice a.V a.vars.length a.vc,.slice a.T a.types.length a.tc,.slice a.A a.kids.length a.cap,.int .i64 b.kind,.int .i64 b.n,.string ⟨b.name.toArray⟩,.slice b.V b.vars.length b.vc,.slice b.T b.types.length b.tc,.slice b.A b.kids.length b.cap] 40)) B (fY a b (wr.heap.size))∧((((((((wr.setCell ⟨B,0,none⟩ (.int .i64 4)).setCell ⟨B,1,none⟩ (.int .i64 0)).setCell ⟨B,2,none⟩ (.string ⟨#[]⟩)).setCell ⟨B,3,none⟩ (.slice none 0 0)).setCell ⟨B,4,none⟩ (.slice none 0 0)).setCell ⟨B,5,none⟩ (.slice (some ⟨wr.heap.size,0,none⟩) 2 2))).alloc (.cells #[.int .i64 a.kind,.int .i64 a.n,.string ⟨a.name.toArray⟩,.slice a.V a.vars.length a.vc,.slice a.T a.types.length a.tc,.slice a.A a.kids.length a.cap,.int .i64 b.kind,.int .i64 b.n,.string ⟨b.name.toArray⟩,.slice b.V b.vars.length b.vc,.slice b.T b.types.length b.tc,.slice b.A b.kids.length b.cap] 40)).heap[B+1]?=some (.cells #[v0,v1,v2,v3,v4,v5] 40 (0,0))∧aM ((((((((wr.setCell ⟨B,0,none⟩ (.int .i64 4)).setCell ⟨B,1,none⟩ (.int .i64 0)).setCell ⟨B,2,none⟩ (.string ⟨#[]⟩)).setCell ⟨B,3,none⟩ (.slice none 0 0)).setCell ⟨B,4,none⟩ (.slice none 0 0)).setCell ⟨B,5,none⟩ (.slice (some ⟨wr.heap.size,0,none⟩) 2 2))).alloc (.cells #[.int .i64 a.kind,.int .i64 a.n,.string ⟨a.name.toArray⟩,.slice a.V a.vars.length a.vc,.slice a.T a.types.length a.tc,.slice a.A a.kids.length a.cap,.int .i64 b.kind,.int .i64 b.n,.string ⟨b.name.toArray⟩,.slice b.V b.vars.length b.vc,.slice b.T b.types.length b.tc,.slice b.A b.kids.length b.cap] 40)) (fY a b (wr.heap.size)):=by
 have hV:=wk wr B a b wr.heap.size;generalize ((((((wr.setCell ⟨B,0,none⟩ (.int .i64 4)).setCell ⟨B,1,none⟩ (.int .i64 0)).setCell ⟨B,2,none⟩ (.string ⟨#[]⟩)).setCell ⟨B,3,none⟩ (.slice none 0 0)).setCell ⟨B,4,none⟩ (.slice none 0 0)).setCell ⟨B,5,none⟩ (.slice (some ⟨wr.heap.size,0,none⟩) 2 2))=V at *;have hsz:V.heap.size=wr.heap.size:=by rw[hV,fy]
 exact wm hX hB hZ ha RN hb hab zW hV (eR V) hsz.symm
set_option maxRecDepth 10000
set_option maxHeartbeats 8000000
theorem Fp (A:Option Addr) (cap:Nat) (l:List Tm) (t:Tm) (w:World) (h:bK w A l) (ht:aM w t) (hl:l.length≤1000000) :
  Calls Tryz.prog 80 #[bl t,.slice A l.length cap] w fun e w'=>(∃u,e=.returned (bl u)∧aM w' u∧u.pure=mH t.pure l∧∀c,c<w.heap.size→ay c t→(∀x∈l,ay c x)→ay c u)∧Ext w w':=by
 obtain⟨W,hW⟩:∃W,W=(w.alloc (.cells #[.int .i64 t.kind,.int .i64 t.n,encStr t.name,.slice t.V t.vars.length t.vc,.slice t.T t.types.length t.tc,.slice t.A t.kids.length t.cap] 40)).alloc (.cells #[.int .i64 0,.int .i64 0,.string ⟨#[]⟩,.slice none 0 0,.slice none 0 0,.slice none 0 0] 40):=⟨_,rfl⟩;have HW:=aa hW.symm;have X0:ahg (Ext w W):=aa (by rw[hW];exact((eR _).alloc _).alloc _);have rk:W.heap.size=w.heap.size+2:=by rw[hW];simp
 have B1:ahg (av W w.heap.size t):=aa (by rw[hW];exact(av.new w t).ext ((eR _).alloc _));have B2:ahg (W.heap[w.heap.size+1]?=some (.cells #[.int .i64 0,.int .i64 0,.string ⟨#[]⟩,.slice none 0 0,.slice none 0 0,.slice none 0 0] 40 (0,0))):=aa (by rw[hW];exact ah _ _ _ (by simp));have H:=aa h;have Ht:=aa ht;have zO:ahg (∀c,c<w.heap.size+2→(c<w.heap.size→ay c t∧∀x∈l,ay c x)→ay c t):=aa (fun c _ h=>(Nat.lt_or_ge c w.heap.size).elim (fun h1=>(h h1).1) (fun h1=>bw ht h1));clear h ht hW;unfold bl at *;go_enter Tryz.func80,Tryz.ntmps80;go_upto_region 1 with fail;rw[HW.o];go_wp2
 go_loopw [9] (fun i wr=>∃(k:Nat) (u:Tm),k≤l.length∧i=.int .i64 k∧ahg (Ext w wr)∧ahg (av wr w.heap.size u)∧ahg (wr.heap[w.heap.size+1]?=some (.cells #[.int .i64 0,.int .i64 0,.string ⟨#[]⟩,.slice none 0 0,.slice none 0 0,.slice none 0 0] 40 (0,0)))∧ahg (aM wr u∧u.pure=mH t.pure (l.take k)∧∀c,c<w.heap.size+2→(c<w.heap.size→ay c t∧∀x∈l,ay c x)→ay c u)) (fun i _=>l.length - (intOf i).toNat)
 case atStart=>exact⟨0,t,ahj _,rfl,X0,B1,B2,aa ⟨Ht.o.ext X0.o,rfl,zO.o⟩⟩
 case round=>
  obtain⟨k,u,hk,rfl,HX,HB,HZ,HU⟩:=hrel;have hz2:=ae HZ.o;have hbl:=HB.o.lt
  by_cases hlt:k<l.length
  ·have aS:(k:Int)<(l.length:Int):=by omega
   have dy:(0:Int)≤(k:Int):=by omega
   obtain⟨b,o,hA,hb,r0,r1,r2,r3,r4,r5⟩:=(H.o.ext HX.o).at_ hlt;have cS:=aa (pM t.pure l hlt);have Hm:=aa (ahh hlt);have Hx:=aa (H.o.kids _ (ahh hlt));rw[hA];generalize l[k]'hlt=x at *;have Fj:ahg (∀c,c<w.heap.size+2→(c<w.heap.size→ay c t∧∀x∈l,ay c x)→ay c x):=aa (fun c _ h=>(Nat.lt_or_ge c w.heap.size).elim (fun h1=>(h h1).2 _ Hm.o) (fun h1=>bw Hx.o h1));have Dy:ahg (∀g,wr.heap.size≤g→∀c,c<w.heap.size+2→(c<w.heap.size→ay c t∧∀x∈l,ay c x)→ay c (fY u x g)):=aa (fun g hg c hc h2=>su (by omega) (HU.o.2.2 c hc h2) (Fj.o c hc h2));have HP:ahg (∀g,(fY u x g).pure=mH t.pure (l.take (k+1))):=aa (fun g=>by rw[sr,HU.o.2.1,cS.o]);clear hA;obtain⟨c0,c1,c2,c3,c4,c5⟩:=HB.o.cells;obtain⟨f0,f1,f2,f3,f4,f5⟩:=HB.o.Ep;have HL:=aa (BX HX.o HB.o HZ.o HU.o.1 (HU.o.2.2 _ (by omega) (fun h=>by omega)) (Hx.o.ext HX.o) (Fj.o _ (by omega) (fun h=>by omega)) (ahi _));go_wp2;go_roundw
   case rel=>exact⟨k+1,fY u x _,hlt,by go_num,aa HL.o.1,aa HL.o.2.1,aa HL.o.2.2.1,aa ⟨HL.o.2.2.2,HP.o _,Dy.o _ (by omega)⟩⟩
   case measure=>simp[intOf];omega
  ·have bU:¬(k:Int)<(l.length:Int):=by omega
   obtain⟨c0,c1,c2,c3,c4,c5⟩:=HB.o.cells;obtain⟨hu,hp,ha⟩:=HU.o;rw[ahm (by omega)] at hp;obtain⟨WF,ig⟩:∃WF,WF=cw wr (w.heap.size+1) u:=⟨_,rfl⟩;have hgr:=aZ wr (w.heap.size+1) u;have vw:=gj u HZ.o;rw[←ig] at hgr vw;have XF:=aa (HX.o.grown hgr (fun c e=>by injection e with e;omega));have WT:=aa (hu.grown hgr (fun c e=>by injection e with e;subst e;exact ha _ (by omega) (fun h=>by omega)));have HP:=aa hp;have HA:=aa ha;have g0:=ai HZ.o 0;have g1:=ai HZ.o 1;have g2:=ai HZ.o 2;have g3:=ai HZ.o 3;have g4:=ai HZ.o 4;have g5:=ai HZ.o 5;have z0:=af HZ.o 0;have z1:=af HZ.o 1;have z2:=af HZ.o 2;have z3:=af HZ.o 3;have z4:=af HZ.o 4;have z5:=af HZ.o 5;simp only[ahp,ahq,ahr] at z0 z1 z2 z3 z4 z5;obtain⟨m0,m1,m2,m3,m4,m5⟩:=vw.cells;clear hu hp ha hgr vw;unfold cw at ig;go_wp2;rw[←ig];refine bodyPost_ret (v:=.agg #[.int .i64 u.kind,.int .i64 u.n,.string ⟨u.name.toArray⟩,.slice u.V u.vars.length u.vc,.slice u.T u.types.length u.tc,.slice u.A u.kids.length u.cap]) ?_ rfl ⟨⟨u,rfl,WT.o,HP.o,fun c hc h1 h2=>HA.o c (by omega) (fun _=>⟨h1,h2⟩)⟩,XF.o⟩;simp[results,Tryz.f80,go_sem,m0,m1,m2,m3,m4,m5]
set_option maxRecDepth 512
set_option maxHeartbeats 200000
def qY (w:World):Prop:=w.cell? ⟨2,0,none⟩=some (.iface 201 (.agg #[.pointer (some ⟨4,77,none⟩)]))
theorem qY.ext {w w':World}(h:qY w) (e:Ext w w'):qY w':=e.cell h
theorem bn {w:World}{b:Nat}(h:w.heap[b]?=some (.cells #[.int .i64 0,.int .i64 0,.string ⟨#[]⟩,.slice none 0 0,.slice none 0 0,.slice none 0 0] 40)):w.cell? ⟨b,0,none⟩=some (.int .i64 0)∧w.cell? ⟨b,1,none⟩=some (.int .i64 0)∧w.cell? ⟨b,2,none⟩=some (.string ⟨#[]⟩)∧w.cell? ⟨b,3,none⟩=some (.slice none 0 0)∧w.cell? ⟨b,4,none⟩=some (.slice none 0 0)∧w.cell? ⟨b,5,none⟩=some (.slice none 0 0) ∧
  w.frozen? ⟨b,0,none⟩=false∧w.frozen? ⟨b,1,none⟩=false∧w.frozen? ⟨b,2,none⟩=false∧w.frozen? ⟨b,3,none⟩=false∧w.frozen? ⟨b,4,none⟩=false∧w.frozen? ⟨b,5,none⟩=false:=by
 refine⟨?_,?_,?_,?_,?_,?_,?_,?_,?_,?_,?_,?_⟩<;>simp[World.cell?,World.frozen?,h]
theorem Row.Ca {w:World}{b:Nat}{t:TypeId}{fr:Nat×Nat}(x0 x1 x2 x3 x4 x5:Value) (h:w.heap[b]?=some (.cells #[x0,x1,x2,x3,x4,x5] t fr)):Row w (some ⟨b,0,none⟩) 6 1 [x0,x1,x2,x3,x4,x5]:=by
 refine⟨rfl,fun _=>⟨b,0,rfl,ae h,fun j u hu => ?_⟩⟩;rw[Nat.zero_add];simp only[World.cell?,h];simpa using hu
theorem ik (us:List Tm) (y:Tm):(us++[y]).flatMap eT.f=us.flatMap eT.f++[.int .i64 y.kind,.int .i64 y.n,encStr y.name,.slice y.V y.vars.length y.vc,.slice y.T y.types.length y.tc,.slice y.A y.kids.length y.cap]:=by
 rw[List.flatMap_append,List.flatMap_cons,List.flatMap_nil,List.append_nil];rfl
def fL (w:World) (b:Nat) (x:dz) (P:Option Addr) (pc:Nat) (preds:List Pd) (L:Option Addr) (lc:Nat) (given:List Tm):Prop:=w.heap[b]?=some (.cells #[.slice x.D x.aA.length x.dc,.slice x.C x.ag.length x.cc,.slice x.I x.insts.length x.ic,.slice P preds.length pc,.slice L given.length lc] 80 (0,0))
section
variable {w w':World}{b:Nat}{x:dz}{P:Option Addr}{pc:Nat}{preds:List Pd}{L:Option Addr}{lc:Nat}{given:List Tm}
theorem fL.lt (h:fL w b x P pc preds L lc given):b<w.heap.size:=ae h
theorem fL.ext (h:fL w b x P pc preds L lc given) (e:Ext w w'):fL w' b x P pc preds L lc given:=(e.heap h.lt).trans h
theorem fL.new (w:World):fL (w.alloc (.cells #[.slice x.D x.aA.length x.dc,.slice x.C x.ag.length x.cc,.slice x.I x.insts.length x.ic,.slice P preds.length pc,.slice L given.length lc] 80)) w.heap.size x P pc preds L lc given:=ah _ _ _ rfl
theorem fL.cells (h:fL w b x P pc preds L lc given):w.cell? ⟨b,0,none⟩=some (.slice x.D x.aA.length x.dc)∧w.cell? ⟨b,1,none⟩=some (.slice x.C x.ag.length x.cc)∧w.cell? ⟨b,2,none⟩=some (.slice x.I x.insts.length x.ic)∧w.cell? ⟨b,3,none⟩=some (.slice P preds.length pc)∧w.cell? ⟨b,4,none⟩=some (.slice L given.length lc):=
 ⟨af h 0,af h 1,af h 2,af h 3,af h 4⟩
end
structure rr (w w':World) (given:List Tm) (p:Pf) (Q:Tm.Pure) (t:Tm):Prop where
 iM:aM w' t
 is:t.pure=Q
 away:∀c,c<w.heap.size→(∀g∈given,ay c g)→aL c p→ay c t
def Qd (x:dz) (P:Option Addr) (pc:Nat) (preds:List Pd) (L:Option Addr) (lc:Nat) (given:List Tm) (p:Pf):Prop:=
 ∀(w:World),dX w x→bA w P preds→bK w L given→bM w p→(bm x.ag x.insts preds p).isSome=true→given.length=preds.length→qY w →
  Calls Tryz.prog 47 #[.agg #[.slice x.D x.aA.length x.dc,.slice x.C x.ag.length x.cc,.slice x.I x.insts.length x.ic,.slice P preds.length pc,.slice L given.length lc],cr p] w fun e w'=>(∃t,e=.returned (bl t)∧rr w w' given p (kE x.ag x.insts preds (given.map Tm.pure) p) t)∧Ext w w'
theorem mO {cs:List dK}{ins:List cX}{preds:List Pd}{given:List Tm}{p:Pf}(hk:p.kind=1){n:Nat}(hn:p.n=(n:Int)) (hl:n<given.length):kE cs ins preds (given.map Tm.pure) p=(given[n]'hl).pure:=by
 rw[lJ];unfold Mo om;rw[if_pos hk,hn,if_pos (by omega)];simp[hl]
theorem pV {cs:List dK}{ins:List cX}{preds:List Pd}{given:List Tm.Pure}{p k:Pf}{b:Pd}(hk:p.kind=2) (iN:p.kids=[k]) (hb:bm cs ins preds k=some b):kE cs ins preds given p=.mk 13 p.n b.cls [] [] [kE cs ins preds given k]:=by
 rw[lJ];unfold Mo;rw[if_neg (by omega),if_pos hk,iN];show Tm.Pure.mk 13 p.n (((bm cs ins preds k).map Pd.cls).getD []) [] [] [kE cs ins preds given k]=_;rw[hb];rfl
theorem oL {cs:List dK}{ins:List cX}{preds:List Pd}{given:List Tm.Pure}{p:Pf}{x:cX}(hk:p.kind=3) (hx:om ins p.n=some x):kE cs ins preds given p =
  (p.kids.map (kE cs ins preds given)).foldl nk (if p.types.map Ty.pure=[] then .mk 1 0 (gH x.cls x.aq) [] [] [] else .mk 6 0 [] [] (p.types.map Ty.pure) [.mk 1 0 (gH x.cls x.aq) [] [] []]):=by
 rw[lJ];unfold Mo;rw[if_neg (by omega),if_neg (by omega),hx];rfl
theorem dv {y:World}{B b i:Nat}(h:b≠B) (v0 v1 v2 v3 v4 v5:Value){u:Value}(k:y.cell? ⟨b,i,none⟩=some u):((((((y.setCell ⟨B,0,none⟩ v0).setCell ⟨B,1,none⟩ v1).setCell ⟨B,2,none⟩ v2).setCell ⟨B,3,none⟩ v3).setCell ⟨B,4,none⟩ v4).setCell ⟨B,5,none⟩ v5).cell? ⟨b,i,none⟩=some u:=by
 refine(World.cell?_of_block (a:=⟨b,i,none⟩) ?_).trans k;show((((((y.setCell ⟨B,0,none⟩ v0).setCell ⟨B,1,none⟩ v1).setCell ⟨B,2,none⟩ v2).setCell ⟨B,3,none⟩ v3).setCell ⟨B,4,none⟩ v4).setCell ⟨B,5,none⟩ v5).heap[b]?=y.heap[b]?;rw[Below.heap_setCell _ _ _ _ h,Below.heap_setCell _ _ _ _ h,Below.heap_setCell _ _ _ _ h,Below.heap_setCell _ _ _ _ h,Below.heap_setCell _ _ _ _ h,Below.heap_setCell _ _ _ _ h]
theorem cy {y:World}{B b i:Nat}(h:b≠B) (v0 v1 v2 v3 v4 v5:Value) (o:Obj){u:Value}(k:y.cell? ⟨b,i,none⟩=some u):(((((((y.setCell ⟨B,0,none⟩ v0).setCell ⟨B,1,none⟩ v1).setCell ⟨B,2,none⟩ v2).setCell ⟨B,3,none⟩ v3).setCell ⟨B,4,none⟩ v4).setCell ⟨B,5,none⟩ v5).alloc o).cell? ⟨b,i,none⟩=some u:=
 ((eR _).alloc o).cell (dv h v0 v1 v2 v3 v4 v5 k)
structure lu (W wx:World) (b:Nat) (s:aj):Prop where
 x:Ext W wx
 lt:b<wx.heap.size
 ge:W.heap.size≤b
 c0:wx.cell? ⟨b,0,none⟩=some (encStr s)
theorem lu.behind {W y:World}{a:Pd}(e:Ext W y):lu W (y.alloc (.cells #[encStr a.cls,encStr a.ty.aq,.int .i64 a.ty.var,.slice a.ty.A a.ty.args.length a.ty.cap] 55)) y.heap.size a.cls:=⟨e.alloc _,by simp,e.size,(aY.new y a).cells.1⟩
theorem lu.ahead {W y:World}{a:Pd}{B:Nat}{v0 v1 v2 v3:Value}(e:Ext W y) (hB:W.heap.size≤B) (h:y.heap[B]?=some (.cells #[v0,v1,v2,v3] 55 (0,0))):lu W ((((y.setCell ⟨B,0,none⟩ (encStr a.cls)).setCell ⟨B,1,none⟩ (encStr a.ty.aq)).setCell ⟨B,2,none⟩ (.int .i64 a.ty.var)).setCell ⟨B,3,none⟩ (.slice a.ty.A a.ty.args.length a.ty.cap)) B a.cls:=by
 have h1:=aw (aw (aw (aw h 0 (encStr a.cls)) 1 (encStr a.ty.aq)) 2 (.int .i64 a.ty.var)) 3 (.slice a.ty.A a.ty.args.length a.ty.cap);refine⟨(((e.setCell hB _).setCell hB _).setCell hB _).setCell hB _,ae h1,hB,(af h1 0).trans ?_⟩;simp
def Ks (s:aj) (n:Int) (g:Nat) (t:Tm):Tm:=.mk 13 n s none 0 [] none 0 [] (some ⟨g,0,none⟩) 1 [t]
theorem zX {w:World}{s:aj}{n:Int}{g:Nat}{t:Tm}(hs:s.length≤9223372036854775807) (ht:aM w t) (hg:av w g t):aM w (Ks s n g t):=
 .mk ⟨ahj _,by show 0≤9223372036854775807;omega,ahj _,by show 0≤9223372036854775807;omega,ahi _,by show 1≤9223372036854775807;omega,hs,ak.nil _ _ _,bF.nil _ _,ak.block eT [t] hg⟩ (fun k hk=>by
  have hk:k∈[t]:=hk;rw[ahx] at hk;subst hk;exact ht)
theorem sM {c:Nat}{s:aj}{n:Int}{g:Nat}{t:Tm}(hg:g≠c) (ht:ay c t):ay c (Ks s n g t):=
 .mk (fun h=>absurd rfl h) (fun h=>absurd rfl h) (by intro x hx;cases hx) (fun _ a e=>by injection e with e;subst e;exact hg) (fun k hk=>by
  have hk:k∈[t]:=hk;rw[ahx] at hk;subst hk;exact ht)
set_option maxRecDepth 10000
set_option maxHeartbeats 8000000
theorem ru (x:dz) (P:Option Addr) (pc:Nat) (preds:List Pd) (L:Option Addr) (lc:Nat) (given:List Tm) (p:Pf) (hk:p.kind=1):Qd x P pc preds L lc given p:=by
 intro w he hP hL hp hq hlen jd;obtain⟨q,hq⟩:=Option.isSome_iff_exists.1 hq
 rcases dM hq with ⟨-,-,-,h0,h1⟩|⟨h,-⟩|⟨h,-⟩
 rotate_left
 ·omega
 ·omega
 obtain⟨n,hn⟩:∃n:Nat,p.n=(n:Int):=⟨p.n.toNat,by omega⟩;have hlt:n<given.length:=by omega
 rw[mO hk hn hlt];obtain⟨W,hW⟩:∃W,W=((w.alloc (.cells #[.slice x.D x.aA.length x.dc,.slice x.C x.ag.length x.cc,.slice x.I x.insts.length x.ic,.slice P preds.length pc,.slice L given.length lc] 80)).alloc (.cells #[.int .i64 p.kind,.int .i64 p.n,.slice p.T p.types.length p.tc,.slice p.A p.kids.length p.cap] 34)).alloc (.cells #[.int .i64 0,.int .i64 0,.string ⟨#[]⟩,.slice none 0 0,.slice none 0 0,.slice none 0 0] 40):=⟨_,rfl⟩;have HW:=aa hW.symm;have X0:ahg (Ext w W):=aa (by rw[hW];exact(((eR _).alloc _).alloc _).alloc _);have B1:ahg (fL W w.heap.size x P pc preds L lc given):=aa (by rw[hW];exact(fL.new w).ext (((eR _).alloc _).alloc _));have B2:ahg (aO W (w.heap.size+1) p):=aa (by rw[hW];exact aO.ext (ah _ _ _ (by simp)) ((eR _).alloc _));have B3:ahg (W.heap[w.heap.size+1+1]?=some (.cells #[.int .i64 0,.int .i64 0,.string ⟨#[]⟩,.slice none 0 0,.slice none 0 0,.slice none 0 0] 40)):=aa (by rw[hW];exact ah _ _ _ (by simp));obtain⟨b,o,rfl,hb,q0,q1,q2,q3,q4,q5⟩:=(hL.ext X0.o).at_ hlt;have jF:=hL.kids _ (ahh hlt);have HA:ahg (ay (w.heap.size+1+1) (given[n]'hlt)):=aa (bw jF (by omega));have HI:=aa (jF.ext X0.o);have Hm:=aa (ahh hlt);generalize given[n]'hlt=g at *;have HF:ahg (rr w (cw W (w.heap.size+1+1) g) given p g.pure g):=aa ⟨HI.o.grown (aZ _ _ _) (fun c e=>by injection e with e;subst e;exact HA.o),rfl,fun c _ h _=>h g Hm.o⟩;have XF:=aa (bg X0.o (by omega:w.heap.size≤w.heap.size+1+1) g);obtain⟨c0,c1,c2,c3⟩:=B2.o.cells;obtain⟨e0,e1,e2,e3,e4⟩:=B1.o.cells;obtain⟨z0,z1,z2,z3,z4,z5,iE,iF,iG,iH,um,uo⟩:=bn B3.o;have n1:=B1.o.lt;have n2:=B2.o.lt;have n3:=ae B3.o;have Bk:(0:Int)≤(n:Int):=by omega
 have tV:(n:Int)<(given.length:Int):=by omega
 rw[hk] at c0;rw[hn] at c1;unfold cr;clear hW he hP hL hp hq jd jF h0 h1 hlen hk hn;go_enter Tryz.func47,Tryz.ntmps47;go_upto_region 1 with fail;rw[HW.o];clear HW;go_wp2;refine bodyPost_ret (v:=bl g) ?_ rfl ⟨⟨g,rfl,HF.o⟩,XF.o⟩;simp[results,Tryz.f47,go_sem,z0,z1,z2,z3,z4,z5]
theorem rv (x:dz) (P:Option Addr) (pc:Nat) (preds:List Pd) (L:Option Addr) (lc:Nat) (given:List Tm) (p:Pf) (hk:p.kind=2) (ih:∀k∈p.kids,Qd x P pc preds L lc given k):Qd x P pc preds L lc given p:=by
 intro w he hP hL hp hq hlen jd;obtain⟨q,hq⟩:=Option.isSome_iff_exists.1 hq
 rcases dM hq with ⟨h,-⟩|⟨-,-,k,b,iN,hkb⟩|⟨h,-⟩
 ·omega
 rotate_left
 ·omega
 rw[pV hk iN hkb];obtain⟨W,hW⟩:∃W,W=((w.alloc (.cells #[.slice x.D x.aA.length x.dc,.slice x.C x.ag.length x.cc,.slice x.I x.insts.length x.ic,.slice P preds.length pc,.slice L given.length lc] 80)).alloc (.cells #[.int .i64 p.kind,.int .i64 p.n,.slice p.T p.types.length p.tc,.slice p.A p.kids.length p.cap] 34)).alloc (.cells #[.int .i64 0,.int .i64 0,.string ⟨#[]⟩,.slice none 0 0,.slice none 0 0,.slice none 0 0] 40):=⟨_,rfl⟩;have HW:=aa hW.symm;have X0:ahg (Ext w W):=aa (by rw[hW];exact(((eR _).alloc _).alloc _).alloc _);have B1:ahg (fL W w.heap.size x P pc preds L lc given):=aa (by rw[hW];exact(fL.new w).ext (((eR _).alloc _).alloc _));have B2:ahg (aO W (w.heap.size+1) p):=aa (by rw[hW];exact aO.ext (ah _ _ _ (by simp)) ((eR _).alloc _));have B3:ahg (W.heap[w.heap.size+1+1]?=some (.cells #[.int .i64 0,.int .i64 0,.string ⟨#[]⟩,.slice none 0 0,.slice none 0 0,.slice none 0 0] 40)):=aa (by rw[hW];exact ah _ _ _ (by simp));have bS:ahg (W.heap.size=w.heap.size+3):=aa (by rw[hW];simp);have cv:k∈p.kids:=by rw[iN];simp
 have hall:=hp.all;have pW:=hall.kids k cv;obtain⟨b0,o0,hA,N8,q0,q1,q2,q3⟩:=hall.at_ (i:=0) (by rw[iN];simp);have hb0:b0<W.heap.size:=Nat.lt_of_lt_of_le N8 X0.o.size;have dy:p.kids[0]'(by rw[iN];simp)=k:=by simp[iN]
 rw[dy] at q0 q1 q2 q3;simp only[Nat.zero_mul,Nat.add_zero] at q0 q1 q2 q3;have Dz:=aa (fun w' (e:Ext W w')=>aa (wa x P pc preds k w' (he.ext (X0.o.trans e)) (hP.ext (X0.o.trans e)) (pW.ext (X0.o.trans e)) (qY.ext jd (X0.o.trans e))));have HT:=aa (fun w' (e:Ext W w')=>aa (ih k cv w' (he.ext (X0.o.trans e)) (hP.ext (X0.o.trans e)) (hL.ext (X0.o.trans e)) (pW.ext (X0.o.trans e)) (by rw[hkb];rfl) hlen (qY.ext jd (X0.o.trans e))));rw[hkb] at Dz;have ry:ahg (∀c,w.heap.size≤c→(∀g∈given,ay c g)∧aL c k):=aa (fun c hc=>⟨fun g hg=>bw (hL.kids g hg) hc,dm pW hc⟩);have oM:ahg (∀c,aL c p→aL c k):=aa (fun c h=>h.kids k cv);obtain⟨c0,c1,c2,c3⟩:=B2.o.cells;obtain⟨e0,e1,e2,e3,e4⟩:=B1.o.cells;rw[hk] at c0;rw[hA,iN] at c3;have n1:=B1.o.lt;have n2:=B2.o.lt;have n3:=ae B3.o;have qV:=aa (ahk c0 (ahk c1 c3));replace q0:=X0.o.cell q0;replace q1:=X0.o.cell q1;replace q2:=X0.o.cell q2;replace q3:=X0.o.cell q3;have Kt:=aa (ahk q0 (ahk q1 (ahk q2 q3)));generalize nd:kE x.ag x.insts preds (given.map Tm.pure) k=Q at *;have HV:ahg (cr p=.agg #[.int .i64 2,.int .i64 p.n,.slice p.T p.types.length p.tc,.slice (some ⟨b0,o0,none⟩) 1 p.cap]):=aa (by unfold cr;rw[hk,hA,iN];rfl);rw[HV.o];have HW:ahg (((w.alloc (.cells #[.slice x.D x.aA.length x.dc,.slice x.C x.ag.length x.cc,.slice x.I x.insts.length x.ic,.slice P preds.length pc,.slice L given.length lc] 80)).alloc (.cells #[.int .i64 2,.int .i64 p.n,.slice p.T p.types.length p.tc,.slice (some ⟨b0,o0,none⟩) 1 p.cap] 34)).alloc (.cells #[.int .i64 0,.int .i64 0,.string ⟨#[]⟩,.slice none 0 0,.slice none 0 0,.slice none 0 0] 40)=W):=aa (by have h:=HW.o;rw[hk,hA,iN] at h;exact h);unfold eX cr at *;have WU:ahg (b.cls.length≤1000000000000000000):=aa (np he hP k pW b hkb).cls;clear hW he hP hL hp hq jd hlen hk iN hkb cv hall pW hA dy ih nd HV;have l1:((([k]:List Pf).length:Nat):Int)=1:=rfl;go_enter Tryz.func47,Tryz.ntmps47;go_upto_region 1 with fail;rw[HW.o];clear HW;go_upto_region 5 with fail;refine bC ?_;intro W5 jR;have X5:ahg (Ext W W5):=aa (by rw[jR];exact eR _);clear jR c0 c1 c2 c3 e0 e1 e2 e3 e4 q0 q1 q2 q3 n1 n2 n3;have vg:=aa (fun w' (e:Ext W w')=>(B1.o.ext e).cells);have fk:ahg (∀w',Ext W w'→w'.cell? ⟨w.heap.size+1,3,none⟩=some (.slice (some ⟨b0,o0,none⟩) 1 p.cap)∧w'.cell? ⟨b0,o0,none⟩=some (.int .i64 k.kind)∧w'.cell? ⟨b0,o0+1,none⟩=some (.int .i64 k.n)∧w'.cell? ⟨b0,o0+2,none⟩=some (.slice k.T k.types.length k.tc)∧w'.cell? ⟨b0,o0+3,none⟩=some (.slice k.A k.kids.length k.cap) ∧
   w'.cell? ⟨w.heap.size,0,none⟩=some (.slice x.D x.aA.length x.dc)∧w'.cell? ⟨w.heap.size,1,none⟩=some (.slice x.C x.ag.length x.cc)∧w'.cell? ⟨w.heap.size,2,none⟩=some (.slice x.I x.insts.length x.ic)∧w'.cell? ⟨w.heap.size,3,none⟩=some (.slice P preds.length pc)):=aa (fun w' e=>
  ⟨e.cell qV.o.2.2,e.cell Kt.o.1,e.cell Kt.o.2.1,e.cell Kt.o.2.2.1,e.cell Kt.o.2.2.2,(vg.o w' e).1,(vg.o w' e).2.1,(vg.o w' e).2.2.1,(vg.o w' e).2.2.2.1⟩)
 obtain⟨s0,s1,s2,s3,s4,s5,s6,s7,s8⟩:=fk.o W5 X5.o;have n1:=(B1.o.ext X5.o).lt;have n2:=(B2.o.ext X5.o).lt;have n0:b0<W5.heap.size:=by have:=X5.o.size;omega
 have k0:b0≠W5.heap.size:=by omega
 have k1:w.heap.size≠W5.heap.size:=by omega
 have k2:w.heap.size+1≠W5.heap.size:=by omega
 go_cut [5,6] (fun s5 s6 wx=>∃(b5:Nat),s5=.pointer (some ⟨b5,0,none⟩)∧ahg (lu W5 wx b5 b.cls))
 case first=>
  go_region_held3 (fun w'=>w'.cell? ⟨w.heap.size+1,3,none⟩=some (.slice (some ⟨b0,o0,none⟩) 1 p.cap)∧w'.cell? ⟨b0,o0,none⟩=some (.int .i64 k.kind)∧w'.cell? ⟨b0,o0+1,none⟩=some (.int .i64 k.n)∧w'.cell? ⟨b0,o0+2,none⟩=some (.slice k.T k.types.length k.tc)∧w'.cell? ⟨b0,o0+3,none⟩=some (.slice k.A k.kids.length k.cap) ∧
   w'.cell? ⟨w.heap.size,0,none⟩=some (.slice x.D x.aA.length x.dc)∧w'.cell? ⟨w.heap.size,1,none⟩=some (.slice x.C x.ag.length x.cc)∧w'.cell? ⟨w.heap.size,2,none⟩=some (.slice x.I x.insts.length x.ic)∧w'.cell? ⟨w.heap.size,3,none⟩=some (.slice P preds.length pc)) (first|with_reducible assumption|(obtain⟨g0,g1,g2,g3,g4,g5,g6,g7,g8⟩:=kS;with_reducible exact⟨aV k2 _ _ _ _ g0,aV k0 _ _ _ _ g1,aV k0 _ _ _ _ g2,aV k0 _ _ _ _ g3,aV k0 _ _ _ _ g4,aV k1 _ _ _ _ g5,aV k1 _ _ _ _ g6,aV k1 _ _ _ _ g7,aV k1 _ _ _ _ g8⟩)|go_keep) (
   (
   go_at_call 46
   refine Calls.mono (Dz.o _ (X5.o.trans (by repeat(first|exact eR _|exact eA (by assumption) _|refine eA ?_ _|refine eM ?_ _ _|refine eD ?_|refine eN ?_ _)))).o ?_;rintro e y ⟨⟨a,n,rfl,Ku⟩,hx⟩;have EA:ahg (Ext W5 y):=aa (by refine Ext.trans ?_ hx;exact(by repeat(first|exact eR _|exact eA (by assumption) _|refine eA ?_ _|refine eM ?_ _ _|refine eD ?_|refine eN ?_ _)));have kS:=fk.o y (X5.o.trans EA.o)
   try (have hz:=aa ((hx.heap (ae (cn W5 _))).trans (cn W5 _));have z0:=af hz.o 0;have z1:=af hz.o 1;have z2:=af hz.o 2;have z3:=af hz.o 3;have z4:=ai hz.o 0;have z5:=ai hz.o 1;have z6:=ai hz.o 2;have z7:=ai hz.o 3;simp only[ahp,ahq,ahr] at z0 z1 z2 z3)))
  all_goals (have RO:=(Ku.yes b rfl).2.1;go_wp2_with fail;go_meet;first
   |exact⟨y.heap.size,rfl,aa (by rw[←RO];exact lu.behind EA.o)⟩
   |exact⟨W5.heap.size,rfl,aa (by rw[←RO];exact lu.ahead EA.o (ahi _) hz.o)⟩)
 case rest=>
  obtain⟨b5,rfl,HC⟩:=hcut;have X6:=aa (X5.o.trans HC.o.x);have WV:ahg (b.cls.length≤1000000000000000000):=WU;clear s0 s1 s2 s3 s4 s5 s6 s7 s8 n1 n2 n0 k0 k1 k2;obtain⟨s0,s1,s2,s3,s4,s5,s6,s7,s8⟩:=fk.o wc X6.o;obtain⟨m0,m1,m2,m3,m4⟩:=vg.o wc X6.o;have c1:=X6.o.cell qV.o.2.1;have d0:=HC.o.c0;have dl:=HC.o.lt;have n1:=(B1.o.ext X6.o).lt;have n2:=(B2.o.ext X6.o).lt;have n0:b0<wc.heap.size:=by have:=X6.o.size;omega
  have WW:ahg (∀w',Ext wc w'→w'.cell? ⟨w.heap.size+1,1,none⟩=some (.int .i64 p.n)∧w'.cell? ⟨b5,0,none⟩=some (encStr b.cls)∧w'.cell? ⟨w.heap.size,4,none⟩=some (.slice L given.length lc)):=aa (fun w' e=>⟨e.cell c1,e.cell d0,e.cell m4⟩);have B4:ahg (wc.heap[w.heap.size+1+1]?=some (.cells #[.int .i64 0,.int .i64 0,.string ⟨#[]⟩,.slice none 0 0,.slice none 0 0,.slice none 0 0] 40)):=aa ((X6.o.heap (ae B3.o)).trans B3.o);obtain⟨z0,z1,z2,z3,z4,z5,iE,iF,iG,iH,um,uo⟩:=bn B4.o;have n3:=ae B4.o;have Dr:ahg (∀w',Ext wc w'→w'.cell? ⟨w.heap.size+1,3,none⟩=some (.slice (some ⟨b0,o0,none⟩) 1 p.cap)∧w'.cell? ⟨b0,o0,none⟩=some (.int .i64 k.kind)∧w'.cell? ⟨b0,o0+1,none⟩=some (.int .i64 k.n)∧w'.cell? ⟨b0,o0+2,none⟩=some (.slice k.T k.types.length k.tc)∧w'.cell? ⟨b0,o0+3,none⟩=some (.slice k.A k.kids.length k.cap) ∧
   w'.cell? ⟨w.heap.size,0,none⟩=some (.slice x.D x.aA.length x.dc)∧w'.cell? ⟨w.heap.size,1,none⟩=some (.slice x.C x.ag.length x.cc)∧w'.cell? ⟨w.heap.size,2,none⟩=some (.slice x.I x.insts.length x.ic)∧w'.cell? ⟨w.heap.size,3,none⟩=some (.slice P preds.length pc) ∧
   w'.cell? ⟨w.heap.size+1,1,none⟩=some (.int .i64 p.n)∧w'.cell? ⟨b5,0,none⟩=some (encStr b.cls)∧w'.cell? ⟨w.heap.size,4,none⟩=some (.slice L given.length lc)):=aa (fun w' e=>by
   obtain⟨a0,a1,a2,a3,a4,a5,a6,a7,a8⟩:=fk.o w' (X6.o.trans e);exact⟨a0,a1,a2,a3,a4,a5,a6,a7,a8,WW.o w' e⟩)
  have bU:=HC.o.ge;have jB:=X5.o.size;have j0:b0≠w.heap.size+1+1:=by omega
  have j1:w.heap.size≠w.heap.size+1+1:=by omega
  have j2:w.heap.size+1≠w.heap.size+1+1:=by omega
  have hws:W.heap.size=w.heap.size+3:=bS.o;have j5:b5≠w.heap.size+1+1:=by omega
  clear HC;go_wp2
  go_region_held3 (fun w'=>w'.cell? ⟨w.heap.size+1,3,none⟩=some (.slice (some ⟨b0,o0,none⟩) 1 p.cap)∧w'.cell? ⟨b0,o0,none⟩=some (.int .i64 k.kind)∧w'.cell? ⟨b0,o0+1,none⟩=some (.int .i64 k.n)∧w'.cell? ⟨b0,o0+2,none⟩=some (.slice k.T k.types.length k.tc)∧w'.cell? ⟨b0,o0+3,none⟩=some (.slice k.A k.kids.length k.cap) ∧
   w'.cell? ⟨w.heap.size,0,none⟩=some (.slice x.D x.aA.length x.dc)∧w'.cell? ⟨w.heap.size,1,none⟩=some (.slice x.C x.ag.length x.cc)∧w'.cell? ⟨w.heap.size,2,none⟩=some (.slice x.I x.insts.length x.ic)∧w'.cell? ⟨w.heap.size,3,none⟩=some (.slice P preds.length pc) ∧
   w'.cell? ⟨w.heap.size+1,1,none⟩=some (.int .i64 p.n)∧w'.cell? ⟨b5,0,none⟩=some (encStr b.cls)∧w'.cell? ⟨w.heap.size,4,none⟩=some (.slice L given.length lc)) (first|with_reducible assumption|(obtain⟨g0,g1,g2,g3,g4,g5,g6,g7,g8,g9,g10,g11⟩:=kS;with_reducible exact⟨cy j2 _ _ _ _ _ _ _ g0,cy j0 _ _ _ _ _ _ _ g1,cy j0 _ _ _ _ _ _ _ g2,cy j0 _ _ _ _ _ _ _ g3,cy j0 _ _ _ _ _ _ _ g4,cy j1 _ _ _ _ _ _ _ g5,cy j1 _ _ _ _ _ _ _ g6,cy j1 _ _ _ _ _ _ _ g7,cy j1 _ _ _ _ _ _ _ g8,cy j2 _ _ _ _ _ _ _ g9,cy j5 _ _ _ _ _ _ _ g10,cy j1 _ _ _ _ _ _ _ g11⟩)|go_keep) (
   (
   go_at_call 47
   refine Calls.mono (HT.o _ (X6.o.trans (by repeat(first|exact eR _|exact eA (by assumption) _|refine eA ?_ _|refine eM ?_ _ _|refine eD ?_|refine eN ?_ _)))).o ?_;rintro e y ⟨⟨t,rfl,ht⟩,hx⟩;have EA:ahg (Ext wc y):=aa (by refine Ext.trans ?_ hx;exact(by repeat(first|exact eR _|exact eA (by assumption) _|refine eA ?_ _|refine eM ?_ _ _|refine eD ?_|refine eN ?_ _)));have kS:=Dr.o y EA.o;have B5:=aa ((EA.o.heap (ae B4.o)).trans B4.o);obtain⟨a0,a1,a2,a3,a4,a5,Ux,af1,af2,af3,af4,af5⟩:=bn B5.o;have UZ:=ae B5.o))
  have ht:rr wc y given k Q t:=⟨ht.iM,ht.is,ht.away⟩;have Fq:=aa (ry.o (w.heap.size+1+1) (by omega));have ou:=aa (ht.away (w.heap.size+1+1) (by omega) Fq.o.1 Fq.o.2);obtain⟨U,hU⟩:∃U,U=Ks b.cls p.n y.heap.size t:=⟨_,rfl⟩;have HX:ahg (((((((y.setCell ⟨w.heap.size+1+1,0,none⟩ (.int .i64 13)).setCell ⟨w.heap.size+1+1,1,none⟩ (.int .i64 p.n)).setCell ⟨w.heap.size+1+1,2,none⟩ (.string ⟨b.cls.toArray⟩)).setCell ⟨w.heap.size+1+1,3,none⟩ (.slice none 0 0)).setCell ⟨w.heap.size+1+1,4,none⟩ (.slice none 0 0)).setCell ⟨w.heap.size+1+1,5,none⟩ (.slice (some ⟨y.heap.size,0,none⟩) 1 1)).alloc (.cells #[.int .i64 t.kind,.int .i64 t.n,encStr t.name,.slice t.V t.vars.length t.vc,.slice t.T t.types.length t.tc,.slice t.A t.kids.length t.cap] 40)=(cw y (w.heap.size+1+1) U).alloc (.cells #[.int .i64 t.kind,.int .i64 t.n,encStr t.name,.slice t.V t.vars.length t.vc,.slice t.T t.types.length t.tc,.slice t.A t.kids.length t.cap] 40)):=aa (by rw[hU];rfl);have Qe:=fy y (w.heap.size+1+1) U;have XF:=aa (((bg (X0.o.trans (X6.o.trans EA.o)) (by omega:w.heap.size≤w.heap.size+1+1) U).alloc (.cells #[.int .i64 t.kind,.int .i64 t.n,encStr t.name,.slice t.V t.vars.length t.vc,.slice t.T t.types.length t.tc,.slice t.A t.kids.length t.cap] 40)));have HI:ahg (aM ((cw y (w.heap.size+1+1) U).alloc (.cells #[.int .i64 t.kind,.int .i64 t.n,encStr t.name,.slice t.V t.vars.length t.vc,.slice t.T t.types.length t.tc,.slice t.A t.kids.length t.cap] 40)) U):=aa (by
   rw[hU];refine zX (by have:=WV.o;omega) ((ht.iM.grown (aZ _ _ _) (fun c e=>by injection e with e;subst e;exact ou.o)).ext ((eR _).alloc _)) ?_;have:=av.new (cw y (w.heap.size+1+1) U) t;rw[Qe] at this;rw[←hU];exact this)
  have HU:ahg (U.pure=.mk 13 p.n b.cls [] [] [Q]∧∀c,c<w.heap.size→(∀g∈given,ay c g)→aL c p→ay c U):=aa ⟨by rw[hU,Tm.aG];show Tm.Pure.mk 13 p.n b.cls [] [] [t.pure]=_;rw[ht.is],fun c hc h1 h2=>by
   rw[hU];exact sM (by have:=EA.o.size;have:=X6.o.size;omega) (ht.away c (by have:=X6.o.size;have:=EA.o.size;omega) h1 (oM.o c h2))⟩
  have WX:ahg (bl U=.agg #[.int .i64 13,.int .i64 p.n,.string ⟨b.cls.toArray⟩,.slice none 0 0,.slice none 0 0,.slice (some ⟨y.heap.size,0,none⟩) 1 1]):=aa (by rw[hU];rfl);rw[←HX.o] at XF HI;clear hU Qe HX ht;go_wp2;refine bodyPost_ret (v:=bl U) ?_ rfl ⟨⟨U,rfl,?_,HU.o.1,HU.o.2⟩,?_⟩
  ·rw[WX.o];simp[results,Tryz.f47,go_sem,a0,a1,a2,a3,a4,a5,UZ]
  ·exact HI.o.ext (by repeat(first|exact eR _|exact eA (by assumption) _|refine eA ?_ _|refine eM ?_ _ _|refine eD ?_|refine eN ?_ _))
  ·exact XF.o.trans (by repeat(first|exact eR _|exact eA (by assumption) _|refine eA ?_ _|refine eM ?_ _ _|refine eD ?_|refine eN ?_ _))
set_option maxRecDepth 512
set_option maxHeartbeats 200000
theorem Row.RQ {w:World}{b:Nat}{t:TypeId}{fr:Nat×Nat}(x0 x1 x2:Value) (h:w.heap[b]?=some (.cells #[x0,x1,x2] t fr)):Row w (some ⟨b,0,none⟩) 3 1 [x0,x1,x2]:=by
 refine⟨rfl,fun _=>⟨b,0,rfl,ae h,fun j u hu => ?_⟩⟩;rw[Nat.zero_add];simp only[World.cell?,h];simpa using hu
theorem iO (us:List Ty) (u:Ty):(us++[u]).flatMap cA.f=us.flatMap cA.f++[encStr u.aq,.int .i64 u.var,.slice u.A u.args.length u.cap]:=by
 rw[List.flatMap_append,List.flatMap_cons,List.flatMap_nil,List.append_nil];rfl
theorem ke : (Tryz.prog.info? 53).map (fun i=>(i.zero,i.size,i.bytes))=some (some (.agg #[.string ⟨#[]⟩,.int .i64 0,.slice none 0 0]),3,48):=by kernel_rfl
set_option maxRecDepth 10000
set_option maxHeartbeats 8000000
theorem uq (S:Option Addr) (sc:Nat) (s:List Pr) (x:Int) (w:World) (h:eZ w S s) (hn:s.length≤9223372036854775807) :
  Calls Tryz.prog 213 #[.slice S s.length sc,.int .i64 x] w fun e w'=>e=.returned (.tuple #[bh ((putAt (br s) (bz s) x).getD Ty.zero),.bool (putAt (br s) (bz s) x).isSome])∧Ext w w':=by
 obtain⟨W,hW⟩:∃W,W=w.alloc (.cells #[.string ⟨#[]⟩,.int .i64 0,.slice none 0 0] 53):=⟨_,rfl⟩;have HW:=aa hW.symm;have X0:ahg (Ext w W):=aa (by rw[hW];exact(eR _).alloc _);have B2:ahg (W.heap[w.heap.size]?=some (.cells #[.string ⟨#[]⟩,.int .i64 0,.slice none 0 0] 53 (0,0))):=aa (by rw[hW];exact ah _ _ _ (by simp));have H:=aa h;have xM:=aa (fun k => @kz _ _ (br s) x 0 k);have qR:=aa (kA (br s) x 0);have HA:ahg (putAt (br s) (bz s) x=if 0≤gV (br s) x then(bz s)[(gV (br s) x).toNat]? else none):=aa rfl;generalize putAt (br s) (bz s) x=R at *;clear hW h;unfold bh;go_enter Tryz.func213,Tryz.ntmps213;go_upto_region 1 with fail;rw[HW.o];clear HW;go_wp2
 go_loopw [6] (fun i wr=>∃j:Nat,j≤s.length∧i=.int .i64 j∧ahg (∀i,i<j→((br s).getD i 0 == x)=false)∧ahg (Ext W wr)) (fun i _=>s.length - (intOf i).toNat)
 case atStart=>exact⟨0,ahj _,rfl,aa (fun i hi=>absurd hi (by omega)),aa (eR _)⟩
 case round=>
  obtain⟨j,hj,rfl,Hj,HX⟩:=hrel;have C2:=aa ((HX.o.heap (ae B2.o)).trans B2.o);have f0:=ai C2.o 0;have f1:=ai C2.o 1;have f2:=ai C2.o 2;have k0:=af C2.o 0;have k1:=af C2.o 1;have k2:=af C2.o 2;have P7:=ae C2.o;simp only[ahp,ahq,ahr] at k0 k1 k2
  by_cases hlt:j<s.length
  ·have aS:(j:Int)<(s.length:Int):=by omega
   have q8:(0:Int)≤(j:Int):=by omega
   obtain⟨b,o,rfl,hb,q0,q1,q2,q3⟩:=nz (H.o.ext (X0.o.trans HX.o)).row hlt;have Hg:ahg ((br s).getD j 0=(s[j]'hlt).v):=aa (my s hlt);have Qf:ahg ((bz s)[j]?=some (s[j]'hlt).ty):=aa (by rw[List.getElem?_map,ahw hlt];rfl);generalize s[j]'hlt=y at *;cases hs:(y.v == x)
   ·go_wp2;go_roundw
    case rel=>
     refine⟨j+1,hlt,by go_num,aa (fun i hi => ?_),HX⟩
     by_cases AK:i=j
     ·rw[AK,Hg.o];exact hs
     ·exact Hj.o i (by omega)
    case measure=>simp[intOf];omega
   ·have hJ:=xM.o j (by simpa using hlt) Hj.o (by rw[Hg.o];exact hs);have hR:R=some y.ty:=by rw[HA.o,hJ,if_pos (by omega)];simpa using Qf.o
    clear xM qR HA hJ;subst hR;have WY:ahg (Ext w (((wr.setCell ⟨w.heap.size,0,none⟩ (encStr y.ty.aq)).setCell ⟨w.heap.size,1,none⟩ (.int .i64 y.ty.var)).setCell ⟨w.heap.size,2,none⟩ (.slice y.ty.A y.ty.args.length y.ty.cap))):=aa ((((X0.o.trans HX.o).setCell (by simp) _).setCell (by simp) _).setCell (by simp) _);go_wp2;refine bodyPost_ret (v:=.tuple #[.agg #[encStr y.ty.aq,.int .i64 y.ty.var,.slice y.ty.A y.ty.args.length y.ty.cap],.bool true]) ?_ rfl ⟨rfl,WY.o⟩;simp[results,Tryz.f213,go_sem,k0,k1,k2]
  ·have bU:¬(j:Int)<(s.length:Int):=by omega
   have hJ:=qR.o (fun i hi=>Hj.o i (by have hi':i<s.length:=(by simpa using hi);omega));have hR:R=none:=by rw[HA.o,hJ];rfl
   clear xM qR HA hJ;subst hR;have WY:ahg (Ext w (((wr.setCell ⟨w.heap.size,0,none⟩ (.string ⟨#[]⟩)).setCell ⟨w.heap.size,1,none⟩ (.int .i64 0)).setCell ⟨w.heap.size,2,none⟩ (.slice none 0 0))):=aa ((((X0.o.trans HX.o).setCell (by simp) _).setCell (by simp) _).setCell (by simp) _);go_wp2;refine bodyPost_ret (v:=.tuple #[.agg #[.string ⟨#[]⟩,.int .i64 0,.slice none 0 0],.bool false]) ?_ rfl ⟨rfl,WY.o⟩;simp[results,Tryz.f213,go_sem,k0,k1,k2]
set_option maxRecDepth 512
set_option maxHeartbeats 200000
theorem Fs {w:World}{S:Option Addr}{s:List Pr}(h:eZ w S s){x:Int}{u:Ty}(e:putAt (br s) (bz s) x=some u):aC w u:=by
 obtain⟨p,hp,rfl⟩:=List.mem_map.1 (iz e);exact h.ty p hp
theorem eZ.iD {w:World}{S:Option Addr}{s:List Pr}(h:eZ w S s):∀k∈bz s,aC w k:=fun k hk=>by
 obtain⟨p,hp,rfl⟩:=List.mem_map.1 hk;exact h.ty p hp
set_option maxRecDepth 10000
set_option maxHeartbeats 8000000
theorem Fu (S:Option Addr) (sc:Nat) (s:List Pr) (hn:s.length≤9223372036854775807) (hsz:∀p∈s,p.ty.size≤1000000) (t:Ty):∀(w:World),aC w t→eZ w S s→gR (br s) (bz s) t≤1000000000000000 →
  Calls Tryz.prog 234 #[.slice S s.length sc,bh t] w fun e w'=>e=.returned (.int .i64 (gR (br s) (bz s) t:Int))∧Ext w w':=by
 induction t using Ty.ind with
 |h t ih=>
 intro w h hS hb;obtain⟨W,hW⟩:∃W,W=w.alloc (.cells #[encStr t.aq,.int .i64 t.var,.slice t.A t.args.length t.cap] 53):=⟨_,rfl⟩;have HW:=aa hW.symm;have X0:ahg (Ext w W):=aa (by rw[hW];exact(eR _).alloc _);have B1:ahg (aP W w.heap.size t):=aa (by rw[hW];exact aP.new w t);have H:=aa h;have Qg:=aa hS;have IH:=aa ih;have hle:=h.le;have hmx:=h.max;have HE:=aa (jn (br s) (bz s) t);have c0:=B1.o.c0;have c1:=B1.o.c1;have c2:=B1.o.c2;have hbl:=B1.o.lt;generalize hZ:gR (br s) (bz s) t=Z at *;clear h hS hW ih hZ;unfold bh at *;cases hc:(t.aq == ([]:aj))
 ·have hc0:t.aq≠[]:=by simpa using hc
  have xH:ahg (Z=(t.args.map (gR (br s) (bz s))).sum+1):=aa (by rw[HE.o,if_neg hc0]);clear HE hc0;go_enter Tryz.func234,Tryz.ntmps234;go_upto_region 1 with fail;rw[HW.o];clear HW;go_wp2
  go_loopw [7,8] (fun v i wr=>∃k:Nat,k≤t.args.length∧i=.int .i64 k∧v=.int .i64 ((((t.args.take k).map (gR (br s) (bz s))).sum+1:Nat):Int)∧ahg (Ext W wr)) (fun _ i _=>t.args.length - (intOf i).toNat)
  case atStart=>exact⟨0,ahj _,rfl,by simp,aa (eR _)⟩
  case round=>
   obtain⟨k,hk,rfl,rfl,HX⟩:=hrel;have XR:=aa (X0.o.trans HX.o);have C1:=aa (B1.o.ext HX.o);have g2:=C1.o.c2;have hbr:=C1.o.lt
   by_cases hlt:k<t.args.length
   ·have aS:(k:Int)<(t.args.length:Int):=by omega
    have dy:(0:Int)≤(k:Int):=by omega
    obtain⟨b,o,hA,Mr,q0,q1,q2⟩:=(H.o.all.ext XR.o).at_ hlt;have cv:=ahh hlt;have gw:ahg (((t.args.take (k+1)).map (gR (br s) (bz s))).sum=((t.args.take k).map (gR (br s) (bz s))).sum+gR (br s) (bz s) (t.args[k]'hlt)):=aa (by rw[ahl hlt,ahz,List.sum_append];simp);have WZ:((t.args.take (k+1)).map (gR (br s) (bz s))).sum≤(t.args.map (gR (br s) (bz s))).sum:=by
     conv=>rhs;rw[←List.take_append_drop (k+1) t.args,ahz,List.sum_append]
     omega
    have hb2:gR (br s) (bz s) (t.args[k]'hlt)≤1000000000000000:=by have:=gw.o;have:=xH.o;omega
    have hb3:((t.args.take k).map (gR (br s) (bz s))).sum≤1000000000000000:=by have:=gw.o;have:=xH.o;omega
    have ET:=aa (IH.o _ cv wr ((H.o.all.args _ cv).ext XR.o) (Qg.o.ext XR.o) hb2);generalize gR (br s) (bz s) (t.args[k]'hlt)=z at *;generalize t.args[k]'hlt=x at *;generalize hq:((t.args.take (k+1)).map (gR (br s) (bz s))).sum=a' at *;have Hq:=aa hq;clear hq;generalize ((t.args.take k).map (gR (br s) (bz s))).sum=a at *;rw[hA] at g2;clear hA cv WZ;go_wp2_with fail;refine ET.o.mono ?_;rintro e w3 ⟨rfl,hx3⟩;have X3:=aa (HX.o.trans hx3);clear hx3;go_wp2;go_roundw
    case rel=>exact⟨k+1,hlt,by go_num,by rw[Hq.o,gw.o];first|(congr 1;omega)|(congr 1;push_cast;omega),X3⟩
    case measure=>simp[intOf];omega
   ·have bU:¬(k:Int)<(t.args.length:Int):=by omega
    have e9:t.args.take k=t.args:=ahm (by omega);rw[e9];clear e9;have HZ:ahg ((((t.args.map (gR (br s) (bz s))).sum+1:Nat):Int)=(Z:Int)):=aa (by rw[xH.o]);rw[HZ.o];go_wp2;go_ret;exact⟨rfl,XR.o⟩
 ·have hc0:t.aq=[]:=by simpa using hc
  have xH:ahg (Z=match putAt (br s) (bz s) t.var with|some u=>u.size|none=>1):=aa (by rw[HE.o,if_pos hc0];cases putAt (br s) (bz s) t.var<;>rfl);have HG:=aa (fun w' (e:Ext w w')=>uq S sc s t.var w' (Qg.o.ext e) hn);have oJ:=aa (fun u (e:putAt (br s) (bz s) t.var=some u)=>ahk (Fs Qg.o e) (show u.size≤1000000 by
   obtain⟨p,hp,rfl⟩:=List.mem_map.1 (iz e);exact hsz p hp))
  clear HE hc0 IH;generalize putAt (br s) (bz s) t.var=R at *;have vh:=aa (HG.o W X0.o);unfold bh at vh;clear HG;go_enter Tryz.func234,Tryz.ntmps234;go_upto_region 1 with fail;rw[HW.o];clear HW;go_wp2_with fail;refine vh.o.mono ?_;rintro e w2 ⟨rfl,hx⟩;have X2:=aa (X0.o.trans hx);clear hx vh;cases R with
  |none=>
   have hz:Z=1:=xH.o;subst hz;go_wp2;go_ret;exact⟨rfl,X2.o.alloc _⟩
  |some u=>
   have hz:Z=u.size:=xH.o;obtain⟨hu,hus⟩:=oJ.o u rfl;simp only[Option.getD_some,Option.isSome_some];have jV:=aa (py u (w2.alloc (.cells #[encStr u.aq,.int .i64 u.var,.slice u.A u.args.length u.cap] 53)) (hu.ext (X2.o.alloc _)) hus);have HZ:=aa hz;rw[←hz] at jV;clear hu hus hz xH oJ;unfold bh at jV;go_wp2_with fail;refine jV.o.mono ?_;rintro e w3 ⟨rfl,hx⟩;go_wp2;go_ret;exact⟨rfl,(X2.o.alloc _).trans hx⟩
theorem Kv (S:Option Addr) (sc:Nat) (s:List Pr) (hn:s.length≤9223372036854775807) (t:Ty):∀(w:World),aC w t→eZ w S s→t.size≤100000 →
  Calls Tryz.prog 235 #[.slice S s.length sc,bh t] w fun e w'=>(∃u,e=.returned (bh u)∧iA w w' (br s) (bz s) t u)∧Ext w w':=by
 induction t using Ty.ind with
 |h t ih=>
 intro w h hS hsz;obtain⟨i1,hj,mM,gS,iv⟩:=info_parts ke;obtain⟨W,hW⟩:∃W,W=(w.alloc (.cells #[encStr t.aq,.int .i64 t.var,.slice t.A t.args.length t.cap] 53)).alloc (.cells #[.string ⟨#[]⟩,.int .i64 0,.slice none 0 0] 53):=⟨_,rfl⟩;have HW:=aa hW.symm;have X0:ahg (Ext w W):=aa (by rw[hW];exact((eR _).alloc _).alloc _);have B1:ahg (aP W w.heap.size t):=aa (by rw[hW];exact(aP.new w t).ext ((eR _).alloc _));have B2:ahg (W.heap[w.heap.size+1]?=some (.cells #[.string ⟨#[]⟩,.int .i64 0,.slice none 0 0] 53 (0,0))):=aa (by rw[hW];exact ah _ _ _ (by simp));have rk:W.heap.size=w.heap.size+2:=by rw[hW];simp
 have H:=aa h;have Qg:=aa hS;have Ht:=aa (hS.iD);have IH:=aa ih;have hle:=h.le;have hmx:=h.max;have hlen:=t.gq;clear h hS hW ih;unfold bh at *;cases hc:(t.aq == ([]:aj))
 ·have hc0:ahg (t.aq≠[]):=aa (by simpa using hc);have c0:=B1.o.c0;have c1:=B1.o.c1;have c2:=B1.o.c2;go_enter Tryz.func235,Tryz.ntmps235;go_upto_region 1 with fail;rw[HW.o];go_wp2
  go_loopw [7,8] (fun u i wr=>∃(k:Nat) (us:List Ty),k≤t.args.length∧i=.int .i64 k∧ahg (Ext W wr)∧ahg (wr.ownsRow (w.heap.size+2) 53 3 u us.length (us.flatMap cA.f))∧ahg (cF w wr (fun c=>(w.heap.size≤c∧c<w.heap.size+2)∨u.ownBlock=some c) (br s) (bz s) (t.args.take k) us)) (fun _ i _=>t.args.length - (intOf i).toNat)
  case atStart=>exact⟨0,[],ahj _,rfl,aa (eR _),aa (World.ownsRow_nil _ _ _ _),aa (cF.nil _ _ _ _ _)⟩
  case round=>
   obtain⟨k,us,hk,rfl,HX,HO,HP⟩:=hrel;have J7:us.length≤t.args.length:=by have:=HP.o.len;rw[List.length_take] at this;omega
   have C1:=aa (B1.o.ext HX.o);have g1:=C1.o.c0;have g2:=C1.o.c1;have g3:=C1.o.c2;have XR:=aa (X0.o.trans HX.o);have ac7:=HX.o.size
   by_cases hlt:k<t.args.length
   ·have aS:(k:Int)<(t.args.length:Int):=by omega
    have dy:(0:Int)≤(k:Int):=by omega
    obtain⟨b,o,hA,hb,q0,q1,q2⟩:=(H.o.all.ext XR.o).at_ hlt;have cv:=ahh hlt;have ET:=aa (IH.o _ cv wr ((H.o.all.args _ cv).ext XR.o) (Qg.o.ext XR.o) (by have:=Ty.bG cv;omega));have Hx:=aa (H.o.all.args _ cv);have cS:ahg (t.args.take (k+1)=t.args.take k++[t.args[k]'hlt]):=aa (ahl hlt);generalize t.args[k]'hlt=x at *;rw[hA] at g3;clear hA cv;obtain⟨A5,c5,rfl,p1,p2,p3,p4⟩:=ak.own cA (l:=us) HO.o;have HPr:ahg (∀c,((w.heap.size≤c∧c<w.heap.size+2)∨(Value.slice A5 us.length c5).ownBlock=some c)→w.heap.size≤c∧c<wr.heap.size):=aa (fun c hc=>by
     rcases hc with hc|hc
     ·omega
     ·have:=HO.o.lt c hc;omega)
    clear p3 p4;go_wp2_with fail;refine ET.o.mono ?_;rintro e w3 ⟨⟨u,rfl,hu⟩,hx3⟩;have Mv:ahg (cF w w3 (fun c=>(w.heap.size≤c∧c<w.heap.size+2)∨(Value.slice A5 us.length c5).ownBlock=some c) (br s) (bz s) (t.args.take (k+1)) (us++[u])):=aa (by
     rw[cS.o];exact HP.o.snoc hu hx3 Hx.o Ht.o (by omega) HPr.o)
    have X3:=aa (HX.o.trans hx3);have O3:=aa (bk HO.o hx3);have hs3:=X3.o.size;clear hu hx3;go_wp2_with (at_builtin;refine aH _ rfl _ _ 31 rfl (w.heap.size+2) 53 i1 _ 3 48 Tryz.underlying31 hj mM gS iv rfl (by decide) (.slice A5 us.length c5) us.length (us.flatMap cA.f) rfl (O3.o.alloc _) _ 1 1 [encStr u.aq,.int .i64 u.var,.slice u.A u.args.length u.cap] rfl ?c2 ?c3 ?c4 ?c5 ?c6 ?_)
    case c2=>exact Row.RQ _ _ _ (ah _ _ _ (by simp))
    case c3=>first|exact⟨rfl,rfl,rfl⟩|(intro y hy;simp at hy;rcases hy with rfl|rfl|rfl<;>rfl)
    case c4=>unfold maxLen;omega
    case c5=>omega
    case c6=>simp;omega
    intro v4 w4 bB hg4 fc;have X4:=aa (Ext.app (X3.o.alloc _) hg4 (O3.o.alloc _) (by omega));have O4:ahg (w4.ownsRow (w.heap.size+2) 53 3 v4 (us++[u]).length ((us++[u]).flatMap cA.f)):=aa (by rw[iO,ahn];exact bB);have HP4:ahg (cF w w4 (fun c=>(w.heap.size≤c∧c<w.heap.size+2)∨v4.ownBlock=some c) (br s) (bz s) (t.args.take (k+1)) (us++[u])):=aa (by
     have h1:=(Mv.o.ext ((eR w3).alloc (.cells #[encStr u.aq,.int .i64 u.var,.slice u.A u.args.length u.cap] 53)));refine(h1.rows (R':=fun c=>((w.heap.size≤c∧c<w.heap.size+2)∨(Value.slice A5 us.length c5).ownBlock=some c)∨v4.ownBlock=some c) (fun c hc => ?_)).grown hg4 (fun c e=>.inl (.inr e))|>.rows (fun c hc=>.inl ?_)
     ·rcases hc with hc|hc
      ·exact .inl hc
      ·rcases fc with e|e
       ·exact .inl (.inr (e▸hc))
       ·rw[e] at hc;injection hc with hc;exact .inr (by rw[World.size_alloc];omega)
     ·exact hc.elim (fun h=>.inl (.inl h)) .inr)
    clear bB hg4 fc Mv;go_wp2;go_roundw
    case rel=>exact⟨k+1,us++[u],hlt,by go_num,X4,O4,HP4⟩
    case measure=>simp[intOf];omega
   ·have bU:¬(k:Int)<(t.args.length:Int):=by omega
    have EU:ahg (cF w wr (fun c=>w.heap.size≤c∧c<w.heap.size+2) (br s) (bz s) t.args us):=aa (by have:=HP.o;rw[ahm (by omega)] at this;exact this.rows (fun c hc=>.inl (.inl hc)));obtain⟨A5,c5,rfl,p1,p2,p3,p4⟩:=ak.own cA (l:=us) HO.o;have P3:=aa p3;have P4:ahg (∀a,A5=some a→w.heap.size+2≤a.block):=aa (fun a e=>by
     subst e
     by_cases hn:us.length=0
     ·have h2:=HO.o.lt a.block
      rcases HO.o.2 with ⟨h3,-⟩|⟨g,cap,cur,h3,h4,-⟩
      ·cases h3
      ·injection h3 with h3;injection h3 with h3;subst h3;show w.heap.size+2≤g;omega
     ·obtain⟨g,o,e,-⟩:=p3.2 (by omega);injection e with e;subst e;have:=(p4 g o rfl).1;show w.heap.size+2≤g;omega)
    have C2:=aa ((HX.o.heap (ae B2.o)).trans B2.o);clear HO HP p3 p4;have fb:=C1.o.free 2;have f0:=ai C2.o 0;have f1:=ai C2.o 1;have f2:=ai C2.o 2;have k0:=af C2.o 0;have k1:=af C2.o 1;have k2:=af C2.o 2;simp only[ahp,ahq,ahr] at k0 k1 k2;obtain⟨U,hU⟩:∃U:Ty,U=.mk t.aq t.var A5 c5 us:=⟨_,rfl⟩;obtain⟨WF,ig⟩:∃WF,WF=(((wr.setCell ⟨w.heap.size,2,none⟩ (.slice A5 us.length c5)).setCell ⟨w.heap.size+1,0,none⟩ (encStr t.aq)).setCell ⟨w.heap.size+1,1,none⟩ (.int .i64 t.var)).setCell ⟨w.heap.size+1,2,none⟩ (.slice A5 us.length c5):=⟨_,rfl⟩;have XF:ahg (Ext w WF):=aa (by rw[ig];exact(((( X0.o.trans HX.o).setCell (by simp) _).setCell (by simp) _).setCell (by simp) _).setCell (by simp) _);have PF:ahg (iA w WF (br s) (bz s) t U):=aa (by
     have W6:=bR (wr.setCell ⟨w.heap.size,2,none⟩ (.slice A5 us.length c5)) (w.heap.size+1) 0 1 2 (encStr t.aq) (.int .i64 t.var) (.slice A5 us.length c5);rw[←ig] at W6;have h1:=(EU.o.grown (aK wr w.heap.size 2 (.slice A5 us.length c5)) (fun c e=>by injection e with e;omega)).grown W6 (fun c e=>by injection e with e;omega);have h2:ak cA WF A5 us:=dI (dI P3.o (aK wr w.heap.size 2 (.slice A5 us.length c5)) (fun _ a e e2=>by have:=P4.o a e;injection e2 with e2;omega)) W6 (fun _ a e e2=>by have:=P4.o a e;injection e2 with e2;omega);rw[hU];exact h1.done hc0.o H.o.txt p1 p2 h2 (fun _ a e=>by have:=P4.o a e;omega))
    have Re:bh U=.agg #[encStr t.aq,.int .i64 t.var,.slice A5 us.length c5]:=by rw[hU];rfl
    clear EU hU P3 P4;go_wp2;rw[←ig];refine bodyPost_ret (v:=.agg #[encStr t.aq,.int .i64 t.var,.slice A5 us.length c5]) ?_ rfl ⟨⟨U,by rw[←Re];rfl,PF.o⟩,XF.o⟩;rw[ig];simp[results,Tryz.f235,go_sem,k0,k1,k2]
 ·have hc0:ahg (t.aq=[]):=aa (by simpa using hc);have HP:=aa (iA.var (vars:=br s) (types:=bz s) hc0.o H.o Ht.o);have HG:=aa (uq S sc s t.var W (Qg.o.ext X0.o) hn);have XF:∀u:Ty,∀wr,Ext W wr→ahg (Ext w (((wr.setCell ⟨w.heap.size+1,0,none⟩ (encStr u.aq)).setCell ⟨w.heap.size+1,1,none⟩ (.int .i64 u.var)).setCell ⟨w.heap.size+1,2,none⟩ (.slice u.A u.args.length u.cap))):=fun u wr e=>aa ((((X0.o.trans e).setCell (by simp) _).setCell (by simp) _).setCell (by simp) _)
  generalize putAt (br s) (bz s) t.var=R at *;unfold bh at HG;have c0:=B1.o.c0;have c1:=B1.o.c1;have c2:=B1.o.c2;go_enter Tryz.func235,Tryz.ntmps235;go_upto_region 1 with fail;rw[HW.o];go_wp2_with fail;refine HG.o.mono ?_;rintro e w2 ⟨rfl,hx⟩;have X2:=aa hx;have C1:=aa (B1.o.ext hx);have C2:=aa ((hx.heap (ae B2.o)).trans B2.o);clear hx c0 c1 c2 HG;cases R with
  |none=>
   simp only[Option.getD_none,Option.isSome_none];obtain⟨W3,hW3⟩:∃W3,W3=w2.alloc (.cells #[encStr Ty.zero.aq,.int .i64 Ty.zero.var,.slice Ty.zero.A Ty.zero.args.length Ty.zero.cap] 53):=⟨_,rfl⟩;have X3:ahg (Ext w2 W3):=aa (by rw[hW3];exact(eR _).alloc _);have U0:=aa (C1.o.ext X3.o);have yy:=aa ((X3.o.heap (ae C2.o)).trans C2.o);have g0:=U0.o.c0;have g1:=U0.o.c1;have g2:=U0.o.c2;have hbl:=U0.o.lt;have f0:=ai yy.o 0;have f1:=ai yy.o 1;have f2:=ai yy.o 2;have k0:=af yy.o 0;have k1:=af yy.o 1;have k2:=af yy.o 2;have P7:=ae yy.o;simp only[ahp,ahq,ahr] at k0 k1 k2;have RR:=XF t W3 (X2.o.trans X3.o);go_upto_region 3 with fail;rw[←hW3];clear hW3;go_wp2;refine bodyPost_ret (v:=.agg #[encStr t.aq,.int .i64 t.var,.slice t.A t.args.length t.cap]) ?_ rfl ⟨⟨t,rfl,HP.o.ext RR.o⟩,RR.o⟩;simp[results,Tryz.f235,go_sem,k0,k1,k2]
  |some u=>
   simp only[Option.getD_some,Option.isSome_some];obtain⟨W3,hW3⟩:∃W3,W3=w2.alloc (.cells #[encStr u.aq,.int .i64 u.var,.slice u.A u.args.length u.cap] 53):=⟨_,rfl⟩;have X3:ahg (Ext w2 W3):=aa (by rw[hW3];exact(eR _).alloc _);have D3:ahg (aP W3 w2.heap.size u):=aa (by rw[hW3];exact aP.new w2 u);have yy:=aa ((X3.o.heap (ae C2.o)).trans C2.o);have g0:=D3.o.c0;have g1:=D3.o.c1;have g2:=D3.o.c2;have hbl:=D3.o.lt;have f0:=ai yy.o 0;have f1:=ai yy.o 1;have f2:=ai yy.o 2;have k0:=af yy.o 0;have k1:=af yy.o 1;have k2:=af yy.o 2;have P7:=ae yy.o;simp only[ahp,ahq,ahr] at k0 k1 k2;have RR:=XF u W3 (X2.o.trans X3.o);go_upto_region 3 with fail;rw[←hW3];clear hW3;go_wp2;refine bodyPost_ret (v:=.agg #[encStr u.aq,.int .i64 u.var,.slice u.A u.args.length u.cap]) ?_ rfl ⟨⟨u,rfl,HP.o.ext RR.o⟩,RR.o⟩;simp[results,Tryz.f235,go_sem,k0,k1,k2]
theorem Kw (S:Option Addr) (sc:Nat) (s:List Pr) (x:Int) (t:Ty) (w:World) (h:eZ w S s) (hle:s.length≤sc) (hmx:sc≤9223372036854775807) (hr:fG s) (ht:aC w t) (hsz:t.size≤900000) (hl:az t=true) (hf:s.length≤100000) (hno:putAt (br s) (bz s) x=none) :
  Calls Tryz.prog 181 #[.slice S s.length sc,.int .i64 x,bh t] w fun e w'=>(∃i A cap,e=.returned (.tuple #[.slice A (cC s i x t).length cap,.int .i64 0])∧uY s x i∧eZ w' A (cC s i x t)∧(cC s i x t).length≤cap∧cap≤9223372036854775807)∧Ext w w':=by
 obtain⟨i0,hi,hz0,hz1,hz2⟩:=info_parts nx;obtain⟨W,hW⟩:∃W,W=w.alloc (.cells #[encStr t.aq,.int .i64 t.var,.slice t.A t.args.length t.cap] 53):=⟨_,rfl⟩;have HW:=aa hW.symm;have X0:ahg (Ext w W):=aa (by rw[hW];exact(eR _).alloc _);have B1:ahg (aP W w.heap.size t):=aa (by rw[hW];exact aP.new w t);have H:=aa h;have HT:=aa ht;have U1:=aa hr;have ada:=ht.le;have adb:=ht.max;have oI:=aa (gi t W (ht.ext X0.o) hsz);rw[hl] at oI;have Xa:=aa (fun w' (e:Ext w w')=>uq S sc s x w' (h.ext e) (by omega));rw[hno] at Xa;have ma:=aa ((mz hr).1 hno);have c0:=B1.o.c0;have c1:=B1.o.c1;have c2:=B1.o.c2;have hbl:=B1.o.lt;clear hW h ht hr hl hno hsz;unfold bh at *;go_enter Tryz.func181,Tryz.ntmps181;go_upto_region 1 with fail;rw[HW.o];clear HW;go_wp2_with fail;refine oI.o.mono ?_;rintro e w2 ⟨rfl,hx⟩;have X2:=aa (X0.o.trans hx);have Y2:=aa hx;clear hx oI c0 c1 c2 hbl;have vh:=aa (Xa.o w2 X2.o);clear Xa;simp only[Option.getD_none,Option.isSome_none] at vh;go_wp2_with fail;refine vh.o.mono ?_;rintro e w3 ⟨rfl,hx⟩;obtain⟨W4,sF⟩:∃W4,W4=w3.alloc (.cells #[encStr Ty.zero.aq,.int .i64 Ty.zero.var,.slice Ty.zero.A Ty.zero.args.length Ty.zero.cap] 53):=⟨_,rfl⟩;have RS:ahg (Ext w3 W4):=aa (by rw[sF];exact(eR _).alloc _);have X4:=aa (X2.o.trans (hx.trans RS.o));have Y4:=aa (Y2.o.trans (hx.trans RS.o));clear hx vh;go_upto_region 4 with fail;rw[←sF];clear sF;go_wp2
 go_loopw [10] (fun i wr=>∃k:Nat,k≤s.length∧i=.int .i64 k∧ahg (∀j (h:j<s.length),j<k→(s[j]'h).v<x)∧ahg (Ext W4 wr)) (fun i _=>s.length - (intOf i).toNat)
 case atStart=>exact⟨0,ahj _,rfl,aa (fun j _ hj=>absurd hj (by omega)),aa (eR _)⟩
 case round=>
  obtain⟨k,hk,rfl,HJ,HX⟩:=hrel;have XR:=aa (X4.o.trans HX.o)
  by_cases hgo:∃hlt:k<s.length,(s[k]'hlt).v<x
  ·obtain⟨hlt,hv⟩:=hgo;have aS:(k:Int)<(s.length:Int):=by omega
   have dy:(0:Int)≤(k:Int):=by omega
   obtain⟨b,o,rfl,hb,q0,q1,q2,q3⟩:=nz (H.o.ext XR.o).row hlt;have mn:ahg (∀j (h:j<s.length),j<k+1→(s[j]'h).v<x):=aa (fun j hj hjk=>by
    by_cases e:j=k
    ·subst e;exact hv
    ·exact HJ.o j hj (by omega))
   generalize s[k]'hlt=y at *;go_wp2;go_roundw
   case rel=>exact⟨k+1,hlt,by go_num,mn,HX⟩
   case measure=>simp[intOf];omega
  ·have yv:ahg (uY s x k):=aa ⟨hk,fun j hj hjk=>HJ.o j hj hjk,fun j hj hkj=>by
    have h1:k<s.length:=by omega
    have h2:¬(s[k]'h1).v<x:=fun h=>hgo ⟨h1,h⟩
    rcases Nat.lt_or_ge k j with h3|h3
    ·have:=ib U1.o h3 hj;omega
    ·have:j=k:=by omega
     subst this;omega⟩
   have Fv:ahg (Row wr S 4 k ((s.take k).flatMap bJ.f)):=aa (by
    have:=ak.take bJ (H.o.ext XR.o).row hk;unfold ak at this
    rwa [List.length_take,Nat.min_eq_left hk] at this)
   have yz:ahg ((cC s k x t).length=s.length+1):=aa (jY hk);have oJ:ahg (∀w',Ext w w'→∀p∈cC s k x t,aC w' p.ty):=aa (fun w' e p hp=>by
    rcases gA.1 hp with rfl|hp
    ·exact HT.o.ext e
    ·exact(H.o.ty p hp).ext e)
   have HS:ahg (∀w',Ext wr w'→w'.cell? ⟨w.heap.size,0,none⟩=some (encStr t.aq)∧w'.cell? ⟨w.heap.size,1,none⟩=some (.int .i64 t.var)∧w'.cell? ⟨w.heap.size,2,none⟩=some (.slice t.A t.args.length t.cap)):=aa (fun w' e=>by
    have:=B1.o.ext (Y4.o.trans (HX.o.trans e));exact⟨this.c0,this.c1,this.c2⟩)
   have uX:(k:Int)≤(s.length:Int):=by omega
   have hk2:(k:Int)≤(sc:Int):=by omega
   have hk3:(s.length:Int)≤(sc:Int):=by omega
   have hk4:(0:Int)≤(k:Int):=by omega
   obtain⟨s0,s1',s2'⟩:=HS.o wr (eR _);have hbr:w.heap.size<wr.heap.size:=(B1.o.ext (Y4.o.trans HX.o)).lt
   by_cases lZ:sc=k
   ·have iN:k=s.length:=by omega
    have U2:ahg ((s.take k).flatMap bJ.f++[.int .i64 x,encStr t.aq,.int .i64 t.var,.slice t.A t.args.length t.cap]++[]=(cC s k x t).flatMap bJ.f):=aa (by
     unfold cC;rw[List.flatMap_append,List.flatMap_cons,List.drop_eq_nil_of_le (by omega),List.flatMap_nil,List.append_nil,List.append_nil];rfl)
    have hns:¬(k:Int)<(s.length:Int):=by omega
    subst iN;subst lZ;go_wp2
    go_region_held3 (fun w'=>w'.cell? ⟨w.heap.size,0,none⟩=some (encStr t.aq)∧w'.cell? ⟨w.heap.size,1,none⟩=some (.int .i64 t.var)∧w'.cell? ⟨w.heap.size,2,none⟩=some (.slice t.A t.args.length t.cap)) (first|assumption|go_keep) (first
     |(
      refine aI _ rfl (.const (.slice none 0 0)) (.tmp 40) 190 rfl wr.heap.size 194 i0 _ 4 56 Tryz.underlying190 hi hz0 hz1 hz2 rfl (by decide) (.slice none 0 0) 0 [] rfl (World.ownsRow_nil _ _ _ _) S s.length s.length ((s.take s.length).flatMap bJ.f) rfl (Row.ext Fv.o (w:=wr) (by repeat(first|exact eR _|exact eA (by assumption) _|refine eA ?_ _|refine eM ?_ _ _|refine eD ?_|refine eN ?_ _))) (fB _) (by unfold maxLen;omega) (by omega) (Ext.size (w:=wr) (by repeat(first|exact eR _|exact eA (by assumption) _|refine eA ?_ _|refine eM ?_ _ _|refine eD ?_|refine eN ?_ _))) ?_;intro v1 w2 hown1 hg1 Fw;have X1:ahg (Ext wr w2):=aa (Ext.app (w:=wr) (by repeat(first|exact eR _|exact eA (by assumption) _|refine eA ?_ _|refine eM ?_ _ _|refine eD ?_|refine eN ?_ _)) hg1 (World.ownsRow_nil _ wr.heap.size 194 4) (ahi _));have RU:=aa hg1;rw[Nat.zero_add,List.nil_append] at hown1;have O1:=aa hown1;have s1:=HS.o _ X1.o;clear hown1 hg1 Fw)
     |(
      refine aI _ rfl (.tmp 46) (.tmp 49) 190 rfl wr.heap.size 194 i0 _ 4 56 Tryz.underlying190 hi hz0 hz1 hz2 rfl (by decide) v2 (s.length+1) ((s.take s.length).flatMap bJ.f++[.int .i64 x,encStr t.aq,.int .i64 t.var,.slice t.A t.args.length t.cap]) rfl O2.o S 0 0 [] rfl (ak.nil bJ _ _) (by simp) (by unfold maxLen;omega) (by omega) (by have:=X3.o.size;omega) ?_;intro v3 w4 jI hg3 wq;have X4:ahg (Ext wr w4):=aa (Ext.app X3.o hg3 O2.o (ahi _));have O3:=aa jI;have s3:=HS.o _ X4.o;clear jI hg3 wq)
     |(
      refine aI _ rfl (.tmp 41) (.tmp 45) 190 rfl wr.heap.size 194 i0 _ 4 56 Tryz.underlying190 hi hz0 hz1 hz2 rfl (by decide) v1 s.length ((s.take s.length).flatMap bJ.f) rfl (by first|exact O1.o.alloc _|exact O1.o) (some ⟨_,0,none⟩) 1 1 [.int .i64 x,encStr t.aq,.int .i64 t.var,.slice t.A t.args.length t.cap] rfl (by first|exact ak.block bJ [⟨x,t⟩] (heap_alloc_new _ _)|exact ak.block bJ [⟨x,t⟩] ((RU.o.block _ (by simp) (by simp[Value.ownBlock])).trans (ah _ _ _ (by simp)))) (by intro u hu;simp at hu;rcases hu with rfl|rfl|rfl|rfl<;>rfl) (by unfold maxLen;omega) (by omega) (Ext.size (w:=wr) (by first|exact X1.o.alloc _|exact X1.o)) ?_;intro v2 w3 hown2 hg2 Fx;have X3:ahg (Ext wr w3):=aa (Ext.app (w:=wr) (by first|exact X1.o.alloc _|exact X1.o) hg2 (by first|exact O1.o.alloc _|exact O1.o) (ahi _));have O2:=aa hown2;have s2:=HS.o _ X3.o;clear hown2 hg2 Fx))
    all_goals
     have h3:=O3.o;rw[show s.length+1+0=(cC s s.length x t).length by have:=yz.o;omega,show(s.take s.length).flatMap bJ.f++[.int .i64 x,encStr t.aq,.int .i64 t.var,.slice t.A t.args.length t.cap]++[]=(cC s s.length x t).flatMap bJ.f from U2.o] at h3;obtain⟨A',cap',rfl,hc1,hc2,hs,-⟩:=ak.own bJ (l:=cC s s.length x t) h3;have Hs:ahg (eZ w4 A' (cC s s.length x t)):=aa ⟨hs,fun p hp=>oJ.o w4 (XR.o.trans X4.o) p hp⟩;have XX:=aa (XR.o.trans X4.o);clear h3 hs O3;go_wp2;refine bodyPost_ret (v:=.tuple #[.slice A' (cC s s.length x t).length cap',.int .i64 0]) (by simp[results,Tryz.results181,go_sem]) rfl ⟨⟨s.length,A',cap',rfl,yv.o,Hs.o,hc1,hc2⟩,XX.o⟩
   ·have U2:ahg ((s.take k).flatMap bJ.f++[.int .i64 x,encStr t.aq,.int .i64 t.var,.slice t.A t.args.length t.cap]++(s.drop k).flatMap bJ.f=(cC s k x t).flatMap bJ.f):=aa (by
     unfold cC;rw[List.flatMap_append,List.flatMap_cons,List.append_assoc];rfl)
    have N9:ahg (Row wr (S.map (·.add (k*4))) 4 (s.length - k) ((s.drop k).flatMap bJ.f)):=aa (by
     have:=ak.cut bJ (H.o.ext XR.o).row hk hle;rw[if_neg lZ] at this;unfold ak at this
     rwa [List.length_drop] at this)
    by_cases hlt:k<s.length
    ·have aS:(k:Int)<(s.length:Int):=by omega
     have hv:¬(s[k]'hlt).v<x:=fun h=>hgo ⟨hlt,h⟩
     obtain⟨b,o,hA,hb,q0,q1,q2,q3⟩:=nz (H.o.ext XR.o).row hlt;generalize s[k]'hlt=y at *;subst hA;have RV:ahg (Row wr (some ⟨b,o+k*4,none⟩) 4 (s.length - k) ((s.drop k).flatMap bJ.f)):=aa (by
      have h1:=N9.o;have h2:Option.map (·.add (k*4)) (some (⟨b,o,none⟩:Addr))=some ⟨b,o+k*4,none⟩:=by
       by_cases h0:k*4=0
       ·rw[h0];rfl
       ·show some (Addr.add _ _)=_;unfold Addr.add;rw[if_neg h0]
      rwa [h2] at h1)
     clear N9;go_wp2
     go_region_held3 (fun w'=>w'.cell? ⟨w.heap.size,0,none⟩=some (encStr t.aq)∧w'.cell? ⟨w.heap.size,1,none⟩=some (.int .i64 t.var)∧w'.cell? ⟨w.heap.size,2,none⟩=some (.slice t.A t.args.length t.cap)) (first|assumption|go_keep) (first
      |(
       refine aI _ rfl (.const (.slice none 0 0)) (.tmp 40) 190 rfl wr.heap.size 194 i0 _ 4 56 Tryz.underlying190 hi hz0 hz1 hz2 rfl (by decide) (.slice none 0 0) 0 [] rfl (World.ownsRow_nil _ _ _ _) (some ⟨b,o,none⟩) k sc ((s.take k).flatMap bJ.f) rfl (Row.ext Fv.o (w:=wr) (by repeat(first|exact eR _|exact eA (by assumption) _|refine eA ?_ _|refine eM ?_ _ _|refine eD ?_|refine eN ?_ _))) (fB _) (by unfold maxLen;omega) (by omega) (Ext.size (w:=wr) (by repeat(first|exact eR _|exact eA (by assumption) _|refine eA ?_ _|refine eM ?_ _ _|refine eD ?_|refine eN ?_ _))) ?_;intro v1 w2 hown1 hg1 Fw;have X1:ahg (Ext wr w2):=aa (Ext.app (w:=wr) (by repeat(first|exact eR _|exact eA (by assumption) _|refine eA ?_ _|refine eM ?_ _ _|refine eD ?_|refine eN ?_ _)) hg1 (World.ownsRow_nil _ wr.heap.size 194 4) (ahi _));have RU:=aa hg1;rw[Nat.zero_add,List.nil_append] at hown1;have O1:=aa hown1;have s1:=HS.o _ X1.o;clear hown1 hg1 Fw)
      |(
       refine aI _ rfl (.tmp 46) (.tmp 49) 190 rfl wr.heap.size 194 i0 _ 4 56 Tryz.underlying190 hi hz0 hz1 hz2 rfl (by decide) v2 (k+1) ((s.take k).flatMap bJ.f++[.int .i64 x,encStr t.aq,.int .i64 t.var,.slice t.A t.args.length t.cap]) rfl O2.o (some ⟨b,o+k*4,none⟩) (s.length - k) (sc - k) ((s.drop k).flatMap bJ.f) rfl (RV.o.ext X3.o) (fB _) (by unfold maxLen;omega) (by omega) (by have:=X3.o.size;omega) ?_;intro v3 w4 jI hg3 wq;have X4:ahg (Ext wr w4):=aa (Ext.app X3.o hg3 O2.o (ahi _));have O3:=aa jI;have s3:=HS.o _ X4.o;clear jI hg3 wq)
      |(
       refine aI _ rfl (.tmp 41) (.tmp 45) 190 rfl wr.heap.size 194 i0 _ 4 56 Tryz.underlying190 hi hz0 hz1 hz2 rfl (by decide) v1 k ((s.take k).flatMap bJ.f) rfl (by first|exact O1.o.alloc _|exact O1.o) (some ⟨_,0,none⟩) 1 1 [.int .i64 x,encStr t.aq,.int .i64 t.var,.slice t.A t.args.length t.cap] rfl (by first|exact ak.block bJ [⟨x,t⟩] (heap_alloc_new _ _)|exact ak.block bJ [⟨x,t⟩] ((RU.o.block _ (by simp) (by simp[Value.ownBlock])).trans (ah _ _ _ (by simp)))) (by intro u hu;simp at hu;rcases hu with rfl|rfl|rfl|rfl<;>rfl) (by unfold maxLen;omega) (by omega) (Ext.size (w:=wr) (by first|exact X1.o.alloc _|exact X1.o)) ?_;intro v2 w3 hown2 hg2 Fx;have X3:ahg (Ext wr w3):=aa (Ext.app (w:=wr) (by first|exact X1.o.alloc _|exact X1.o) hg2 (by first|exact O1.o.alloc _|exact O1.o) (ahi _));have O2:=aa hown2;have s2:=HS.o _ X3.o;clear hown2 hg2 Fx))
     all_goals
      have h3:=O3.o;rw[show k+1+(s.length - k)=(cC s k x t).length by have:=yz.o;omega,show(s.take k).flatMap bJ.f++[.int .i64 x,encStr t.aq,.int .i64 t.var,.slice t.A t.args.length t.cap]++((s.drop k).flatMap bJ.f)=(cC s k x t).flatMap bJ.f from U2.o] at h3;obtain⟨A',cap',rfl,hc1,hc2,hs,-⟩:=ak.own bJ (l:=cC s k x t) h3;have Hs:ahg (eZ w4 A' (cC s k x t)):=aa ⟨hs,fun p hp=>oJ.o w4 (XR.o.trans X4.o) p hp⟩;have XX:=aa (XR.o.trans X4.o);clear h3 hs O3;go_wp2;refine bodyPost_ret (v:=.tuple #[.slice A' (cC s k x t).length cap',.int .i64 0]) (by simp[results,Tryz.results181,go_sem]) rfl ⟨⟨k,A',cap',rfl,yv.o,Hs.o,hc1,hc2⟩,XX.o⟩
    ·have hns:¬(k:Int)<(s.length:Int):=by omega
     go_wp2
     go_region_held3 (fun w'=>w'.cell? ⟨w.heap.size,0,none⟩=some (encStr t.aq)∧w'.cell? ⟨w.heap.size,1,none⟩=some (.int .i64 t.var)∧w'.cell? ⟨w.heap.size,2,none⟩=some (.slice t.A t.args.length t.cap)) (first|assumption|go_keep) (first
      |(
       refine aI _ rfl (.const (.slice none 0 0)) (.tmp 40) 190 rfl wr.heap.size 194 i0 _ 4 56 Tryz.underlying190 hi hz0 hz1 hz2 rfl (by decide) (.slice none 0 0) 0 [] rfl (World.ownsRow_nil _ _ _ _) S k sc ((s.take k).flatMap bJ.f) rfl (Row.ext Fv.o (w:=wr) (by repeat(first|exact eR _|exact eA (by assumption) _|refine eA ?_ _|refine eM ?_ _ _|refine eD ?_|refine eN ?_ _))) (fB _) (by unfold maxLen;omega) (by omega) (Ext.size (w:=wr) (by repeat(first|exact eR _|exact eA (by assumption) _|refine eA ?_ _|refine eM ?_ _ _|refine eD ?_|refine eN ?_ _))) ?_;intro v1 w2 hown1 hg1 Fw;have X1:ahg (Ext wr w2):=aa (Ext.app (w:=wr) (by repeat(first|exact eR _|exact eA (by assumption) _|refine eA ?_ _|refine eM ?_ _ _|refine eD ?_|refine eN ?_ _)) hg1 (World.ownsRow_nil _ wr.heap.size 194 4) (ahi _));have RU:=aa hg1;rw[Nat.zero_add,List.nil_append] at hown1;have O1:=aa hown1;have s1:=HS.o _ X1.o;clear hown1 hg1 Fw)
      |(
       refine aI _ rfl (.tmp 46) (.tmp 49) 190 rfl wr.heap.size 194 i0 _ 4 56 Tryz.underlying190 hi hz0 hz1 hz2 rfl (by decide) v2 (k+1) ((s.take k).flatMap bJ.f++[.int .i64 x,encStr t.aq,.int .i64 t.var,.slice t.A t.args.length t.cap]) rfl O2.o (S.map (·.add (k*4))) (s.length - k) (sc - k) ((s.drop k).flatMap bJ.f) rfl (N9.o.ext X3.o) (fB _) (by unfold maxLen;omega) (by omega) (by have:=X3.o.size;omega) ?_;intro v3 w4 jI hg3 wq;have X4:ahg (Ext wr w4):=aa (Ext.app X3.o hg3 O2.o (ahi _));have O3:=aa jI;have s3:=HS.o _ X4.o;clear jI hg3 wq)
      |(
       refine aI _ rfl (.tmp 41) (.tmp 45) 190 rfl wr.heap.size 194 i0 _ 4 56 Tryz.underlying190 hi hz0 hz1 hz2 rfl (by decide) v1 k ((s.take k).flatMap bJ.f) rfl (by first|exact O1.o.alloc _|exact O1.o) (some ⟨_,0,none⟩) 1 1 [.int .i64 x,encStr t.aq,.int .i64 t.var,.slice t.A t.args.length t.cap] rfl (by first|exact ak.block bJ [⟨x,t⟩] (heap_alloc_new _ _)|exact ak.block bJ [⟨x,t⟩] ((RU.o.block _ (by simp) (by simp[Value.ownBlock])).trans (ah _ _ _ (by simp)))) (by intro u hu;simp at hu;rcases hu with rfl|rfl|rfl|rfl<;>rfl) (by unfold maxLen;omega) (by omega) (Ext.size (w:=wr) (by first|exact X1.o.alloc _|exact X1.o)) ?_;intro v2 w3 hown2 hg2 Fx;have X3:ahg (Ext wr w3):=aa (Ext.app (w:=wr) (by first|exact X1.o.alloc _|exact X1.o) hg2 (by first|exact O1.o.alloc _|exact O1.o) (ahi _));have O2:=aa hown2;have s2:=HS.o _ X3.o;clear hown2 hg2 Fx))
     all_goals
      have h3:=O3.o;rw[show k+1+(s.length - k)=(cC s k x t).length by have:=yz.o;omega,show(s.take k).flatMap bJ.f++[.int .i64 x,encStr t.aq,.int .i64 t.var,.slice t.A t.args.length t.cap]++((s.drop k).flatMap bJ.f)=(cC s k x t).flatMap bJ.f from U2.o] at h3;obtain⟨A',cap',rfl,hc1,hc2,hs,-⟩:=ak.own bJ (l:=cC s k x t) h3;have Hs:ahg (eZ w4 A' (cC s k x t)):=aa ⟨hs,fun p hp=>oJ.o w4 (XR.o.trans X4.o) p hp⟩;have XX:=aa (XR.o.trans X4.o);clear h3 hs O3;go_wp2;refine bodyPost_ret (v:=.tuple #[.slice A' (cC s k x t).length cap',.int .i64 0]) (by simp[results,Tryz.results181,go_sem]) rfl ⟨⟨k,A',cap',rfl,yv.o,Hs.o,hc1,hc2⟩,XX.o⟩
set_option maxRecDepth 512
set_option maxHeartbeats 200000
structure Oa (w w':World) (s:List Pr) (t u:Ty):Prop where
 ty:aC w' u
 is:u.pure=fF (br s) (bz s) t
 away:∀c,c<w.heap.size→aF c t=true→(∀k∈bz s,aF c k=true)→aF c u=true
set_option maxRecDepth 10000
set_option maxHeartbeats 8000000
theorem Cb (S:Option Addr) (sc:Nat) (s:List Pr) (t:Ty) (w:World) (h:eZ w S s) (hn:s.length≤9223372036854775807) (hsm:∀p∈s,az p.ty=true) (ht:aC w t) (hl:az t=true) (h1:gR (br s) (bz s) t≤4096) (h2:nM (br s) (bz s) t≤100) :
  Calls Tryz.prog 214 #[.slice S s.length sc,bh t] w fun e w'=>(∃u,e=.returned (.tuple #[bh u,.int .i64 0])∧Oa w w' s t u)∧Ext w w':=by
 obtain⟨W,hW⟩:∃W,W=(w.alloc (.cells #[encStr t.aq,.int .i64 t.var,.slice t.A t.args.length t.cap] 53)).alloc (.cells #[.string ⟨#[]⟩,.int .i64 0,.slice none 0 0] 53):=⟨_,rfl⟩;have HW:=aa hW.symm;have X0:ahg (Ext w W):=aa (by rw[hW];exact((eR _).alloc _).alloc _);have B1:ahg (aP W w.heap.size t):=aa (by rw[hW];exact(aP.new w t).ext ((eR _).alloc _));have B2:ahg (W.heap[w.heap.size+1]?=some (.cells #[.string ⟨#[]⟩,.int .i64 0,.slice none 0 0] 53 (0,0))):=aa (by rw[hW];exact ah _ _ _ (by simp));have jb:t.size≤4096:=(aW hl).1;have wu:∀p∈s,p.ty.size≤1000000:=fun p hp=>by have:=(aW (hsm p hp)).1;omega
 have NQ:=aa (gi t W (ht.ext X0.o) (by omega));rw[hl] at NQ;have jV:=aa (fun w' (e:Ext w w')=>aa (Fu S sc s hn wu t w' (ht.ext e) (h.ext e) (by omega)));have Qc:=aa (fun w' (e:Ext w w')=>aa (Kv S sc s hn t w' (ht.ext e) (h.ext e) (by omega)));have Xb:=aa (fun(u:Ty) (e:u.pure=fF (br s) (bz s) t)=>show az u=true∧u.size≤900000 by
  have h3:=sj (vars:=br s) (types:=bz s) (fun k hk=>by obtain⟨p,hp,rfl⟩:=List.mem_map.1 hk;exact hsm p hp) hl e;rw[decide_eq_true h1,decide_eq_true h2] at h3;exact⟨h3,by have:=(aW h3).1;omega⟩)
 have ou:=aa (fun c (hc:w.heap.size≤c)=>ahk (aU ht hc) (fun k (hk:k∈bz s)=>aU (h.iD k hk) hc));have hz:¬(4096:Int)<(gR (br s) (bz s) t:Int):=by omega
 have hz2:(gR (br s) (bz s) t:Int)≤4096:=by omega
 generalize gR (br s) (bz s) t=Z at *;have c0:=B1.o.c0;have c1:=B1.o.c1;have c2:=B1.o.c2;have hbl:=B1.o.lt;clear hW h ht hl hsm jb wu h1 h2;unfold bh at *;go_enter Tryz.func214,Tryz.ntmps214;go_upto_region 1 with fail;rw[HW.o];clear HW;go_wp2_with fail;refine NQ.o.mono ?_;rintro e w2 ⟨rfl,hx⟩;have X2:=aa (X0.o.trans hx);have C1:=aa (B1.o.ext hx);have C2:=aa ((hx.heap (ae B2.o)).trans B2.o);clear hx NQ c0 c1 c2 hbl;have c0:=C1.o.c0;have c1:=C1.o.c1;have c2:=C1.o.c2;have hbl:=C1.o.lt;go_wp2_with fail;refine(jV.o w2 X2.o).o.mono ?_;rintro e w3 ⟨rfl,hx⟩;have X3:=aa (X2.o.trans hx);have D1:=aa (C1.o.ext hx);have D2:=aa ((hx.heap (ae C2.o)).trans C2.o);clear hx jV c0 c1 c2 hbl C1 C2;have c0:=D1.o.c0;have c1:=D1.o.c1;have c2:=D1.o.c2;have hbl:=D1.o.lt;go_wp2_with fail;refine(Qc.o w3 X3.o).o.mono ?_;rintro e w4 ⟨⟨u,rfl,hu⟩,hx⟩;obtain⟨W5,jR⟩:∃W5,W5=w4.alloc (.cells #[encStr u.aq,.int .i64 u.var,.slice u.A u.args.length u.cap] 53):=⟨_,rfl⟩;have xZ:ahg (Ext w4 W5):=aa (by rw[jR];exact(eR _).alloc _);have X5:=aa (X3.o.trans (hx.trans xZ.o));have E2:=aa (((hx.trans xZ.o).heap (ae D2.o)).trans D2.o);have U5:ahg (aP W5 w4.heap.size u):=aa (by rw[jR];exact aP.new w4 u);have Hu:=aa (hu.ext xZ.o);have U3:=aa (gi u W5 Hu.o.ty (Xb.o u hu.is).2);rw[(Xb.o u hu.is).1] at U3;have hs3:=X3.o.size;have hs0:w.heap.size+2≤w3.heap.size:=by
  have h1:=ae D2.o;omega
 clear hx hu Qc c0 c1 c2 hbl D1 D2 Xb;unfold bh at U3;go_upto_region 6 with fail;rw[←jR];clear jR;have c0:=U5.o.c0;have c1:=U5.o.c1;have c2:=U5.o.c2;have hbl:=U5.o.lt;go_wp2_with fail;refine U3.o.mono ?_;rintro e w6 ⟨rfl,hx⟩;have X6:=aa (X5.o.trans hx);have U6:=aa (U5.o.ext hx);have F2:=aa ((hx.heap (ae E2.o)).trans E2.o);have HuT:=aa (Hu.o.ty.ext hx);clear hx U3 c0 c1 c2 hbl;have c0:=U6.o.c0;have c1:=U6.o.c1;have c2:=U6.o.c2;have hbl:=U6.o.lt;have f0:=ai F2.o 0;have f1:=ai F2.o 1;have f2:=ai F2.o 2;have k0:=af F2.o 0;have k1:=af F2.o 1;have k2:=af F2.o 2;have P7:=ae F2.o;simp only[ahp,ahq,ahr] at k0 k1 k2;have RX:ahg (Oa w (((w6.setCell ⟨w.heap.size+1,0,none⟩ (encStr u.aq)).setCell ⟨w.heap.size+1,1,none⟩ (.int .i64 u.var)).setCell ⟨w.heap.size+1,2,none⟩ (.slice u.A u.args.length u.cap)) s t u∧Ext w (((w6.setCell ⟨w.heap.size+1,0,none⟩ (encStr u.aq)).setCell ⟨w.heap.size+1,1,none⟩ (.int .i64 u.var)).setCell ⟨w.heap.size+1,2,none⟩ (.slice u.A u.args.length u.cap))):=aa (by
  have g:=bR w6 (w.heap.size+1) 0 1 2 (encStr u.aq) (.int .i64 u.var) (.slice u.A u.args.length u.cap);have ha:aF (w.heap.size+1) u=true:=Hu.o.away _ (by omega) (ou.o _ (by omega)).1 (ou.o _ (by omega)).2;refine⟨⟨HuT.o.grown g (fun c e=>by injection e with e;subst e;exact ha),Hu.o.is,fun c hc h1 h2=>Hu.o.away c (by omega) h1 h2⟩,?_⟩;exact(((X6.o.setCell (by simp) _).setCell (by simp) _).setCell (by simp) _))
 go_wp2;refine bodyPost_ret (v:=.tuple #[.agg #[encStr u.aq,.int .i64 u.var,.slice u.A u.args.length u.cap],.int .i64 0]) ?_ rfl ⟨⟨u,rfl,RX.o.1⟩,RX.o.2⟩;simp[results,Tryz.f214,go_sem,k0,k1,k2]
set_option maxRecDepth 512
set_option maxHeartbeats 200000
structure rz (N:Nat) (w':World) (row:Option Nat) (s:List Pr) (l ds:List Pd):Prop where
 away:∀d∈ds,∀c,c<N→(∀x∈l,aF c x.ty=true)→(∀k∈bz s,aF c k=true)→aF c d.ty=true
 ty:∀d∈ds,aC w' d.ty
 off:∀d∈ds,∀c,row=some c→aF c d.ty=true
 is:ds.map (fun d=>(d.cls,d.ty.pure))=l.map fun x=>(x.cls,fF (br s) (bz s) x.ty)
theorem rz.len {N:Nat}{w':World}{row:Option Nat}{s:List Pr}{l ds:List Pd}(h:rz N w' row s l ds):ds.length=l.length:=by simpa using congrArg List.length h.is
theorem rz.step {w wr w3 w5:World}{row row':Option Nat}{s:List Pr}{l ds:List Pd}{x:Pd}{u:Ty}{S:Option Addr}{N:Nat}(h:rz N wr row s l ds) (hN:N≤wr.heap.size) (hS:eZ w S s) (hx:aC w x.ty) (hu:Oa wr w3 s x.ty u)
  (xO:∀c,row=some c→w.heap.size≤c∧c<wr.heap.size) (e:Ext wr w3){w4:World}(e4:Ext w3 w4) (hg:w4.grownBy w5 row) (ho:row'=row∨row'=some w4.heap.size):rz N w5 row' s (l++[x]) (ds++[⟨x.cls,u⟩]):=by
 have WS:∀c,row=some c→aF c u=true:=fun c hc=>hu.away c (xO c hc).2 (aU hx (xO c hc).1) (fun k hk=>aU (hS.iD k hk) (xO c hc).1)
 have nO:∀d∈ds++[(⟨x.cls,u⟩:Pd)],aC w4 d.ty∧∀c,row=some c→aF c d.ty=true:=by
  intro d hd
  rcases List.mem_append.1 hd with hd|hd
  ·exact⟨(h.ty d hd).ext (e.trans e4),fun c hc=>h.off d hd c hc⟩
  ·rw[ahx] at hd;subst hd;exact⟨hu.ty.ext e4,WS⟩
 refine⟨fun d hd c hc h1 h2 => ?_,fun d hd=>(nO d hd).1.grown hg (nO d hd).2,fun d hd c hc => ?_,?_⟩
 ·rcases List.mem_append.1 hd with hd|hd
  ·exact h.away d hd c hc (fun y hy=>h1 y (List.mem_append.2 (.inl hy))) h2
  ·rw[ahx] at hd;subst hd;exact hu.away c (by omega) (h1 x (by simp)) h2
 ·rcases ho with h1|h1
  ·exact(nO d hd).2 c (h1▸hc)
  ·rw[h1] at hc;injection hc with hc;exact aU (nO d hd).1 (by omega)
 ·rw[ahz,ahz,h.is];simp[hu.is]
set_option maxRecDepth 10000
set_option maxHeartbeats 8000000
theorem Cc (S:Option Addr) (sc:Nat) (s:List Pr) (B:Option Addr) (bc:Nat) (l:List Pd) (w:World) (h:eZ w S s) (hn:s.length≤9223372036854775807) (hsm:∀p∈s,az p.ty=true) (hl:bA w B l) (hlen:l.length≤40000) (bP:uk s l) :
  Calls Tryz.prog 182 #[.slice S s.length sc,.slice B l.length bc] w fun e w'=>(∃v ds,e=.returned (.tuple #[v,.int .i64 0])∧w'.ownsRow w.heap.size 55 4 v ds.length (ds.flatMap kC.f)∧rz w.heap.size w' v.ownBlock s l ds)∧Ext w w':=by
 obtain⟨i0,hi,hz0,hz1,hz2⟩:=info_parts sI;have HS:=aa h;have HL:=aa hl;have N2:=aa (fun(x:Pd) (hx:x∈l) w' (e:Ext w w')=>aa (Cb S sc s x.ty w' (h.ext e) hn hsm ((hl.all x hx).ty.ext e) (bP x hx).1 (bP x hx).2.1 (bP x hx).2.2));clear h hsm hl bP;go_enter Tryz.func182,Tryz.ntmps182;go_wp2
 go_loopw [6,7] (fun v i wr=>∃(k:Nat) (ds:List Pd),k≤l.length∧i=.int .i64 k∧ahg (Ext w wr)∧ahg (wr.ownsRow w.heap.size 55 4 v ds.length (ds.flatMap kC.f))∧ahg (rz w.heap.size wr v.ownBlock s (l.take k) ds)) (fun _ i _=>l.length - (intOf i).toNat)
 case atStart=>exact⟨0,[],ahj _,rfl,aa (eR _),aa (World.ownsRow_nil _ _ _ _),aa ⟨by simp,by simp,by simp,rfl⟩⟩
 case round=>
  obtain⟨k,ds,hk,rfl,HX,HO,HD⟩:=hrel
  by_cases hlt:k<l.length
  ·have aS:(k:Int)<(l.length:Int):=by omega
   have dy:(0:Int)≤(k:Int):=by omega
   obtain⟨b,o,rfl,hb0,p0,p1,p2,p3⟩:=HL.o.at_ hlt;have q0:=HX.o.cell p0;have q1:=HX.o.cell p1;have q2:=HX.o.cell p2;have q3:=HX.o.cell p3;have hb:b<wr.heap.size:=by have:=HX.o.size;omega
   have hm:=ahh hlt;have Fj:=aa (N2.o _ hm wr HX.o);have Hx:=aa (HL.o.all _ hm);have cS:ahg (l.take (k+1)=l.take k++[l[k]'hlt]):=aa (ahl hlt);have J3:ds.length≤40000:=by have:=HD.o.len;rw[List.length_take] at this;omega
   generalize l[k]'hlt=x at *;clear hm;unfold bh at Fj;obtain⟨A6,c6,rfl,-,-,-,-⟩:=ak.own kC (l:=ds) HO.o;go_wp2_with fail;refine Fj.o.o.mono ?_;rintro e w3 ⟨⟨u,rfl,hu⟩,hx3⟩;obtain⟨W4,sF⟩:∃W4,W4=w3.alloc (.cells #[encStr u.aq,.int .i64 u.var,.slice u.A u.args.length u.cap] 53):=⟨_,rfl⟩;have RS:ahg (Ext w3 W4):=aa (by rw[sF];exact(eR _).alloc _);have U4:ahg (aP W4 w3.heap.size u):=aa (by rw[sF];exact aP.new w3 u);have RY:=aa (hx3.trans RS.o);have X4:=aa (HX.o.trans RY.o);have RZ:=aa (fun w5 v' (w4:World) (e4:Ext W4 w4) (hg:w4.grownBy w5 (Value.slice A6 ds.length c6).ownBlock) (ho:(v':Value).ownBlock=(Value.slice A6 ds.length c6).ownBlock∨v'.ownBlock=some w4.heap.size)=>
    rz.step HD.o HX.o.size HS.o Hx.o.ty hu (fun c hc=>HO.o.lt c hc) hx3 (RS.o.trans e4) hg ho)
   have HSb:ahg (∀w',Ext W4 w'→w'.cell? ⟨b,o+k*4,none⟩=some (.string ⟨x.cls.toArray⟩)∧w'.cell? ⟨w3.heap.size,0,none⟩=some (encStr u.aq)∧w'.cell? ⟨w3.heap.size,1,none⟩=some (.int .i64 u.var)∧w'.cell? ⟨w3.heap.size,2,none⟩=some (.slice u.A u.args.length u.cap)):=aa (fun w' e=>by
    have:=U4.o.ext e;exact⟨(RY.o.trans e).cell q0,this.c0,this.c1,this.c2⟩)
   have HSc:ahg (∀w4 w5,Ext W4 w4→w4.grownBy w5 (Value.slice A6 ds.length c6).ownBlock→Ext w w5→w5.cell? ⟨b,o+k*4,none⟩=some (.string ⟨x.cls.toArray⟩)∧w5.cell? ⟨w3.heap.size,0,none⟩=some (encStr u.aq)∧w5.cell? ⟨w3.heap.size,1,none⟩=some (.int .i64 u.var)∧w5.cell? ⟨w3.heap.size,2,none⟩=some (.slice u.A u.args.length u.cap)):=aa (fun w4 w5 e4 hg e=>by
    have h4:=U4.o.ext e4;have h5:aP w5 w3.heap.size u:=(hg.block _ h4.lt (fun e=>by have h6:=(HO.o.lt _ e.symm).2;have h7:=hx3.size;omega)).trans h4;exact⟨e.cell p0,h5.c0,h5.c1,h5.c2⟩)
   clear hu hx3 q0 q1 q2 q3 p0 p1 p2 p3;go_upto_region 8 with fail;rw[←sF];clear sF;obtain⟨s0,s1,s2,s3⟩:=HSb.o W4 (eR _);have hbl:=U4.o.lt;have hb4:b<W4.heap.size:=by have:=RY.o.size;omega
   go_wp2
   go_region_held3 (fun w'=>w'.cell? ⟨b,o+k*4,none⟩=some (.string ⟨x.cls.toArray⟩)∧w'.cell? ⟨w3.heap.size,0,none⟩=some (encStr u.aq)∧w'.cell? ⟨w3.heap.size,1,none⟩=some (.int .i64 u.var)∧w'.cell? ⟨w3.heap.size,2,none⟩=some (.slice u.A u.args.length u.cap)) (first|assumption|go_keep) (first
   |(
    refine aI _ rfl (.tmp 29) (.tmp 37) 27 rfl w.heap.size 55 i0 _ 4 64 Tryz.underlying27 hi hz0 hz1 hz2 rfl (by decide) (.slice A6 ds.length c6) ds.length (ds.flatMap kC.f) rfl (bk HO.o (RY.o.trans (by repeat(first|exact eR _|exact eA (by assumption) _|refine eA ?_ _|refine eM ?_ _ _|refine eD ?_|refine eN ?_ _)))) (some ⟨_,0,none⟩) 1 1 (kC.f (Pd.mk x.cls u)) rfl (by first|exact uj (heap_alloc_new _ _)|exact uj (ah _ _ _ (by simp))) (fun y hy=>zV [Pd.mk x.cls u] y (by rw[List.flatMap_cons,List.flatMap_nil,List.append_nil];exact hy)) (by unfold maxLen;omega) (by omega) (aho X4.o.size (Ext.size (by repeat(first|exact eR _|exact eA (by assumption) _|refine eA ?_ _|refine eM ?_ _ _|refine eD ?_|refine eN ?_ _)))) ?_;intro v5 w5 nP xG Fk;have Y5:ahg (Ext w w5):=aa (Ext.app (X4.o.trans (by repeat(first|exact eR _|exact eA (by assumption) _|refine eA ?_ _|refine eM ?_ _ _|refine eD ?_|refine eN ?_ _))) xG (bk HO.o (RY.o.trans (by repeat(first|exact eR _|exact eA (by assumption) _|refine eA ?_ _|refine eM ?_ _ _|refine eD ?_|refine eN ?_ _)))) (ahi _));have O5:ahg (w5.ownsRow w.heap.size 55 4 v5 (ds++[Pd.mk x.cls u]).length ((ds++[Pd.mk x.cls u]).flatMap kC.f)):=aa (by rw[ahn,List.flatMap_append];simpa using nP);have D5:ahg (rz w.heap.size w5 v5.ownBlock s (l.take (k+1)) (ds++[Pd.mk x.cls u])):=aa (by rw[cS.o];exact RZ.o w5 v5 _ (by repeat(first|exact eR _|exact eA (by assumption) _|refine eA ?_ _|refine eM ?_ _ _|refine eD ?_|refine eN ?_ _)) xG Fk);have t0:=HSc.o _ w5 (by repeat(first|exact eR _|exact eA (by assumption) _|refine eA ?_ _|refine eM ?_ _ _|refine eD ?_|refine eN ?_ _)) xG Y5.o;clear nP xG Fk))
   go_wp2;go_roundw
   case rel=>exact⟨k+1,_,hlt,by go_num,Y5,O5,D5⟩
   case measure=>simp[intOf];omega
  ·have bU:¬(k:Int)<(l.length:Int):=by omega
   have N3:ahg (rz w.heap.size wr u6.ownBlock s l ds):=aa (by have:=HD.o;rwa [ahm (by omega)] at this);go_wp2;go_ret2;exact⟨⟨_,rfl,ds,HO.o,N3.o⟩,HX.o⟩
set_option maxRecDepth 512
set_option maxHeartbeats 200000
theorem Ob {α:Type}{p:α→Bool}{l:List α}{k:Nat}(h:k<l.length) (hp:p (l[k]'h)=false):l.all p=false:=by
 rw[Bool.eq_false_iff];intro ha;rw[ahA] at ha;have:=ha _ (ahh h);rw[hp] at this;cases this
set_option maxRecDepth 10000
set_option maxHeartbeats 8000000
theorem Ce (x:cX) (w:World) (h:q9 w x):Calls Tryz.prog 101 #[Du x] w fun e w'=>e=.returned (.int .i64 (if bN x then 0 else 10))∧Ext w w':=by
 obtain⟨cls,aq,n,A,cap,preds⟩:=x;obtain⟨W,hW⟩:∃W,W=w.alloc (.cells #[encStr cls,encStr aq,.int .i64 n,.slice A preds.length cap] 70):=⟨_,rfl⟩;have HW:=aa hW.symm;have X0:ahg (Ext w W):=aa (by rw[hW];exact(eR _).alloc _);have HB:ahg (eW W w.heap.size ⟨cls,aq,n,A,cap,preds⟩):=aa (by rw[hW];exact eW.new w ⟨cls,aq,n,A,cap,preds⟩);obtain⟨c0,c1,c2,c3⟩:=HB.o.cells;have hbl:=HB.o.lt;have oh:cls.length≤1000000000000000000:=h.txt;have hco:aq.length≤1000000000000000000:=h.ctxt;have hle:=h.le;have hmx:=h.max;have JJ:=aa (h.row.ext X0.o);have QV:=aa (kB cls W (by omega));have zQ:=aa (kB aq W (by omega));have HI:ahg (bN ⟨cls,aq,n,A,cap,preds⟩=(fu ⟨cls,aq,n,A,cap,preds⟩&&preds.all (bf n))):=aa rfl;have HH:ahg (fu ⟨cls,aq,n,A,cap,preds⟩=(cd cls&&(cd aq||(aq == [45,62]&&n == 2))&&decide (0≤n)&&decide (n≤100))):=aa rfl;generalize bN ⟨cls,aq,n,A,cap,preds⟩=R at *;generalize fu ⟨cls,aq,n,A,cap,preds⟩=H at *;simp only[] at *;clear hW h;unfold Du at *;go_enter Tryz.func101,Tryz.ntmps101;go_upto_region 1 with fail;rw[HW.o];clear HW
 go_cut [34] (fun s34 wx=>s34=.bool (!H)∧W=wx)
 case first=>
  clear HI JJ;go_wp2_with fail;refine QV.o.mono ?_;rintro e w2 ⟨rfl,rfl⟩;cases h1:cd cls
  ·have hH:H=false:=by rw[HH.o];simp[h1]
   clear HH;subst hH;go_wp2_with fail;go_meet;exact⟨by first|rfl|(simp;done)|(simp;omega),rfl⟩
  ·go_wp2_with fail;refine zQ.o.mono ?_;rintro e w3 ⟨rfl,rfl⟩;have HD:ahg ((cd aq||(aq == [45,62]&&n == 2))=true→H=(decide (0≤n)&&decide (n≤100))):=aa (fun hd=>by rw[HH.o,h1,hd];simp);cases h2:cd aq
   ·cases h3:(aq == ([45,62]:aj))
    ·have hH:H=false:=by rw[HH.o];simp[h1,h2,h3]
     clear HH;subst hH;go_wp2_with fail;go_meet;exact⟨by first|rfl|(simp;done)|(simp;omega),rfl⟩
    ·cases h4:(n == 2)
     ·have hH:H=false:=by rw[HH.o];simp[h1,h2,h4]
      clear HH;subst hH;go_wp2_with fail;go_meet;exact⟨by first|rfl|(simp;done)|(simp;omega),rfl⟩
     ·have hn:n=2:=by simpa using h4
      have hH:H=true:=by rw[HD.o (by rw[h2,h3,h4];rfl),hn];rfl
      have h5:(0:Int)≤n:=by omega
      have h6:n≤100:=by omega
      clear HH HD hn;subst hH;go_wp2_with fail;go_meet;exact⟨by first|rfl|(simp;done)|(simp;omega),rfl⟩
   ·have hH:=HD.o (by rw[h2];rfl);clear HH HD
    by_cases h5:n<0
    ·have R5:H=false:=by rw[hH];simp;omega
     clear hH;subst R5;go_wp2_with fail;go_meet;exact⟨by first|rfl|(simp;done)|(simp;omega),rfl⟩
    ·have h5':(0:Int)≤n:=by omega
     by_cases h6:(100:Int)<n
     ·have R5:H=false:=by rw[hH];simp;omega
      clear hH;subst R5;go_wp2_with fail;go_meet;exact⟨by first|rfl|(simp;done)|(simp;omega),rfl⟩
     ·have h6':n≤100:=by omega
      have R5:H=true:=by rw[hH];simp;omega
      clear hH;subst R5;go_wp2_with fail;go_meet;exact⟨by first|rfl|(simp;done)|(simp;omega),rfl⟩
 case rest=>
  obtain⟨rfl,rfl⟩:=hcut;clear HH QV zQ c0 c1;cases H
  ·have hR:R=false:=by rw[HI.o];rfl
   clear HI;subst hR;go_wp2;go_ret;exact⟨rfl,X0.o⟩
  ·have lQ:ahg (R=preds.all (bf n)):=aa (by rw[HI.o];rfl);clear HI c2 c3 hbl;simp only[Bool.not_true];go_wp2
   go_loopw [3] (fun i wr=>∃k:Nat,k≤preds.length∧i=.int .i64 k∧ahg (Ext W wr)∧ahg (∀j (h:j<preds.length),j<k→bf n (preds[j]'h)=true)) (fun i _=>preds.length - (intOf i).toNat)
   case atStart=>exact⟨0,ahj _,rfl,aa (eR _),aa (fun j _ hj=>absurd hj (by omega))⟩
   case round=>
    obtain⟨k,hk,rfl,HX,HJ⟩:=hrel;have XR:=aa (X0.o.trans HX.o);obtain⟨-,-,c2,c3⟩:=(HB.o.ext HX.o).cells;have hbl:=(HB.o.ext HX.o).lt;simp only[] at c2 c3
    by_cases hlt:k<preds.length
    ·have aS:(k:Int)<(preds.length:Int):=by omega
     have dy:(0:Int)≤(k:Int):=by omega
     obtain⟨b,o,rfl,hb,q0,q1,q2,q3⟩:=(JJ.o.ext HX.o).at_ hlt;have mn:ahg (bf n (preds[k]'hlt)=true→∀j (h:j<preds.length),j<k+1→bf n (preds[j]'h)=true):=aa (fun h1 j hj hjk=>by
      by_cases e:j=k
      ·subst e;exact h1
      ·exact HJ.o j hj (by omega))
     have ma:ahg (bf n (preds[k]'hlt)=false→R=false):=aa (fun h1=>by rw[lQ.o];exact Ob hlt h1);have Cf:ahg (bf n (preds[k]'hlt)=(cd (preds[k]'hlt).cls&&(preds[k]'hlt).ty.aq == []&&(preds[k]'hlt).ty.args.isEmpty&&decide (0≤(preds[k]'hlt).ty.var)&&decide ((preds[k]'hlt).ty.var<n))):=aa rfl;have hpc:(preds[k]'hlt).cls.length≤1000000000000000000:=(JJ.o.all _ (ahh hlt)).cls;generalize preds[k]'hlt=p at *;generalize bf n p=D at *;have HN:=aa (fun w'=>kB p.cls w' (by omega));obtain⟨WB,zW⟩:∃WB,WB=wr.alloc (.cells #[.string ⟨p.ty.aq.toArray⟩,.int .i64 p.ty.var,.slice p.ty.A p.ty.args.length p.ty.cap] 53):=⟨_,rfl⟩;have XB:ahg (Ext wr WB):=aa (by rw[zW];exact(eR _).alloc _);have BT:ahg (aP WB wr.heap.size p.ty):=aa (by rw[zW];exact aP.new wr p.ty);have YB:=aa (XR.o.trans XB.o);have YB2:=aa (HX.o.trans XB.o);have g2:=XB.o.cell c2;have g3:=XB.o.cell c3;have r0:=XB.o.cell q0;have jd:w.heap.size<WB.heap.size:=by have:=XB.o.size;omega
     have hgb:b<WB.heap.size:=by have:=XB.o.size;omega
     go_upto_region 7 with fail;rw[←zW];clear zW c2 c3 q0 q1 q2 q3 hbl hb;have t0:=BT.o.c0;have t1:=BT.o.c1;have t2:=BT.o.c2;have QU:=BT.o.lt;have R6:ahg (D=(cd p.cls&&p.ty.aq == []&&decide (p.ty.args.length=0)&&decide (0≤p.ty.var)&&decide (p.ty.var<n))):=aa (by
      rw[Cf.o]
      congr 3
      cases p.ty.args<;>simp)
     clear Cf BT;have Cf:=R6;clear R6;generalize p.ty.args.length=L at *;go_wp2_with fail;refine(HN.o WB).mono ?_;rintro e w2 ⟨rfl,rfl⟩;cases h1:cd p.cls
     ·have hD:D=false:=by rw[Cf.o];simp[h1]
      have hR:=ma.o hD;clear ma lQ mn Cf;subst hR;go_wp2;go_ret;exact⟨rfl,YB.o⟩
     ·cases h2:(p.ty.aq == ([]:aj))
      ·have Mk:(p.ty.aq != ([]:aj))=true:=by rw[bne,h2];rfl
       have hD:D=false:=by rw[Cf.o];simp[h2]
       have hR:=ma.o hD;clear ma lQ mn Cf;subst hR;go_wp2;go_ret;exact⟨rfl,YB.o⟩
      ·have Mk:(p.ty.aq != ([]:aj))=false:=by rw[bne,h2];rfl
       by_cases h3:(0:Int)<(L:Int)
       ·have hD:D=false:=by
         rw[Cf.o];have:¬L=0:=by omega
         simp[this]
        have hR:=ma.o hD;clear ma lQ mn Cf;subst hR;go_wp2;go_ret;exact⟨rfl,YB.o⟩
       ·have Mt:(L:Int)≤0:=by omega
        have h3e:L=0:=by omega
        have Cg:ahg (D=(decide (0≤p.ty.var)&&decide (p.ty.var<n))):=aa (by rw[Cf.o,h1,h2,decide_eq_true h3e];simp);clear Cf h3e
        by_cases h4:p.ty.var<0
        ·have hD:D=false:=by rw[Cg.o];simp;omega
         have hR:=ma.o hD;clear ma lQ mn Cg;subst hR;go_wp2;go_ret;exact⟨rfl,YB.o⟩
        ·have h4':(0:Int)≤p.ty.var:=by omega
         by_cases h5:n≤p.ty.var
         ·have hD:D=false:=by rw[Cg.o];simp;omega
          have hR:=ma.o hD;clear ma lQ mn Cg;subst hR;go_wp2;go_ret;exact⟨rfl,YB.o⟩
         ·have h5':p.ty.var<n:=by omega
          have hD:D=true:=by rw[Cg.o];simp;omega
          have Oc:=aa (mn.o hD);clear ma mn Cg;go_wp2;go_roundw
          case rel=>exact⟨k+1,hlt,by go_num,YB2,Oc⟩
          case measure=>simp[intOf];omega
    ·have bU:¬(k:Int)<(preds.length:Int):=by omega
     have hR:R=true:=by
      rw[lQ.o,ahA];intro y hy;obtain⟨i,hi,rfl⟩:=List.getElem_of_mem hy;exact HJ.o i hi (by omega)
     clear lQ;subst hR;go_wp2;go_ret;exact⟨rfl,XR.o⟩
set_option maxRecDepth 512
set_option maxHeartbeats 200000
end Go.Proofs.YtigafbmabjglfaaGreatDoor
