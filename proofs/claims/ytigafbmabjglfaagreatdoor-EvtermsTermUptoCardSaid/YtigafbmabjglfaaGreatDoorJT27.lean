import Derived.Test.YtigafbmabjglfaaGreatDoorJT26
namespace Go.Proofs.YtigafbmabjglfaaGreatDoor
open Go.RowKit
theorem Da {l:List dR}{a b:aj}{p:List Nat}(h:cR l a b=some p):p.length<l.length:=by
 unfold cR at h
 split at h
 ·obtain⟨n,hn,h2⟩:=List.exists_of_findSome?_eq_some h;have:=(tB l b n a p h2).1;have hm:=List.mem_range.1 hn;omega
 ·cases h
theorem kr {w:World}{b:Nat}(h:w.heap[b]?=some (.cells #[.int .i64 0,.int .i64 0,.slice none 0 0,.slice none 0 0] 34)):w.cell? ⟨b,0,none⟩=some (.int .i64 0)∧w.cell? ⟨b,1,none⟩=some (.int .i64 0)∧w.cell? ⟨b,2,none⟩=some (.slice none 0 0)∧w.cell? ⟨b,3,none⟩=some (.slice none 0 0)∧w.frozen? ⟨b,0,none⟩=false∧w.frozen? ⟨b,1,none⟩=false∧w.frozen? ⟨b,2,none⟩=false∧w.frozen? ⟨b,3,none⟩=false:=by
 refine⟨?_,?_,?_,?_,?_,?_,?_,?_⟩<;>simp[World.cell?,World.frozen?,h]
def ei (w:World) (b:Nat) (t:Pf):World:=
 (((w.setCell ⟨b,0,none⟩ (.int .i64 t.kind)).setCell ⟨b,1,none⟩ (.int .i64 t.n)).setCell ⟨b,2,none⟩ (.slice t.T t.types.length t.tc)).setCell ⟨b,3,none⟩ (.slice t.A t.kids.length t.cap)
theorem fQ (w:World) (b:Nat) (t:Pf):w.grownBy (ei w b t) (some b):=
 aR (aR (aR (aK _ _ _ _) (aK _ _ _ _)) (aK _ _ _ _)) (aK _ _ _ _)
theorem cz {w W:World}{b:Nat}(x:Ext w W) (h:w.heap.size≤b) (t:Pf):Ext w (ei W b t):=(((x.setCell h _).setCell h _).setCell h _).setCell h _
theorem kT {w:World}{b:Nat}{t:Pf}(h:aO w b t) (u:Pf):aO (ei w b u) b u:=by
 have h1:=aw (aw (aw (aw h 0 (.int .i64 u.kind)) 1 (.int .i64 u.n)) 2 (.slice u.T u.types.length u.tc)) 3 (.slice u.A u.kids.length u.cap);unfold aO ei;rw[h1];simp
theorem kt {W:World}{b k:Nat}(a:Pf) (h:k≠b):(ei W b a).heap[k]?=W.heap[k]?:=by
 unfold ei;rw[Below.heap_setCell _ _ _ _ h,Below.heap_setCell _ _ _ _ h,Below.heap_setCell _ _ _ _ h,Below.heap_setCell _ _ _ _ h]
theorem wj.set {w w1:World}{x:Pf.Pure}{u:Pf}(h:wj w w1 x u){b:Nat}(hb:aL b u) (a:Pf):wj w (ei w1 b a) x u:=
 ⟨h.iM.grown (fQ w1 b a) (fun c e=>by injection e with e;subst e;exact hb),h.is,h.away⟩
def GV (k:Nat):Pf:=.mk 1 k none 0 [] none 0 []
theorem GW (w w':World) (k:Nat):wj w w' (dV k []) (GV k):=
 ⟨.mk ⟨ahj _,by show 0≤9223372036854775807;omega,ahj _,by show 0≤9223372036854775807;omega,bF.nil _ _,ak.nil _ _ _⟩ (by intro k hk;cases hk),by rw[Pf.aG];rfl,
  fun c _=>.mk (fun h=>absurd rfl h) (by intro x hx;cases hx) (fun h=>absurd rfl h) (by intro x hx;cases hx)⟩
theorem zn (c k:Nat):aL c (GV k):=.mk (fun h=>absurd rfl h) (by intro x hx;cases hx) (fun h=>absurd rfl h) (by intro x hx;cases hx)
def xk (n g:Nat) (y:Pf):Pf:=.mk 2 n none 0 [] (some ⟨g,0,none⟩) 1 [y]
theorem LB {w w1 w2:World}{k:Nat}{l:List Nat}{n g:Nat}{y:Pf}(h:wj w w1 (dV k l) y) (hs:w.heap.size≤w1.heap.size) (hg:g=w1.heap.size) (e:Ext w1 w2) (d:w2.heap[g]?=some (.cells #[.int .i64 y.kind,.int .i64 y.n,.slice y.T y.types.length y.tc,.slice y.A y.kids.length y.cap] 34 (0,0))) :
  wj w w2 (dV k (l++[n])) (xk n g y):=by
 subst hg;refine⟨.mk ⟨ahj _,by show 0≤9223372036854775807;omega,ahi _,by show 1≤9223372036854775807;omega,bF.nil _ _,ak.block pg [y] d⟩ (fun x hx => ?_),?_,fun c hc=>.mk (fun h=>absurd rfl h) (by intro x hx;cases hx) (fun _ a e => ?_) (fun x hx => ?_)⟩
 ·have hx:x∈[y]:=hx;rw[ahx] at hx;subst hx;exact h.iM.ext e
 ·rw[nX,Pf.aG];show Pf.Pure.mk 2 n [] [y.pure]=_;rw[h.is]
 ·injection e with e;subst e;show w1.heap.size≠c;omega
 ·have hx:x∈[y]:=hx;rw[ahx] at hx;subst hx;exact h.away c hc
theorem zo (k:Nat):∀(n:Nat) (l:List Nat),l.length=n→∀u:Pf,u.pure=dV k l→u.size=l.length+1:=by
 intro n
 induction n with
 |zero=>
  intro l hn u h;rw[List.length_eq_zero_iff] at hn;subst hn;rw[Pf.aG] at h;injection h with _ _ _ h;have h:u.kids.map Pf.pure=[]:=h;rw[List.map_eq_nil_iff] at h;rw[Pf.size_eq,h];rfl
 |succ m ih=>
  intro l hn u h
  rcases List.eq_nil_or_concat l with rfl|⟨l,n,rfl⟩
  ·cases hn
  rw[List.concat_eq_append] at h hn ⊢;rw[nX,Pf.aG] at h;injection h with _ _ _ h;obtain⟨y,hy,hp⟩:∃y,u.kids=[y]∧y.pure=dV k l:=by
   cases hk:u.kids with
   |nil=>rw[hk] at h;cases h
   |cons y r=>
    rw[hk] at h;cases r with
    |nil=>exact⟨y,rfl,by simpa using h⟩
    |cons z r=>simp at h
  rw[Pf.size_eq,hy];show([y].map Pf.size).sum+1=_;have:=ih l (by simpa using hn) y hp;simp[this]
theorem iq {α:Type}{P:α→Prop}{x:α}(h:P x):∀y∈[x],P y:=fun y hy=>by simp at hy;subst hy;exact h
structure TD (w w':World) (O:Option (Nat×List Nat)) (u:Pf):Prop where
 yes:∀i path,O=some (i,path)→wj w w' (dV i path) u∧path.length≤9
 no:O=none→u=Pf.zero
set_option maxRecDepth 10000
set_option maxHeartbeats 8000000
theorem GX (x:dz) (G:Option Addr) (gc:Nat) (given:List Pd) (p:Pd) (w:World) (he:dX w x) (hg:bA w G given) (hp:eV w p) (jd:given.length≤1000000) (TE:x.ag.length≤9) (Nx:∀c∈x.ag,c.cM.length≤9) :
  Calls Tryz.prog 143 #[eX x,.slice G given.length gc,jC p] w fun e w'=>(∃u,e=.returned (.tuple #[cr u,.bool (qI x.ag given p.cls p.ty.pure).isSome])∧TD w w' (qI x.ag given p.cls p.ty.pure) u)∧Ext w w':=by
 obtain⟨W,hW⟩:∃W,W=((w.alloc (.cells #[.slice x.D x.aA.length x.dc,.slice x.C x.ag.length x.cc,.slice x.I x.insts.length x.ic] 26)).alloc (.cells #[encStr p.cls,encStr p.ty.aq,.int .i64 p.ty.var,.slice p.ty.A p.ty.args.length p.ty.cap] 55)).alloc (.cells #[.int .i64 0,.int .i64 0,.slice none 0 0,.slice none 0 0] 34):=⟨_,rfl⟩;have HW:=aa hW.symm;have X0:ahg (Ext w W):=aa (by rw[hW];exact(((eR _).alloc _).alloc _).alloc _);have B1:ahg (aJ W w.heap.size x):=aa (by rw[hW];exact(aJ.new w x).ext (((eR _).alloc _).alloc _));have B2:ahg (aY W (w.heap.size+1) p):=aa (by rw[hW];exact aY.ext (ah _ _ _ (by simp)) ((eR _).alloc _));have B3:ahg (W.heap[w.heap.size+2]?=some (.cells #[.int .i64 0,.int .i64 0,.slice none 0 0,.slice none 0 0] 34)):=aa (by rw[hW];exact ah _ _ _ (by simp));have bS:ahg (W.heap.size=w.heap.size+3):=aa (by rw[hW];simp);have HG:=aa (hg.ext X0.o);have HT:=aa (hp.ty.ext X0.o);have HC:=aa (qH (he.ag.ext X0.o));have H9:ahg ((x.ag.map fP).length≤9∧∀c∈x.ag.map fP,c.sup.length≤9):=aa ⟨by simpa using TE,fun c hc=>by
  obtain⟨k,hk,rfl⟩:=List.mem_map.1 hc;exact Nx k hk⟩
 have HR:ahg (dC (rO x.ag p.cls p.ty.pure) 0 (given.drop 0)=qI x.ag given p.cls p.ty.pure):=aa (by rw[List.drop_zero];rfl);have lV:ahg (∀q:Pd,∀path,rO x.ag p.cls p.ty.pure q=some path→path.length≤9):=aa (fun q path h=>by
  unfold rO at h
  split at h
  ·have:=Da h;rw[List.length_map] at this;omega
  ·cases h)
 clear hW he hg hp TE Nx;unfold eX jC;generalize qI x.ag given p.cls p.ty.pure=Vw at *;go_enter Tryz.func143,Tryz.ntmps143;go_upto_region 1 with fail;rw[HW.o];clear HW;go_wp2
 go_loopw [17] (fun i wr=>∃k:Nat,k≤given.length∧i=.int .i64 k∧ahg (dC (rO x.ag p.cls p.ty.pure) k (given.drop k)=Vw)∧ahg (Ext W wr)) (fun i _=>given.length - (intOf i).toNat)
 case atStart=>exact⟨0,ahj _,rfl,HR,aa (eR _)⟩
 case round=>
  obtain⟨k,hk,rfl,HF,HX⟩:=hrel
  by_cases hlt:k<given.length
  ·have aS:(k:Int)<(given.length:Int):=by omega
   have dy:(0:Int)≤(k:Int):=by omega
   obtain⟨b,o,rfl,hb,q0,q1,q2,q3⟩:=(HG.o.ext HX.o).at_ hlt;have hqi:=HG.o.all _ (ahh hlt);have LC:=aa (fun path (h:rO x.ag p.cls p.ty.pure (given[k]'hlt)=some path)=>xf hlt h);have qR:=aa (fun(h:rO x.ag p.cls p.ty.pure (given[k]'hlt)=none)=>(zl hlt h).symm.trans HF.o);have VC:=aa (lV.o (given[k]'hlt));have HE:ahg (rO x.ag p.cls p.ty.pure (given[k]'hlt)=if bL (given[k]'hlt).ty p.ty=true then cR (x.ag.map fP) (given[k]'hlt).cls p.cls else none):=aa rfl;have HS:=aa (fun w' (e:Ext W w')=>aa (DU (given[k]'hlt).ty p.ty w' (hqi.ty.ext e) (HT.o.ext e)));have HP:=aa (fun w' (e:Ext W w')=>aa (GU x.C x.cc (x.ag.map fP) (given[k]'hlt).cls p.cls w' (HC.o.ext e) H9.o.1 H9.o.2));generalize given[k]'hlt=q at *;generalize rO x.ag p.cls p.ty.pure q=YM at *;obtain⟨n0,e0,e1,e2,e3⟩:=ahk ((B2.o.ext HX.o).lt) ((B2.o.ext HX.o).cells);obtain⟨m0,d0,d1,d2⟩:=ahk ((B1.o.ext HX.o).lt) ((B1.o.ext HX.o).cells);unfold bh at HS;rw[List.length_map] at HP;clear hqi;go_wp2_with fail;refine(HS.o _ (HX.o.alloc _)).o.mono ?_;rintro e w2 ⟨rfl,hx⟩;have X2:=aa (((eR wr).alloc (.cells #[encStr q.cls,encStr q.ty.aq,.int .i64 q.ty.var,.slice q.ty.A q.ty.args.length q.ty.cap] 55)).trans hx);have XX:=aa (HX.o.trans X2.o);have C2:ahg (aY w2 wr.heap.size q):=aa ((aY.new wr q).ext hx);clear hx HS q0 q1 q2 q3 hb n0 e0 e1 e2 e3 m0 d0 d1 d2;cases hs:bL q.ty p.ty
   ·have hn:YM=none:=by rw[HE.o,hs];rfl
    have YN:=aa (qR.o hn);clear LC qR HE HP VC C2;go_wp2;go_roundw
    case rel=>exact⟨k+1,hlt,by go_num,YN,XX⟩
    case measure=>simp[intOf];omega
   ·have xH:ahg (YM=cR (x.ag.map fP) q.cls p.cls):=aa (by rw[HE.o,hs];rfl);clear HE;obtain⟨n0,e0,e1,e2,e3⟩:=ahk ((B2.o.ext XX.o).lt) ((B2.o.ext XX.o).cells);obtain⟨m0,d0,d1,d2⟩:=ahk ((B1.o.ext XX.o).lt) ((B1.o.ext XX.o).cells);obtain⟨l0,c0,c1,c2,c3⟩:=ahk C2.o.lt C2.o.cells;go_wp2_with fail;refine(HP.o _ XX.o).o.mono ?_;rintro e w5 ⟨⟨A',cap',rfl,a1,a2,HI⟩,jB⟩;have X5:=aa (XX.o.trans jB);have HI:=aa HI;rw[←xH.o] at *;clear jB HP xH n0 e0 e1 e2 e3 m0 d0 d1 d2 l0 c0 c1 c2 c3 C2 X2 XX;cases YM with
    |none=>
     have YN:=aa (qR.o rfl);clear LC qR VC HI;go_wp2;go_roundw
     case rel=>exact⟨k+1,hlt,by go_num,YN,X5⟩
     case measure=>simp[intOf];omega
    |some path=>
     have O7:Vw=some (k,path):=HF.o.symm.trans (LC.o path rfl);have TE:=VC.o path rfl;clear LC qR VC HF HR;subst O7;have B5:ahg (w5.heap[w.heap.size+2]?=some (.cells #[.int .i64 0,.int .i64 0,.slice none 0 0,.slice none 0 0] 34)):=aa ((X5.o.heap (ae B3.o)).trans B3.o);have hs5:=X5.o.size;have Js:(gO (some path)).length=path.length:=by unfold gO;simp
     have xM:ahg (∀(j:Nat) (h:j<path.length),∃b o,A'=some ⟨b,o,none⟩∧b<w5.heap.size∧w5.cell? ⟨b,o+j,none⟩=some (.int .i64 ((path[j]'h:Nat):Int))):=aa (fun j h=>by
      obtain⟨b,o,e1,e2,e3⟩:=HI.o.at_ (i:=j) (by rw[Js];exact h);refine⟨b,o,e1,e2,e3.trans ?_⟩
      congr 2
      unfold gO;simp)
     rw[Js] at a1;rw[Js];clear Js HI;have hF5:=X5.o.size;go_wp2
     go_loopw [44] (fun i wr=>∃(j:Nat) (y:Pf),j≤path.length∧i=.int .i64 j∧ahg (aO wr w5.heap.size y)∧ahg (wj W wr (dV k (path.take j)) y)∧ahg (aL w5.heap.size y)∧ahg (Ext w5 wr)) (fun i _=>path.length - (intOf i).toNat)
     case atStart=>exact⟨0,GV k,ahj _,rfl,aa (ah _ _ _ rfl),aa (GW _ _ k),aa (zn _ _),aa ((eR _).alloc _)⟩
     case round=>
      obtain⟨j,y,hj,rfl,HB,Fg,HA,HX⟩:=hrel;have hlw:=HB.o.lt
      by_cases fo:j<path.length
      ·have Tk:(j:Int)<(path.length:Int):=by omega
       have q8:(0:Int)≤(j:Int):=by omega
       obtain⟨b6,o6,rfl,Pa,p0⟩:=xM.o j fo;have p1:=HX.o.cell p0;have Bp:b6<wr.heap.size:=by have:=HX.o.size;omega
       have cS:ahg (path.take (j+1)=path.take j++[path[j]'fo]):=aa (ahl fo);generalize path[j]'fo=n at *;obtain⟨y0,y1,y2,y3⟩:=HB.o.cells;have dY:=HB.o.free 0;have dZ:=HB.o.free 1;have ee:=HB.o.free 2;have eh:=HB.o.free 3;clear p0;have gy:=aa (((kT HB.o (xk n wr.heap.size y)).ext ((eR _).alloc (.cells #[.int .i64 y.kind,.int .i64 y.n,.slice y.T y.types.length y.tc,.slice y.A y.kids.length y.cap] 34))));have OC:ahg (wj W ((ei wr w5.heap.size (xk n wr.heap.size y)).alloc (.cells #[.int .i64 y.kind,.int .i64 y.n,.slice y.T y.types.length y.tc,.slice y.A y.kids.length y.cap] 34)) (dV k (path.take (j+1))) (xk n wr.heap.size y)):=aa (by
        have hsz:(ei wr w5.heap.size (xk n wr.heap.size y)).heap.size=wr.heap.size:=by simp[ei,World.setCell]
        rw[cS.o];exact LB (Fg.o.set HA.o _) (by rw[hsz];have:=HX.o.size;omega) hsz.symm ((eR _).alloc _) (ah _ _ _ hsz.symm))
       have Qr:ahg (aL w5.heap.size (xk n wr.heap.size y)):=aa (.mk (fun h=>absurd rfl h) (by intro x hx;cases hx) (fun _ a e=>by injection e with e;subst e;show wr.heap.size≠w5.heap.size;omega) (iq HA.o));have qZ:ahg (Ext w5 ((ei wr w5.heap.size (xk n wr.heap.size y)).alloc (.cells #[.int .i64 y.kind,.int .i64 y.n,.slice y.T y.types.length y.tc,.slice y.A y.kids.length y.cap] 34))):=aa ((cz HX.o (ahi _) _).alloc _);go_wp2;go_roundw
       case rel=>exact⟨j+1,xk n wr.heap.size y,fo,by go_num,gy,OC,Qr,qZ⟩
       case measure=>simp[intOf];omega
      ·have bU:¬(j:Int)<(path.length:Int):=by omega
       have B6:ahg (wr.heap[w.heap.size+2]?=some (.cells #[.int .i64 0,.int .i64 0,.slice none 0 0,.slice none 0 0] 34)):=aa ((HX.o.heap (ae B5.o)).trans B5.o);have OA:ahg (wj W wr (dV k path) y):=aa (by have:=Fg.o;rwa [ahm (by omega)] at this);have HCw:ahg (wj w (ei wr (w.heap.size+2) y) (dV k path) y):=aa ((OA.o.set (OA.o.away _ (by have:=bS.o;omega)) y).old X0.o.size);obtain⟨y0,y1,y2,y3⟩:=HB.o.cells;obtain⟨z0,z1,z2,z3,iE,iF,iG,iH⟩:=kr B6.o;have hz:=ae B6.o;have XF:=aa (cz (X0.o.trans (X5.o.trans HX.o)) (by omega:w.heap.size≤w.heap.size+2) y);clear Fg OA HA HX bU B5 hF5 hs5;go_wp2;refine bodyPost_ret (v:=.tuple #[cr y,.bool true]) ?_ rfl ⟨⟨y,rfl,⟨fun i abh h=>(by injection h with h;injection h with h1 h2;subst h1 h2;exact⟨HCw.o,TE⟩),fun h=>(by cases h)⟩⟩,XF.o⟩;simp[results,Tryz.f143,go_sem,z0,z1,z2,z3,cr]
  ·have bU:¬(k:Int)<(given.length:Int):=by omega
   have O7:Vw=none:=by rw[←HF.o,xg (by omega)]
   clear HF HR;subst O7;obtain⟨y0,y1,y2,y3,dY,dZ,ee,eh⟩:=kr ((HX.o.heap (ae B3.o)).trans B3.o);have hy:=ae ((HX.o.heap (ae B3.o)).trans B3.o);go_wp2;refine bodyPost_ret (v:=.tuple #[cr Pf.zero,.bool false]) ?_ rfl ⟨⟨Pf.zero,rfl,⟨fun i path h=>(by cases h),fun _=>rfl⟩⟩,?_⟩
   ·simp[results,Tryz.f143,go_sem,y0,y1,y2,y3,cr,Pf.zero,Pf.kind,Pf.n,Pf.T,Pf.tc,Pf.types,Pf.A,Pf.cap,Pf.kids]
   ·exact ar (X0.o.trans HX.o) (by omega) _ _ _ _
set_option maxRecDepth 512
set_option maxHeartbeats 200000
open Go.Shelf
structure gY (types:List Ty) (k:Nat) (s:List Pr):Prop where
 iK:fG s
 len:s.length=k
 at_:∀x:Int,(putAt (br s) (bz s) x).map Ty.pure=if 0≤x∧x<(k:Int) then(types[x.toNat]?).map Ty.pure else none
theorem gY.zero (types:List Ty):gY types 0 []:=⟨List.Pairwise.nil,rfl,fun x=>by rw[if_neg (by omega)];rfl⟩
theorem gY.Ky {types:List Ty}{k:Nat}{s:List Pr}(h:gY types k s):putAt (br s) (bz s) (k:Int)=none:=by
 have:=h.at_ (k:Int);rw[if_neg (by omega)] at this;simpa using this
theorem gY.no {types:List Ty}{k:Nat}{s:List Pr}(h:gY types k s){i:Nat}(hl:uY s (k:Int) i):dF s (k:Int) i=false:=by
 have h1:=se h.iK hl;rw[h.Ky] at h1;cases e:dF s (k:Int) i
 ·rfl
 ·exact absurd (h1.1 e) (by simp)
theorem gY.step {types:List Ty}{k:Nat}{s:List Pr}(h:gY types k s) (hk:k<types.length){i:Nat}(hl:uY s (k:Int) i){t:Ty}(ht:t.pure=(types[k]'hk).pure):gY types (k+1) (cC s i (k:Int) t):=by
 have hn:=h.no hl;refine⟨kD h.iK hl hn,by rw[jY hl.le,h.len],fun x => ?_⟩;rw[JL h.iK hl hn]
 by_cases e:x=(k:Int)
 ·subst e;rw[if_pos rfl,if_pos (by omega)];simp[hk,ht]
 ·rw[if_neg e,h.at_]
  by_cases e2:0≤x∧x<(k:Int)
  ·rw[if_pos e2,if_pos (by omega)]
  ·rw[if_neg e2,if_neg (by omega)]
theorem gY.vy {types:List Ty}{k:Nat}{s:List Pr}(h:gY types k s) (ht:∀t∈types,az t=true):∀p∈s,az p.ty=true:=by
 intro p hp;have h1:putAt (br s) (bz s) p.v=some p.ty:=(dG h.iK).2 ⟨p,hp,rfl,rfl⟩;have h2:=h.at_ p.v;rw[h1] at h2
 split at h2
 ·cases e:types[p.v.toNat]? with
  |none=>rw[e] at h2;cases h2
  |some u=>
   rw[e] at h2;have h2:p.ty.pure=u.pure:=by simpa using h2
   rw[fw h2];exact ht u (List.mem_of_getElem? e)
 ·cases h2
theorem gY.var {types:List Ty}{s:List Pr}(h:gY types types.length s){v:Nat}(hv:v<types.length):∃u,putAt (br s) (bz s) (v:Int)=some u∧u.pure=(types[v]'hv).pure:=by
 have h2:=h.at_ (v:Int);rw[if_pos (by omega)] at h2;simp only[Int.toNat_natCast,ahw hv,Option.map_some] at h2;cases e:putAt (br s) (bz s) (v:Int) with
 |none=>rw[e] at h2;cases h2
 |some u=>rw[e] at h2;exact⟨u,rfl,by simpa using h2⟩
theorem gY.Od {types:List Ty}{n:Int}{s:List Pr}(h:gY types types.length s) (hn:n≤types.length) (ht:∀t∈types,az t=true){preds:List Pd}(hp:∀p∈preds,bf n p=true):uk s preds:=by
 intro p Oe;obtain⟨v,A,c,e,hv⟩:=fA (hp p Oe);have nc:v<types.length:=by omega
 obtain⟨u,hat,hu⟩:=h.var nc;obtain⟨l1,l2,-⟩:=aW ((fw hu).trans (ht _ (ahh nc)));rw[e];refine⟨nj _ _ _,?_,?_⟩
 ·rw[jn,if_pos (show(Ty.mk [] (v:Int) A c []).aq=[] from rfl)];show(match putAt (br s) (bz s) (v:Int) with|some u=>u.size|none=>1)≤4096;rw[hat];exact l1
 ·rw[lH,if_pos (show(Ty.mk [] (v:Int) A c []).aq=[] from rfl)];show(match putAt (br s) (bz s) (v:Int) with|some u=>u.depth|none=>1)≤100;rw[hat];exact l2
theorem gY.Fy {types:List Ty}{n:Int}{s:List Pr}(h:gY types types.length s) (hn:n≤types.length){preds:List Pd}(hp:∀p∈preds,bf n p=true) :
  (preds.map fun x=>(x.cls,fF (br s) (bz s) x.ty))=preds.map fun p=>(p.cls,(types.map Ty.pure).getD p.ty.var.toNat (.mk [] 0 [])):=by
 refine List.map_congr_left fun p Oe => ?_
 obtain⟨v,A,c,e,hv⟩:=fA (hp p Oe);have nc:v<types.length:=by omega
 obtain⟨u,hat,hu⟩:=h.var nc;rw[e]
 congr 1
 rw[ek,if_pos (show(Ty.mk [] (v:Int) A c []).aq=[] from rfl)];show((putAt (br s) (bz s) (v:Int)).getD _).pure=(types.map Ty.pure).getD (v:Int).toNat _;rw[hat,Int.toNat_natCast];simp[nc,hu]
theorem gY.from_ {types:List Ty}{n:Int}{s:List Pr}(h:gY types types.length s) (hn:n≤types.length){preds ds:List Pd}(hp:∀p∈preds,bf n p=true) (hd:ds.map (fun d=>(d.cls,d.ty.pure))=preds.map fun x=>(x.cls,fF (br s) (bz s) x.ty)) :
  ∀d∈ds,∃a∈types,d.ty.pure=a.pure:=by
 intro d hdm;have hm:(d.cls,d.ty.pure)∈preds.map fun x=>(x.cls,fF (br s) (bz s) x.ty):=hd▸List.mem_map.2 ⟨d,hdm,rfl⟩
 obtain⟨p,Oe,e⟩:=List.mem_map.1 hm;injection e with _ e2;obtain⟨v,A,c,e,hv⟩:=fA (hp p Oe);have nc:v<types.length:=by omega
 obtain⟨u,hat,hu⟩:=h.var nc;refine⟨_,ahh nc,?_⟩;rw[←e2,e,ek,if_pos (show(Ty.mk [] (v:Int) A c []).aq=[] from rfl)];show((putAt (br s) (bz s) (v:Int)).getD _).pure=_;rw[hat];exact hu
theorem tF {t k:Ty}(h:az t=true) (hk:k∈t.args):az k=true:=by
 obtain⟨h1,h2,h3⟩:=aW h;have a1:=Ty.bG hk;have a2:k.depth≤t.depth:=by
  rw[Ty.aN t];have:∀l:List Ty,k∈l→k.depth≤(l.map Ty.depth).foldr max 0:=by
   intro l
   induction l with
   |nil=>intro h;cases h
   |cons x l ih=>
    intro h;rw[List.map_cons,List.foldr_cons]
    rcases List.mem_cons.1 h with rfl|h
    ·omega
    ·have:=ih h;omega
  have:=this _ hk;omega
 rw[cL,ahv,ahA] at h3;unfold az;simp only[ahv,decide_eq_true_eq];exact⟨⟨by omega,by omega⟩,h3.2 _ hk⟩
structure GY (w w':World) (args:List Ty) (O:Option (Nat×List (aj×Ty.Pure))) (i:Int) (A:Option Addr) (c:Nat) (ds:List Pd):Prop where
 len:ds.length≤40000
 args:∀d∈ds,∃a∈args,d.ty.pure=a.pure
 yes:∀k wants,O=some (k,wants)→i=(k:Int)∧ds.map (fun d=>(d.cls,d.ty.pure))=wants
 iM:bA w' A ds
 le:ds.length≤c
 max:c≤9223372036854775807
 away:∀d∈ds,∀c,c<w.heap.size→aF c d.ty=true
theorem xl {ins:List cX}{c:aj}{t:Ty}(h:iX ins c t.aq=none):Ju ins c t.pure=none:=by
 rw[Ty.aG];simp only[Ju,h]
theorem GZ {ins:List cX}{c:aj}{t:Ty}{i:Nat}(h:iX ins c t.aq=some i) (hi:i<ins.length):Ju ins c t.pure=if t.aq=[]∨(ins[i]'hi).n≠(t.args.length:Int) then none else some (i,(ins[i]'hi).preds.map fun p=>(p.cls,(t.args.map Ty.pure).getD p.ty.var.toNat (.mk [] 0 []))):=by
 rw[Ty.aG];simp only[Ju,h,ahw hi,List.length_map]
set_option maxRecDepth 10000
set_option maxHeartbeats 8000000
theorem YO (I:Option Addr) (ic:Nat) (ins:List cX) (p:Pd) (w:World) (hI:jD w I ins) (hp:eV w p) (j8:az p.ty=true) (bP:∀x∈ins,bN x=true) (hlen:ins.length≤1000000) (hpl:∀x∈ins,x.preds.length≤40000) :
  Calls Tryz.prog 145 #[.slice I ins.length ic,jC p] w fun e w'=>(∃i A c ds,e=.returned (.tuple #[.int .i64 i,.slice A (List.length ds) c,.bool (Ju ins p.cls p.ty.pure).isSome])∧GY w w' p.ty.args (Ju ins p.cls p.ty.pure) i A c ds)∧Ext w w':=by
 obtain⟨W,hW⟩:∃W,W=w.alloc (.cells #[encStr p.cls,encStr p.ty.aq,.int .i64 p.ty.var,.slice p.ty.A p.ty.args.length p.ty.cap] 55):=⟨_,rfl⟩;have HW:=aa hW.symm;have X0:ahg (Ext w W):=aa (by rw[hW];exact(eR _).alloc _);have B2:ahg (aY W w.heap.size p):=aa (by rw[hW];exact aY.new w p);have HF:=aa (OX I ic ins p.cls p.ty.aq W (hI.ext X0.o) (by omega));have HI:=aa (hI.ext X0.o);have HT:=aa (hp.ty.ext X0.o);have G0:ahg (∀w' i,GY w w' p.ty.args none i none 0 []):=aa (fun w' i=>⟨by simp,by simp,fun k wants h=>(by cases h),⟨ak.nil _ _ _,by simp⟩,ahi _,by omega,by simp⟩);clear hW hp hI;obtain⟨e0,e1,e2,e3⟩:=B2.o.cells;have n0:=B2.o.lt;have Hl:=aa j8;clear j8;cases hf:iX ins p.cls p.ty.aq with
 |none=>
  rw[xl hf];rw[hf] at HF;clear hf bP hpl;unfold jC;go_enter Tryz.func145,Tryz.ntmps145;go_upto_region 1 with fail;rw[HW.o];go_wp2_with fail;refine HF.o.mono ?_;rintro e w2 ⟨rfl,hx⟩;have X2:=aa hx;obtain⟨e0,e1,e2,e3⟩:=(B2.o.ext X2.o).cells;have n0:=(B2.o.ext X2.o).lt;clear hx HF;go_wp2
  go_quiet (fail)
  go_wp2;go_ret3;exact⟨⟨0,none,0,[],rfl,G0.o _ _⟩,X0.o.trans (X2.o.drewN _)⟩
 |some i=>
  obtain⟨hi,-,-⟩:=Lu hf;rw[GZ hf hi];rw[hf] at HF;have Hx:=aa (bP _ (ahh hi));have Hxp:=aa (hpl _ (ahh hi));have Hxi:=aa (HI.o.all _ (ahh hi));obtain⟨b,o,rfl,hb,q0,q1,q2,q3⟩:=HI.o.at_ hi;have hi':(i:Int)<(ins.length:Int):=by omega
  have JZ:(0:Int)≤(i:Int):=by omega
  have lQ:ahg (∀w',Ext W w'→b<w'.heap.size∧w'.cell? ⟨b,o+i*4+2,none⟩=some (.int .i64 (ins[i]'hi).n)∧w'.cell? ⟨b,o+i*4+3,none⟩=some (.slice (ins[i]'hi).A (ins[i]'hi).preds.length (ins[i]'hi).cap)):=aa (fun w' e=>⟨Nat.lt_of_lt_of_le hb e.size,e.cell q2,e.cell q3⟩);clear hf bP hpl q0 q1 q2 q3 hb;generalize ins[i]'hi=x at *;unfold jC
  by_cases hc:p.ty.aq=[]
  ·rw[if_pos (.inl hc)];have hc2:(p.ty.aq == ([]:aj))=true:=by simpa using hc
   clear hc;go_enter Tryz.func145,Tryz.ntmps145;go_upto_region 1 with fail;rw[HW.o];go_wp2_with fail;refine HF.o.mono ?_;rintro e w2 ⟨rfl,hx⟩;have X2:=aa hx;obtain⟨e0,e1,e2,e3⟩:=(B2.o.ext X2.o).cells;have n0:=(B2.o.ext X2.o).lt;clear hx HF;go_wp2
   go_quiet (fail)
   go_wp2;go_ret3;exact⟨⟨0,none,0,[],rfl,G0.o _ _⟩,X0.o.trans (X2.o.drewN _)⟩
  ·have hc2:(p.ty.aq == ([]:aj))=false:=by simpa using hc
   by_cases hn:x.n=(p.ty.args.length:Int)
   ·rw[if_neg (by rintro (h|h);exact hc h;exact h hn)];have oF:(x.n != (p.ty.args.length:Int))=false:=by simp[hn]
    clear hc;have r8:ahg (∀w',Ext W w'→w.heap.size<w'.heap.size∧w'.cell? ⟨w.heap.size,0,none⟩=some (encStr p.cls)∧w'.cell? ⟨w.heap.size,1,none⟩=some (encStr p.ty.aq)∧w'.cell? ⟨w.heap.size,2,none⟩=some (.int .i64 p.ty.var)∧w'.cell? ⟨w.heap.size,3,none⟩=some (.slice p.ty.A p.ty.args.length p.ty.cap)):=aa (fun w' e=>⟨(B2.o.ext e).lt,(B2.o.ext e).cells⟩);have HA:ahg (bF W p.ty.A p.ty.args):=aa HT.o.all;have YP:ahg (∀t∈p.ty.args,az t=true):=aa (fun t ht=>tF Hl.o ht);have TF:ahg (p.ty.args.length≤100∧x.n≤(p.ty.args.length:Int)):=aa (by
     have hh:=Hx.o;unfold bN at hh;rw[ahv] at hh;have:=mv hh.1;omega)
    have VD:ahg (∀y∈x.preds,bf x.n y=true):=aa (by
     have hh:=Hx.o;unfold bN at hh;rw[ahv,ahA] at hh;exact hh.2)
    clear B2 HT Hl Hx e0 e1 e2 e3 n0 hn;generalize p.ty.A=PA at *;generalize p.ty.args=args at *;generalize p.ty.cap=pc at *;generalize p.ty.var=pv at *;generalize p.ty.aq=aeL at *;generalize p.cls=aeM at *;obtain⟨n0,e0,e1,e2,e3⟩:=r8.o W (eR _);go_enter Tryz.func145,Tryz.ntmps145;go_upto_region 1 with fail;rw[HW.o];clear HW;go_wp2_with fail;refine HF.o.mono ?_;rintro e w2 ⟨rfl,hx⟩;have X2:=aa hx;clear hx HF n0 e0 e1 e2 e3;obtain⟨n0,e0,e1,e2,e3⟩:=r8.o _ X2.o;obtain⟨m0,d2,d3⟩:=lQ.o _ X2.o;go_upto_region 2 with fail
    go_quiet (fail)
    go_upto_region 4 with fail;refine bC ?_;intro W3 hW3;have X3:ahg (Ext W W3):=aa (by rw[hW3];exact X2.o.drewN _);clear hW3 X2 n0 e0 e1 e2 e3 m0 d2 d3;obtain⟨n0,e0,e1,e2,e3⟩:=r8.o _ X3.o;have hs3:=X3.o.size;go_wp2_with fail;refine(E6 W3).mono ?_;rintro e w4 ⟨rfl,fT,hx⟩;have Wv:=aa fT;have X4:=aa (X3.o.trans hx);clear hx fT n0 e0 e1 e2 e3;generalize Vq:W3.heap.size=B0 at *;clear Vq X3;obtain⟨n0,e0,e1,e2,e3⟩:=r8.o _ X4.o;go_wp2
    go_loopw [49] (fun i wr=>∃(k:Nat) (s:List Pr) (v:Value),k≤args.length∧i=.int .i64 k∧ahg (ez wr B0 B0 v s)∧ahg (gY args k s)∧ahg (Ext W wr)) (fun i _=>args.length - (intOf i).toNat)
    case atStart=>exact⟨0,[],.slice none 0 0,ahj _,rfl,Wv,aa (gY.zero _),X4⟩
    case round=>
     obtain⟨k,s,v,hk,rfl,HS,HN,HX⟩:=hrel
     by_cases hlt:k<args.length
     ·have aS:(k:Int)<(args.length:Int):=by omega
      have dy:(0:Int)≤(k:Int):=by omega
      obtain⟨b7,o7,rfl,Bp,q0,q1,q2⟩:=(HA.o.ext HX.o).at_ hlt;have hlk:=YP.o _ (ahh hlt);have HC:=aa (fun w' (e:Ext wr w')=>aa (Rl B0 B0 v s (k:Int) (args[k]'hlt) w' (HS.o.ext e) ((HA.o.args _ (ahh hlt)).ext (HX.o.trans e)) (by have:=(aW hlk).1;omega) hlk (by have:=HN.o.len;have:=TF.o.1;omega) (fun i hl=>HN.o.no hl)));have U7:=aa (fun i (hl:uY s (k:Int) i) (t:Ty) (ht:t.pure=(args[k]'hlt).pure)=>HN.o.step hlt hl ht);generalize args[k]'hlt=t at *;unfold bh at HC;have bU:=HS.o.ge;have hsw:=HX.o.size;have abm:=TF.o.1;clear hlk;go_wp2_with fail;refine(HC.o _ ((eR _).alloc _)).o.mono ?_;rintro e w6 ⟨rfl,i6,v6,t6,hl6,ht6,Yi,ha6,-⟩;have HS6:=aa Yi;have HN6:=aa (U7.o i6 hl6 t6 ht6);have X6:ahg (Ext W w6):=aa (Ext.cg ((HX.o.alloc _).below.trans (ha6.below (by simp;omega) hs3 (fun k hk=>aho hs3 (bU k hk)))) (ahi _));clear hl6 ht6 Yi ha6 HC U7 bU q0 q1 q2 Bp;go_wp2;go_roundw
      case rel=>exact⟨k+1,_,v6,hlt,by go_num,HS6,HN6,X6⟩
      case measure=>simp[intOf];omega
     ·have bU:¬(k:Int)<(args.length:Int):=by omega
      have MJ:ahg (gY args args.length s):=aa (by have:=HN.o;rwa [show k=args.length by omega] at this);obtain⟨m0,d2,d3⟩:=lQ.o _ HX.o;obtain⟨SA,sc,rfl,hsi⟩:=HS.o.sub;have HC:=aa (Kn B0 SA sc s x.A x.cap x.preds wr hsi (MJ.o.vy YP.o) ((Hxi.o.row).ext HX.o) Hxp.o (MJ.o.Od TF.o.2 YP.o VD.o));have Hww:=aa (MJ.o.Fy TF.o.2 VD.o);clear hsi;go_wp2_with fail;refine HC.o.mono ?_;rintro e w8 ⟨⟨v,ds,rfl,hown,sN⟩,hx⟩;obtain⟨A9,c9,rfl,l1,l2,hrow,-⟩:=ak.own kC hown;have HX8:=aa (X0.o.trans (HX.o.trans hx));have HR:ahg (bA w8 A9 ds):=aa ⟨hrow,fun d hd=>⟨by
       obtain⟨j,hj,rfl⟩:=List.mem_iff_getElem.1 hd;have h2:j<x.preds.length:=by rw[←sN.len];exact hj
       have e:=congrArg (fun l=>l[j]?) sN.is;simp only[List.getElem?_map,ahw hj,ahw h2,Option.map_some,Option.some.injEq,Prod.mk.injEq] at e;rw[e.1];exact(Hxi.o.row.all _ (ahh h2)).cls,sN.ty d hd⟩⟩
      have HY:ahg (GY w w8 args (some (i,x.preds.map fun y=>(y.cls,(args.map Ty.pure).getD y.ty.var.toNat (.mk [] 0 [])))) (i:Int) A9 c9 ds):=aa ⟨by rw[sN.len];exact Hxp.o,MJ.o.from_ TF.o.2 VD.o sN.is,fun k wants h=>(by injection h with h;injection h with h1 h2;subst h1 h2;exact⟨rfl,sN.is.trans Hww.o⟩),HR.o,l1,l2,fun d hd c hc=>sN.away d hd c (by have:=X0.o.size;have:=HX.o.size;omega) (fun y hy=>by
       obtain⟨v,A,cc,e,-⟩:=fA (VD.o y hy);rw[e];exact dE (fun h=>absurd rfl h) (by intro z hz;cases hz))⟩
      clear hown sN hrow hx HC d2 d3 m0;go_wp2;go_ret3;exact⟨⟨_,A9,c9,ds,rfl,HY.o⟩,HX8.o⟩
   ·rw[if_pos (.inr hn)];have oF:(x.n != (p.ty.args.length:Int))=true:=by simp[hn]
    clear hc hn;go_enter Tryz.func145,Tryz.ntmps145;go_upto_region 1 with fail;rw[HW.o];go_wp2_with fail;refine HF.o.mono ?_;rintro e w2 ⟨rfl,hx⟩;have X2:=aa hx;obtain⟨e0,e1,e2,e3⟩:=(B2.o.ext X2.o).cells;have n0:=(B2.o.ext X2.o).lt;obtain⟨m0,d2,d3⟩:=lQ.o _ X2.o;clear hx HF;go_wp2
    go_quiet (fail)
    go_wp2;go_ret3;exact⟨⟨0,none,0,[],rfl,G0.o _ _⟩,X0.o.trans (X2.o.drewN _)⟩
set_option maxRecDepth 512
set_option maxHeartbeats 200000
def TG (w w':World) (p:Pd) (e:Ending):Except Int (Pf.Pure×Nat)→Prop
 | .ok (Q,n)=>∃u,e=.returned (.tuple #[cr u,.int .i64 (n:Nat)])∧bM w' u∧u.pure=Q∧u.size=n∧n≤4096∧∀c,c<w.heap.size→aF c p.ty=true→aL c u
 | .error k=>e=.panicked [{ v:=.iface 162 (.agg #[.int .i64 k]),recovered:=false }]
def TH (k:Nat) (args:List Ty.Pure):Except Int (List Pf.Pure×Nat)→Except Int (Pf.Pure×Nat)
 | .error e=>.error e
 | .ok (l,n)=>.ok (.mk 3 (k:Int) args l,n)
def YQ (x:dz) (G:Option Addr) (gc:Nat) (given:List Pd) (m:Nat):Prop:=
 ∀(p:Pd) (w:World),dX w x→bA w G given→eV w p→az p.ty=true→p.ty.size≤m →
  Calls Tryz.prog 98 #[eX x,.slice G given.length gc,jC p] w fun e w'=>TG w w' p e (gh x.ag x.insts given m p.cls p.ty.pure)∧Ext w w'
structure G4 (x:dz) (given:List Pd):Prop where
 gl:given.length≤1000000
 l9:x.ag.length≤9
 s9:∀c∈x.ag,c.cM.length≤9
 ok:∀y∈x.insts,bN y=true
 il:x.insts.length≤1000000
 pl:∀y∈x.insts,y.preds.length≤40000
theorem Row.YR {w:World}{b:Nat}{t:TypeId}{fr:Nat×Nat}(x0 x1 x2 x3:Value) (h:w.heap[b]?=some (.cells #[x0,x1,x2,x3] t fr)):Row w (some ⟨b,0,none⟩) 4 1 [x0,x1,x2,x3]:=by
 refine⟨rfl,fun _=>⟨b,0,rfl,ae h,fun j u hu => ?_⟩⟩;rw[Nat.zero_add];simp only[World.cell?,h];simpa using hu
theorem zq (us:List Pf) (y:Pf):(us++[y]).flatMap pg.f=us.flatMap pg.f++[.int .i64 y.kind,.int .i64 y.n,.slice y.T y.types.length y.tc,.slice y.A y.kids.length y.cap]:=by
 rw[List.flatMap_append,List.flatMap_cons,List.flatMap_nil,List.append_nil];rfl
structure LD (wx wr:World) (b N k:Nat) (u:Ty) (us:List Pf) (v:Value):Prop where
 box:wr.heap[b]?=some (.cells #[.int .i64 3,.int .i64 (k:Nat),.slice u.A u.args.length u.cap,v] 34 (0,0))
 own:wr.ownsRow (b+1) 34 4 v us.length (us.flatMap pg.f)
 iM:∀y∈us,bM wr y
 YS:∀y∈us,aL b y
 FI:∀y∈us,∀c,v.ownBlock=some c→aL c y
 away:∀y∈us,∀c,c<N→aL c y
 ext:Ext wx wr
theorem LD.snoc {wx wr w5 w6:World}{b N k:Nat}{u:Ty}{us:List Pf}{v v6:Value}{y:Pf}(h:LD wx wr b N k u us v) (hb:wx.heap.size≤b) (e:Ext wr w5) (hy:bM w5 y) (VE:aL b y) (hyr:∀c,v.ownBlock=some c→aL c y) (hyN:∀c,c<N→aL c y)
  (hown:w6.ownsRow (b+1) 34 4 v6 (us++[y]).length ((us++[y]).flatMap pg.f)) (hg:w5.grownBy w6 v.ownBlock) (hat:v6.ownBlock=v.ownBlock∨∀c,v6.ownBlock=some c→w5.heap.size≤c) :
  LD wx (w6.setCell ⟨b,3,none⟩ v6) b N k u (us++[y]) v6:=by
 have bU:∀c,v.ownBlock=some c→b+1≤c:=fun c hc=>(h.own.lt c hc).1
 have Mr:w5.heap[b]?=_:=(e.heap (ae h.box)).trans h.box;have Pa:w6.heap[b]?=_:=(hg.block b (ae Mr) (fun e=>by have:=bU b e.symm;omega)).trans Mr;have all:∀z∈us++[y],bM w5 z∧aL b z∧(∀c,v.ownBlock=some c→aL c z)∧∀c,c<N→aL c z:=fun z hz=>by
  rcases List.mem_append.1 hz with hz|hz
  ·exact⟨(h.iM z hz).ext e,h.YS z hz,h.FI z hz,h.away z hz⟩
  ·rw[ahx] at hz;subst hz;exact⟨hy,VE,hyr,hyN⟩
 refine⟨?_,hown.kept (aK _ _ _ _) (.inr (fun e=>by have:=(hown.lt _ e).1;omega)),fun z hz => ?_,fun z hz=>(all z hz).2.1,fun z hz c hc => ?_,fun z hz=>(all z hz).2.2.2,?_⟩
 ·rw[aw Pa];simp
 ·obtain⟨a1,a2,a3,-⟩:=all z hz;exact(a1.grown hg a3).grown (aK _ _ _ _) (fun c e=>by injection e with e;subst e;exact a2)
 ·obtain⟨a1,-,a3,-⟩:=all z hz
  rcases hat with h1|h1
  ·exact a3 c (h1▸hc)
  ·exact dm a1 (h1 c hc)
 ·exact((h.ext.trans e).grown hg (fun c hc=>by have:=bU c hc;omega)).setCell (show wx.heap.size≤b from hb) _
theorem Db (us:List Pf) (y:Pf){n m:Nat}(h:(us.map Pf.size).sum+1=n) (hy:y.size=m):((us++[y]).map Pf.size).sum+1=n+m:=by
 rw[ahz,List.sum_append];simp[hy];omega
set_option maxRecDepth 10000
set_option maxHeartbeats 8000000
theorem qJ (x:dz) (G:Option Addr) (gc:Nat) (given:List Pd) (hE:G4 x given) (m:Nat) (ih:YQ x G gc given m):YQ x G gc given (m+1):=by
 intro p w he hg hp j8 hsz;obtain⟨W,hW⟩:∃W,W=((w.alloc (.cells #[.slice x.D x.aA.length x.dc,.slice x.C x.ag.length x.cc,.slice x.I x.insts.length x.ic] 26)).alloc (.cells #[encStr p.cls,encStr p.ty.aq,.int .i64 p.ty.var,.slice p.ty.A p.ty.args.length p.ty.cap] 55)).alloc (.cells #[.int .i64 0,.int .i64 0,.slice none 0 0,.slice none 0 0] 34):=⟨_,rfl⟩;have HW:=aa hW.symm;have X0:ahg (Ext w W):=aa (by rw[hW];exact(((eR _).alloc _).alloc _).alloc _);have B1:ahg (aJ W w.heap.size x):=aa (by rw[hW];exact(aJ.new w x).ext (((eR _).alloc _).alloc _));have B2:ahg (aY W (w.heap.size+1) p):=aa (by rw[hW];exact aY.ext (ah _ _ _ (by simp)) ((eR _).alloc _));have B3:ahg (W.heap[w.heap.size+1+1]?=some (.cells #[.int .i64 0,.int .i64 0,.slice none 0 0,.slice none 0 0] 34)):=aa (by rw[hW];exact ah _ _ _ (by simp));have bS:ahg (W.heap.size=w.heap.size+3):=aa (by rw[hW];simp);have HS:=aa (GX x G gc given p W (he.ext X0.o) (hg.ext X0.o) (hp.ext X0.o) hE.gl hE.l9 hE.s9);have HY:=aa (fun w' (e:Ext W w')=>aa (YO x.I x.ic x.insts p w' (he.insts.ext (X0.o.trans e)) (hp.ext (X0.o.trans e)) j8 hE.ok hE.il hE.pl));have ET:=aa (fun q w' (e:Ext W w') hq hl hs=>aa (ih q w' (he.ext (X0.o.trans e)) (hg.ext (X0.o.trans e)) hq hl hs));have HT:=aa (hp.ty.ext X0.o);have oI:=aa j8;have KB:=aa hsz;have HR:ahg (gh x.ag x.insts given (m+1) p.cls p.ty.pure=match qI x.ag given p.cls p.ty.pure with
  |some (i,path)=>.ok (dV i path,path.length+1)
  |none=>match Ju x.insts p.cls p.ty.pure with
   |none=>.error 16
   |some (i,wants)=>match dx (gh x.ag x.insts given m) wants [] 1 with
    | .error e=>.error e
    | .ok (l,n)=>.ok (.mk 3 i p.ty.pure.args l,n)):=aa rfl
 have Pb:=aa hp.ty;obtain⟨i0,hi,hz0,hz1,hz2⟩:=info_parts Fo;clear hW he hg hp j8 hsz ih hE;generalize gh x.ag x.insts given (m+1) p.cls p.ty.pure=R at *;generalize qI x.ag given p.cls p.ty.pure=O at *;generalize Ju x.insts p.cls p.ty.pure=O2 at *;obtain⟨c0,c1,c2,c3⟩:=B2.o.cells;obtain⟨e0,e1,e2⟩:=B1.o.cells;have n1:=B1.o.lt;have n2:=B2.o.lt;unfold eX jC at *;go_enter Tryz.func98,Tryz.ntmps98;go_upto_region 1 with fail;rw[HW.o];clear HW;go_wp2_with fail;refine HS.o.mono ?_;rintro e w2 ⟨⟨u,rfl,hu⟩,hx2⟩;have X2:=aa hx2;have Hu:=aa hu;clear hx2 hu HS c0 c1 c2 c3 e0 e1 e2 n1 n2;go_upto_region 2 with fail;refine bC ?_;intro W3 hW3;have E3:ahg (Ext w2 W3):=aa (by rw[hW3];exact(eR _).alloc _);have D1:ahg (aO W3 w2.heap.size u):=aa (by rw[hW3];exact aO.new w2 u);have X3:=aa (X2.o.trans E3.o);clear hW3;cases O with
 |some ip=>
  obtain⟨i,path⟩:=ip;obtain⟨Q8,TE⟩:=Hu.o.yes i path rfl;have hR:R=.ok (dV i path,path.length+1):=HR.o;clear HR HY ET;subst hR;have hsz:=zo i path.length path rfl u Q8.is;have Fg:=aa (Q8.ext E3.o);have B4:ahg (W3.heap[w.heap.size+1+1]?=some (.cells #[.int .i64 0,.int .i64 0,.slice none 0 0,.slice none 0 0] 34)):=aa ((X3.o.heap (ae B3.o)).trans B3.o);have jV:=aa (fun w' (h:bM w' u)=>aa (Er u w' h (by omega)));rw[hsz] at jV;have YT:=aa hsz;obtain⟨d0,d1,d2,d3⟩:=D1.o.cells;have n4:=D1.o.lt;obtain⟨z0,z1,z2,z3,iE,iF,iG,iH⟩:=kr B4.o;have hz:=ae B4.o;have hne:w2.heap.size≠w.heap.size+1+1:=by have:=X2.o.size;have:=bS.o;omega
  clear Q8 Hu hsz;go_wp2
  go_region_held3 (fun w'=>w'.cell? ⟨w2.heap.size,0,none⟩=some (.int .i64 u.kind)∧w'.cell? ⟨w2.heap.size,1,none⟩=some (.int .i64 u.n)∧w'.cell? ⟨w2.heap.size,2,none⟩=some (.slice u.T u.types.length u.tc)∧w'.cell? ⟨w2.heap.size,3,none⟩=some (.slice u.A u.kids.length u.cap)) (first|with_reducible assumption|(obtain⟨g0,g1,g2,g3⟩:=kS;with_reducible exact⟨aV hne _ _ _ _ g0,aV hne _ _ _ _ g1,aV hne _ _ _ _ g2,aV hne _ _ _ _ g3⟩)|go_keep) (first
   |(
    go_at_call 144
    refine Calls.mono (jV.o _ (Fg.o.iM.ext (by repeat(first|exact eR _|exact eA (by assumption) _|refine eA ?_ _|refine eM ?_ _ _|refine eD ?_|refine eN ?_ _)))).o ?_;rintro e y ⟨rfl,hy⟩;have EA:ahg (Ext W3 y):=aa (by refine Ext.trans ?_ hy;exact(by repeat(first|exact eR _|exact eA (by assumption) _|refine eA ?_ _|refine eM ?_ _ _|refine eD ?_|refine eN ?_ _)));have kS:=ahk (EA.o.cell d0) (ahk (EA.o.cell d1) (ahk (EA.o.cell d2) (EA.o.cell d3)));have B5:=aa ((EA.o.heap (ae B4.o)).trans B4.o);obtain⟨a0,a1,a2,a3,Ux,af1,af2,af3⟩:=kr B5.o;have UZ:=ae B5.o))
  have HF:=aa ((Fg.o.ext EA.o).set (Fg.o.away (w.heap.size+1+1) (by have:=bS.o;omega)) u);have XF:=aa (cz (X0.o.trans (X3.o.trans EA.o)) (by omega:w.heap.size≤w.heap.size+1+1) u);go_wp2;refine bodyPost_ret (v:=.tuple #[cr u,.int .i64 ((path.length+1:Nat):Int)]) ?_ rfl ⟨⟨u,rfl,?_,HF.o.is,YT.o,by omega,fun c hc _=>HF.o.away c (by have:=X0.o.size;omega)⟩,?_⟩
  ·simp[results,Tryz.f98,go_sem,a0,a1,a2,a3,cr]
  ·exact HF.o.iM.ext (by repeat(first|exact eR _|exact eA (by assumption) _|refine eA ?_ _|refine eM ?_ _ _|refine eD ?_|refine eN ?_ _))
  ·exact XF.o.trans (by repeat(first|exact eR _|exact eA (by assumption) _|refine eA ?_ _|refine eM ?_ _ _|refine eD ?_|refine eN ?_ _))
 |none=>
  have Qo:=Hu.o.no rfl;clear Hu D1 Qo;obtain⟨c0,c1,c2,c3⟩:=(B2.o.ext X3.o).cells;obtain⟨e0,e1,e2⟩:=(B1.o.ext X3.o).cells;have n1:=(B1.o.ext X3.o).lt;have n2:=(B2.o.ext X3.o).lt;go_wp2_with fail;refine(HY.o _ X3.o).o.mono ?_;rintro e w4 ⟨⟨i,A,ca,ds,rfl,hby⟩,eP⟩;have X4:=aa (X3.o.trans eP);have YU:=eP.size;have G5:=aa hby
  clear eP hby HY c0 c1 c2 c3 e0 e1 e2 n1 n2;cases O2 with
  |none=>
   have hR:R=.error 16:=HR.o;clear HR;subst hR;go_wp2;exact⟨rfl,rfl,X0.o.trans X4.o⟩
  |some iw=>
   obtain⟨k,wants⟩:=iw;obtain⟨hi,sN⟩:=G5.o.yes k wants rfl;subst hi;have HD:=aa G5.o.iM;have J3:=G5.o.le;have hdn:=G5.o.len;have Hda:=aa G5.o.args;have hca:=G5.o.max;have DJ:=aa G5.o.away;have YV:=aa sN;have hw3:=X3.o.size;clear G5 sN;go_upto_region 7 with fail;refine bC ?_;intro W5 jR;have E5:ahg (Ext w4 W5):=aa (by rw[jR];exact eR _);have X5:=aa (X4.o.trans E5.o);clear jR;obtain⟨c0,c1,c2,c3⟩:=(B2.o.ext X5.o).cells;have n2:=(B2.o.ext X5.o).lt;have fk:=aa (fun w' (e:Ext W5 w')=>ahk (e.cell c1) (ahk (e.cell c2) (e.cell c3)));have kY:w.heap.size+1≠W5.heap.size:=by omega
   have Jk:=aa (HT.o.ext X5.o);have TI:p.ty.size≤900000:=by have:=(aW oI.o).1;omega
   go_cut [13,14] (fun Xf s14 wx=>∃(MH:Nat) (u:Ty),Xf=.pointer (some ⟨MH,0,none⟩)∧ahg (jG w W5 wx MH p.ty u))
   case first=>
    go_region_held3 (fun w'=>w'.cell? ⟨w.heap.size+1,1,none⟩=some (encStr p.ty.aq)∧w'.cell? ⟨w.heap.size+1,2,none⟩=some (.int .i64 p.ty.var)∧w'.cell? ⟨w.heap.size+1,3,none⟩=some (.slice p.ty.A p.ty.args.length p.ty.cap)) (first|with_reducible assumption|(obtain⟨g1,g2,g3⟩:=kS;with_reducible exact⟨sK Kq _ _ _ g1,sK Kq _ _ _ g2,sK Kq _ _ _ g3⟩)|go_keep) (first
     |(
      go_at_call 77
      refine Calls.mono (E6 _) ?_;rintro e y1 ⟨rfl,fT,hx1⟩;have HSub:=aa (vZ fT)
      first
       |(have HSub:ahg (ij y1 (W5.heap.size+1) none 0 []):=aa (by have h:=HSub.o;have e:∀o,(W5.alloc o).drew.heap.size=W5.heap.size+1:=fun o=>World.size_alloc W5 o;rw[e] at h;exact h))
       |skip
      have E1:ahg (Ext W5 y1):=aa (by refine Ext.trans ?_ hx1;exact(by repeat(first|exact eR _|exact eA (by assumption) _|refine eA ?_ _|refine eM ?_ _ _|refine eD ?_|refine eN ?_ _)));have kS:=fk.o y1 E1.o
      (try (have hz1:=aa ((hx1.heap (ae (cn W5 _))).trans (cn W5 _))))
      clear fT hx1)
     |(
      go_at_call 78
      refine Calls.mono (ui _ none 0 [] p.ty _ (HSub.o.ext (by repeat(first|exact eR _|exact eA (by assumption) _|refine eA ?_ _|refine eM ?_ _ _|refine eD ?_|refine eN ?_ _))) (by simp) (Jk.o.ext (E1.o.trans (by repeat(first|exact eR _|exact eA (by assumption) _|refine eA ?_ _|refine eM ?_ _ _|refine eD ?_|refine eN ?_ _)))) TI) ?_;rintro e y2 ⟨⟨u,n,rfl,hu⟩,hx2⟩;have Ec:ahg (Ext y1 y2):=aa (by refine Ext.trans ?_ hx2;exact(by repeat(first|exact eR _|exact eA (by assumption) _|refine eA ?_ _|refine eM ?_ _ _|refine eD ?_|refine eN ?_ _)));have kS:=fk.o y2 (E1.o.trans Ec.o)
      first
       |(have hz:ahg (y2.heap[y1.heap.size]?=some (.cells #[.string ⟨#[]⟩,.int .i64 0,.slice none 0 0] 53 (0,0))):=aa (by with_reducible exact(hx2.heap (ae (ah y1 _ _ rfl))).trans (ah y1 _ _ rfl));have Kq:w.heap.size+1≠y1.heap.size:=by have:=E1.o.size;omega)
       |(have hz:=aa ((Ec.o.heap (ae hz1.o)).trans hz1.o);have Kq:=kY)
       |skip
      try (have z0:=af hz.o 0;have z1:=af hz.o 1;have z2:=af hz.o 2;have z3:=ai hz.o 0;have z4:=ai hz.o 1;have z5:=ai hz.o 2;simp only[ahp,ahq,ahr] at z0 z1 z2)))
    all_goals (go_wp2_with fail;go_meet;first
     |exact⟨y2.heap.size,u,rfl,aa (jG.behind E1.o hx2 hu.ty (kI oI.o hu).2 hu.away)⟩
     |exact⟨y1.heap.size,u,rfl,aa (jG.ahead (E1.o.trans ((eR _).alloc _)) hx2 E1.o.size (ah y1 _ _ rfl) Jk.o hu.ty (kI oI.o hu).2 hu.away)⟩
     |exact⟨W5.heap.size,u,rfl,aa (jG.ahead E1.o hx2 (ahi _) hz1.o Jk.o hu.ty (kI oI.o hu).2 hu.away)⟩)
   case rest=>
    obtain⟨MH,u,rfl,HA⟩:=hcut;have XA:=aa (X5.o.trans HA.o.x);have t2:=HA.o.box.c2;have tl:=HA.o.box.lt;obtain⟨KR,Pc⟩:∃KR,KR=dx (gh x.ag x.insts given m) wants [] 1:=⟨_,rfl⟩;have Qx:ahg (R=TH k p.ty.pure.args KR):=aa (by rw[Pc];exact HR.o);have HK0:ahg (dx (gh x.ag x.insts given m) (wants.drop 0) ([].map Pf.pure) 1=KR):=aa (by rw[Pc,List.drop_zero];rfl);have TJ:ahg (wants.length=ds.length∧∀(j:Nat) (h1:j<wants.length) (h2:j<ds.length),wants[j]'h1=((ds[j]'h2).cls,(ds[j]'h2).ty.pure)):=aa ⟨by rw[←YV.o];simp,fun j h1 h2=>by
     have:=YV.o;subst this;simp⟩
    have hxw:W3.heap.size≤w4.heap.size:=YU;have jB:=XA.o.size;have HD5:=aa (HD.o.ext (E5.o.trans HA.o.x));have aeV:=(E5.o.trans HA.o.x).size;have Hd4:ahg (∀d∈ds,∀c,w4.heap.size≤c→aF c d.ty=true):=aa (fun d hd c hc=>aU (HD.o.all d hd).ty hc);clear Pc HR fk c1 c2 c3 c0 n2 YV E5 Jk TI kY;go_wp2
    go_loopw [16,57] (fun nn i wr=>∃(j n:Nat) (us:List Pf) (v:Value),j≤ds.length∧i=.int .i64 j∧nn=.int .i64 n∧us.length≤j∧n≤4096∧ahg (LD wc wr wc.heap.size W3.heap.size k u us v)∧ahg ((us.map Pf.size).sum+1=n)∧ahg (dx (gh x.ag x.insts given m) (wants.drop j) (us.map Pf.pure) n=KR)) (fun _ i _=>ds.length - (intOf i).toNat)
    case atStart=>exact⟨0,1,[],.slice none 0 0,ahj _,rfl,rfl,ahi _,by omega,aa ⟨ah _ _ _ rfl,World.ownsRow_nil _ _ _ _,by simp,by simp,by simp,by simp,(eR _).alloc _⟩,aa rfl,HK0⟩
    case round=>
     obtain⟨j,n,us,v,hj,rfl,rfl,J7,hn,HK,vX,HG⟩:=hrel;have XR:=aa (XA.o.trans HK.o.ext)
     by_cases hlt:j<ds.length
     ·have aS:(j:Int)<(ds.length:Int):=by omega
      have q8:(0:Int)≤(j:Int):=by omega
      obtain⟨bq,oq,rfl,Jo,q0,q1,q2,q3⟩:=(HD5.o.ext HK.o.ext).at_ hlt;have zr:=ahh hlt;have hPd:=HD5.o.all _ zr;have YW:=TJ.o.2 j (by rw[TJ.o.1];exact hlt) hlt;have G6:=aa (fun(Q:Pf.Pure) (sz:Nat) (h:gh x.ag x.insts given m (ds[j]'hlt).cls (ds[j]'hlt).ty.pure=.ok (Q,sz))=>(CX (f:=gh x.ag x.insts given m) (l:=us.map Pf.pure) (n:=n) (by rw[TJ.o.1];exact hlt) (by rw[YW];exact h)).symm.trans HG.o);have G7:=aa (fun(kk:Int) (h:gh x.ag x.insts given m (ds[j]'hlt).cls (ds[j]'hlt).ty.pure=.error kk)=>(rP (f:=gh x.ag x.insts given m) (l:=us.map Pf.pure) (n:=n) (by rw[TJ.o.1];exact hlt) (by rw[YW];exact h)).symm.trans HG.o);obtain⟨a,YX,hap⟩:=Hda.o _ zr;have Uq:az (ds[j]'hlt).ty=true:=(fw hap).trans (tF oI.o YX);have EI:(ds[j]'hlt).ty.size≤m:=by
       have h1:=(pH _ _ hap).1;have h2:=Ty.bG YX;have h3:=KB.o;omega
      have HC:=aa (fun w' (e:Ext wc w')=>(ET.o (ds[j]'hlt) w' (XA.o.trans e) (hPd.ext e) Uq EI).o);have UY:=aa (DJ.o _ zr);have Pe:=aa (Hd4.o _ zr);generalize ds[j]'hlt=d at *;obtain⟨n1,e0,e1,e2⟩:=ahk (B1.o.ext XR.o).lt (B1.o.ext XR.o).cells;clear hPd YW hap YX Uq EI zr t2 tl;go_wp2_with fail;refine(HC.o _ (HK.o.ext.alloc (.cells #[encStr d.cls,encStr d.ty.aq,.int .i64 d.ty.var,.slice d.ty.A d.ty.args.length d.ty.cap] 55))).mono ?_;rintro e w6 ⟨hout,xI⟩;have X6:ahg (Ext wr w6):=aa (((eR wr).alloc (.cells #[encStr d.cls,encStr d.ty.aq,.int .i64 d.ty.var,.slice d.ty.A d.ty.args.length d.ty.cap] 55)).trans xI);have XT:=aa (X0.o.trans (XR.o.trans X6.o));clear q0 q1 q2 q3 Jo n1 e0 e1 e2 HC;cases hr:gh x.ag x.insts given m d.cls d.ty.pure with
      |error kk=>
       rw[hr] at hout;have hout:e=.panicked [{ v:=.iface 162 (.agg #[.int .i64 kk]),recovered:=false }]:=hout;have hKe:=G7.o kk hr;subst hout hKe;have hR:R=.error kk:=Qx.o;clear Qx G6 G7 hr;subst hR;go_wp2;exact⟨rfl,rfl,XT.o⟩
      |ok r=>
       obtain⟨Q,sz⟩:=r;rw[hr] at hout;obtain⟨y,rfl,gS,iv,l5,Cl,Dc⟩:=hout;have HY1:=aa gS;have vh:=aa (G6.o Q sz hr);have HY4:=aa Cl;have VE:aL wc.heap.size y:=Dc _ (by have:=HK.o.ext.size;have:=ae HK.o.box;simp;omega) (Pe _ (by omega));obtain⟨A6,c6,hv,-,-,-,-⟩:=ak.own pg (l:=us) HK.o.own;subst hv;have hwr:=HK.o.ext.size;have hbr:=ae HK.o.box;have Xk:=X6.o.size;have Hyr:ahg (∀c,(Value.slice A6 us.length c6).ownBlock=some c→aL c y):=aa (fun c hc=>by
        have:=HK.o.own.lt c hc;exact Dc c (by simp;omega) (Pe c (by omega)))
       have HyN:ahg (∀c,c<W3.heap.size→aL c y):=aa (fun c hc=>Dc c (by simp;omega) (UY c hc));have O6:=aa (bk HK.o.own X6.o);have Pa:=aa ((X6.o.heap hbr).trans HK.o.box);have Qy:=af Pa.o 3;have kf0:=ai Pa.o 3;simp only[ahp,ahq,ahr] at Qy;have TK:wc.heap.size<w6.heap.size:=by omega
       have MM:ahg (Ext wr ((w6.alloc (.cells #[.int .i64 y.kind,.int .i64 y.n,.slice y.T y.types.length y.tc,.slice y.A y.kids.length y.cap] 34)).alloc (.cells #[.int .i64 y.kind,.int .i64 y.n,.slice y.T y.types.length y.tc,.slice y.A y.kids.length y.cap] 34))):=aa ((X6.o.alloc _).alloc _);have HY2:=aa (gS.ext (((eR w6).alloc (.cells #[.int .i64 y.kind,.int .i64 y.n,.slice y.T y.types.length y.tc,.slice y.A y.kids.length y.cap] 34)).alloc (.cells #[.int .i64 y.kind,.int .i64 y.n,.slice y.T y.types.length y.tc,.slice y.A y.kids.length y.cap] 34)));have Jc:IntKind.i64.wrap ((n:Int)+(sz:Int))=((n+sz:Nat):Int):=by rw[IntKind.wrap_i64];omega
       have YY:=aa (Db us y vX.o l5);have Hyp:=aa iv;have Ve:us.length≤40000:=by omega
       clear gS iv l5 Dc UY Pe G7 G6 hr xI;go_wp2_with (at_builtin;refine aH _ rfl _ _ 32 rfl (wc.heap.size+1) 34 i0 _ 4 64 Tryz.underlying32 hi hz0 hz1 hz2 rfl (by decide) (.slice A6 us.length c6) us.length (us.flatMap pg.f) rfl ((O6.o.alloc _).alloc _) _ 1 1 [.int .i64 y.kind,.int .i64 y.n,.slice y.T y.types.length y.tc,.slice y.A y.kids.length y.cap] rfl ?c2 ?c3 ?c4 ?c5 ?c6 ?_)
       case c2=>exact Row.YR _ _ _ _ (ah _ _ _ (by simp))
       case c3=>first|exact⟨rfl,rfl,rfl,rfl⟩|(intro z hz;simp at hz;rcases hz with rfl|rfl|rfl|rfl<;>rfl)
       case c4=>unfold maxLen;omega
       case c5=>omega
       case c6=>simp;omega
       intro v4 w7 bB hg4 fc;have uw:=aa (HK.o.snoc (ahi _) MM.o HY2.o VE Hyr.o HyN.o (by rw[zq,ahn];exact bB) hg4 (by
        rcases fc with e|e
        ·exact .inl e
        ·exact .inr (fun c hc=>by rw[e] at hc;injection hc with hc;simp at hc ⊢;omega)))
       have Bp:ahg (w7.heap[wc.heap.size]?=some (.cells #[.int .i64 3,.int .i64 (k:Nat),.slice u.A u.args.length u.cap,.slice A6 us.length c6] 34 (0,0))):=aa ((hg4.block _ (by simp;omega) (fun e=>by have:=(HK.o.own.lt _ e.symm).1;omega)).trans ((((eR w6).alloc (.cells #[.int .i64 y.kind,.int .i64 y.n,.slice y.T y.types.length y.tc,.slice y.A y.kids.length y.cap] 34)).alloc (.cells #[.int .i64 y.kind,.int .i64 y.n,.slice y.T y.types.length y.tc,.slice y.A y.kids.length y.cap] 34)).heap TK |>.trans Pa.o));have kb7:=af Bp.o 3;have kf7:=ai Bp.o 3;simp only[ahp,ahq,ahr] at kb7;have ae0:=ae Bp.o;clear bB hg4 fc Qy kf0 Pa O6 MM HY2 VE Hyr HyN HK TK;have NU:ahg ((if n+sz>4096 then .error 2 else dx (gh x.ag x.insts given m) (wants.drop (j+1)) ((us++[y]).map Pf.pure) (n+sz))=KR):=aa (by
        have:=vh.o;rw[←Hyp.o] at this;rw[ahz];exact this)
       have YZ:(us++[y]).length≤j+1:=by simp;omega
       clear vh HG vX Hyp;generalize us++[y]=Y0 at *;obtain⟨A8,c8,rfl,-,-,-,-⟩:=ak.own pg (l:=Y0) uw.o.own
       by_cases hle:n+sz≤4096
       ·have Y7:¬(((n+sz:Nat):Int)>4096):=by omega
        have Yz:ahg (dx (gh x.ag x.insts given m) (wants.drop (j+1)) (Y0.map Pf.pure) (n+sz)=KR):=aa (by
         rw[←NU.o,if_neg (by omega)])
        clear NU;go_wp2;go_roundw
        case rel=>exact⟨j+1,n+sz,Y0,_,hlt,by go_num,rfl,YZ,hle,uw,YY,Yz⟩
        case measure=>simp[intOf];omega
       ·have Y7:(((n+sz:Nat):Int)>4096):=by omega
        have Pc:KR=.error 2:=by rw[←NU.o,if_pos (by omega)]
        clear NU;subst Pc;have hR:R=.error 2:=Qx.o;clear Qx;subst hR;have XT7:=aa (X0.o.trans (XA.o.trans uw.o.ext));go_wp2;exact⟨rfl,rfl,XT7.o⟩
     ·have bU:¬(j:Int)<(ds.length:Int):=by omega
      have Pc:KR=.ok (us.map Pf.pure,n):=by rw[←HG.o,GR (by rw[TJ.o.1];omega)]
      clear HG;subst Pc;have hR:R=.ok (.mk 3 (k:Int) p.ty.pure.args (us.map Pf.pure),n):=Qx.o;clear Qx;subst hR;obtain⟨A6,c6,rfl,l1,l2,hrow,Vc⟩:=ak.own pg (l:=us) HK.o.own;have B6:ahg (wr.heap[w.heap.size+1+1]?=some (.cells #[.int .i64 0,.int .i64 0,.slice none 0 0,.slice none 0 0] 34)):=aa ((XR.o.heap (ae B3.o)).trans B3.o);obtain⟨U,hU⟩:∃U:Pf,U=.mk 3 (k:Int) u.A u.cap u.args A6 c6 us:=⟨_,rfl⟩;have nO:=(HA.o.ty.ext HK.o.ext);have I8:ahg (bM wr U):=aa (by
       rw[hU];exact .mk ⟨nO.le,nO.max,l1,l2,nO.all,hrow⟩ HK.o.iM)
      have Pg:ahg (∀c,c<W.heap.size→aF c p.ty=true→aL c U):=aa (fun c hc ha=>by
       have ha2:=HA.o.away c (by have:=X5.o.size;omega) ha;rw[hU];refine .mk (fun hn a e=>rS ha2 (by rintro h;exact hn (by show u.args.length=0;rw[h];rfl)) e) (fun z hz=>iy ha2 hz) (fun hn a e => ?_) (fun z hz=>HK.o.away z hz c (by omega));obtain⟨b,o,e2,-,-⟩:=hrow.2 (Nat.pos_of_ne_zero hn);have e:A6=some a:=e;rw[e2] at e;injection e with e;subst e;have:=(Vc b o e2).1;have:=HA.o.x.size;have:=X5.o.size;show b≠c;omega)
      have HA3:=aa (Pg.o (w.heap.size+1+1) (by have:=bS.o;omega) (aU Pb.o (by omega)));have HUp:ahg (U.pure=.mk 3 (k:Int) p.ty.pure.args (us.map Pf.pure)):=aa (by
       rw[hU,Pf.aG,←HA.o.is,CW];rfl)
      have HUs:ahg (U.size=n):=aa (by rw[hU,Pf.size_eq];exact vX.o);have TL:=aa (I8.o.grown (fQ wr (w.heap.size+1+1) U) (fun c e=>by injection e with e;subst e;exact HA3.o));have XF:=aa (cz (X0.o.trans XR.o) (by omega:w.heap.size≤w.heap.size+1+1) U);have Qy:=af HK.o.box 0;have M5:=af HK.o.box 1;have M6:=af HK.o.box 2;have Y8:=af HK.o.box 3;simp only[ahp,ahq,ahr] at Qy M5 M6 Y8;obtain⟨z0,z1,z2,z3,iE,iF,iG,iH⟩:=kr B6.o;have hz:=ae B6.o;have hbr:=ae HK.o.box;have HAf:ahg (∀c,c<w.heap.size→aF c p.ty=true→aL c U):=aa (fun c hc ha=>Pg.o c (by have:=bS.o;omega) ha);have HVv:ahg (cr U=.agg #[.int .i64 3,.int .i64 (k:Nat),.slice u.A u.args.length u.cap,.slice A6 us.length c6]):=aa (by rw[hU];rfl);have HX:ahg (ei wr (w.heap.size+1+1) U=(((wr.setCell ⟨w.heap.size+1+1,0,none⟩ (.int .i64 3)).setCell ⟨w.heap.size+1+1,1,none⟩ (.int .i64 (k:Nat))).setCell ⟨w.heap.size+1+1,2,none⟩ (.slice u.A u.args.length u.cap)).setCell ⟨w.heap.size+1+1,3,none⟩ (.slice A6 us.length c6)):=aa (by rw[hU];rfl);rw[HX.o] at TL XF;clear hU hrow Vc nO HK HA Pg I8;go_wp2;refine bodyPost_ret (v:=.tuple #[cr U,.int .i64 (n:Nat)]) ?_ rfl ⟨⟨U,rfl,TL.o,HUp.o,HUs.o,hn,HAf.o⟩,XF.o⟩;rw[HVv.o];simp[results,Tryz.f98,go_sem,z0,z1,z2,z3]
set_option maxRecDepth 512
set_option maxHeartbeats 200000
theorem tG (x:dz) (G:Option Addr) (gc:Nat) (given:List Pd) (hE:G4 x given):∀m,YQ x G gc given m
 |0=>fun p w _ _ _ _ hsz=>absurd hsz (by have:=Ty.size_pos p.ty;omega)
 |m+1=>qJ x G gc given hE m (tG x G gc given hE m)
end Go.Proofs.YtigafbmabjglfaaGreatDoor
