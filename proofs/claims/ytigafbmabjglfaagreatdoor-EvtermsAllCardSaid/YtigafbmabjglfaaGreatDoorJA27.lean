import Derived.Test.YtigafbmabjglfaaGreatDoorJA26
namespace Go.Proofs.YtigafbmabjglfaaGreatDoor
open Go.RowKit
theorem uZ {l:List dm}{a b:aj}{p:List Nat}(h:bU l a b=some p):p.length<l.length:=by
 unfold bU at h
 split at h
 ·obtain⟨n,hn,h2⟩:=List.exists_of_findSome?_eq_some h;have:=(ln l b n a p h2).1;have hm:=List.mem_range.1 hn;omega
 ·cases h
theorem dL {w:World}{b:Nat}(h:w.heap[b]?=some (.cells #[.int .i64 0,.int .i64 0,.slice none 0 0,.slice none 0 0] 34)):w.cell? ⟨b,0,none⟩=some (.int .i64 0)∧w.cell? ⟨b,1,none⟩=some (.int .i64 0)∧w.cell? ⟨b,2,none⟩=some (.slice none 0 0)∧w.cell? ⟨b,3,none⟩=some (.slice none 0 0)∧w.frozen? ⟨b,0,none⟩=false∧w.frozen? ⟨b,1,none⟩=false∧w.frozen? ⟨b,2,none⟩=false∧w.frozen? ⟨b,3,none⟩=false:=by
 refine⟨?_,?_,?_,?_,?_,?_,?_,?_⟩<;>simp[World.cell?,World.frozen?,h]
def cP (w:World) (b:Nat) (t:Pf):World:=
 (((w.setCell ⟨b,0,none⟩ (.int .i64 t.kind)).setCell ⟨b,1,none⟩ (.int .i64 t.n)).setCell ⟨b,2,none⟩ (.slice t.T t.types.length t.tc)).setCell ⟨b,3,none⟩ (.slice t.A t.kids.length t.cap)
theorem dy (w:World) (b:Nat) (t:Pf):w.grownBy (cP w b t) (some b):=
 aX (aX (aX (aL _ _ _ _) (aL _ _ _ _)) (aL _ _ _ _)) (aL _ _ _ _)
theorem aW {w W:World}{b:Nat}(x:Ext w W) (h:w.heap.size≤b) (t:Pf):Ext w (cP W b t):=(((x.setCell h _).setCell h _).setCell h _).setCell h _
theorem ij {w:World}{b:Nat}{t:Pf}(h:aO w b t) (u:Pf):aO (cP w b u) b u:=by
 have h1:=aw (aw (aw (aw h 0 (.int .i64 u.kind)) 1 (.int .i64 u.n)) 2 (.slice u.T u.types.length u.tc)) 3 (.slice u.A u.kids.length u.cap);unfold aO cP;rw[h1];simp
theorem kL {W:World}{b k:Nat}(a:Pf) (h:k≠b):(cP W b a).heap[k]?=W.heap[k]?:=by
 unfold cP;rw[Below.heap_setCell _ _ _ _ h,Below.heap_setCell _ _ _ _ h,Below.heap_setCell _ _ _ _ h,Below.heap_setCell _ _ _ _ h]
theorem sN.set {w w1:World}{x:Pf.Pure}{u:Pf}(h:sN w w1 x u){b:Nat}(hb:aJ b u) (a:Pf):sN w (cP w1 b a) x u:=
 ⟨h.gZ.grown (dy w1 b a) (fun c e=>by injection e with e;subst e;exact hb),h.is,h.away⟩
def Ct (k:Nat):Pf:=.mk 1 k none 0 [] none 0 []
theorem yK (w w':World) (k:Nat):sN w w' (cy k []) (Ct k):=
 ⟨.mk ⟨aiH _,by show 0≤9223372036854775807;omega,aiH _,by show 0≤9223372036854775807;omega,bH.nil _ _,ak.nil _ _ _⟩ (by intro k hk;cases hk),by rw[Pf.aG];rfl,
  fun c _=>.mk (fun h=>absurd rfl h) (by intro x hx;cases hx) (fun h=>absurd rfl h) (by intro x hx;cases hx)⟩
theorem rR (c k:Nat):aJ c (Ct k):=.mk (fun h=>absurd rfl h) (by intro x hx;cases hx) (fun h=>absurd rfl h) (by intro x hx;cases hx)
def mJ (n g:Nat) (y:Pf):Pf:=.mk 2 n none 0 [] (some ⟨g,0,none⟩) 1 [y]
theorem Cu {w w1 w2:World}{k:Nat}{l:List Nat}{n g:Nat}{y:Pf}(h:sN w w1 (cy k l) y) (hs:w.heap.size≤w1.heap.size) (hg:g=w1.heap.size) (e:Ext w1 w2) (d:w2.heap[g]?=some (.cells #[.int .i64 y.kind,.int .i64 y.n,.slice y.T y.types.length y.tc,.slice y.A y.kids.length y.cap] 34 (0,0))) :
  sN w w2 (cy k (l++[n])) (mJ n g y):=by
 subst hg;refine⟨.mk ⟨aiH _,by show 0≤9223372036854775807;omega,aiG _,by show 1≤9223372036854775807;omega,bH.nil _ _,ak.block si [y] d⟩ (fun x hx => ?_),?_,fun c hc=>.mk (fun h=>absurd rfl h) (by intro x hx;cases hx) (fun _ a e => ?_) (fun x hx => ?_)⟩
 ·have hx:x∈[y]:=hx;rw[aiV] at hx;subst hx;exact h.gZ.ext e
 ·rw[kK,Pf.aG];show Pf.Pure.mk 2 n [] [y.pure]=_;rw[h.is]
 ·injection e with e;subst e;show w1.heap.size≠c;omega
 ·have hx:x∈[y]:=hx;rw[aiV] at hx;subst hx;exact h.away c hc
theorem mL (k:Nat):∀(n:Nat) (l:List Nat),l.length=n→∀u:Pf,u.pure=cy k l→u.size=l.length+1:=by
 intro n
 induction n with
 |zero=>
  intro l hn u h;rw[List.length_eq_zero_iff] at hn;subst hn;rw[Pf.aG] at h;injection h with _ _ _ h;have h:u.kids.map Pf.pure=[]:=h;rw[List.map_eq_nil_iff] at h;rw[Pf.size_eq,h];rfl
 |succ m ih=>
  intro l hn u h
  rcases List.eq_nil_or_concat l with rfl|⟨l,n,rfl⟩
  ·cases hn
  rw[List.concat_eq_append] at h hn ⊢;rw[kK,Pf.aG] at h;injection h with _ _ _ h;obtain⟨y,hy,hp⟩:∃y,u.kids=[y]∧y.pure=cy k l:=by
   cases hk:u.kids with
   |nil=>rw[hk] at h;cases h
   |cons y r=>
    rw[hk] at h;cases r with
    |nil=>exact⟨y,rfl,by simpa using h⟩
    |cons z r=>simp at h
  rw[Pf.size_eq,hy];show([y].map Pf.size).sum+1=_;have:=ih l (by simpa using hn) y hp;simp[this]
theorem iP {α:Type}{P:α→Prop}{x:α}(h:P x):∀y∈[x],P y:=fun y hy=>by simp at hy;subst hy;exact h
structure OM (w w':World) (O:Option (Nat×List Nat)) (u:Pf):Prop where
 yes:∀i path,O=some (i,path)→sN w w' (cy i path) u∧path.length≤9
 no:O=none→u=Pf.zero
set_option maxRecDepth 10000
set_option maxHeartbeats 8000000
theorem JL (x:di) (G:Option Addr) (gc:Nat) (given:List Pd) (p:Pd) (w:World) (he:dJ w x) (hg:bg w G given) (hp:dH w p) (jb:given.length≤1000000) (JM:x.af.length≤9) (KL:∀c∈x.af,c.cQ.length≤9) :
  Calls Tryz.prog 143 #[eu x,.slice G given.length gc,fN p] w fun e w'=>(∃u,e=.returned (.tuple #[bM u,.bool (jS x.af given p.cls p.ty.pure).isSome])∧OM w w' (jS x.af given p.cls p.ty.pure) u)∧Ext w w':=by
 obtain⟨W,hW⟩:∃W,W=((w.alloc (.cells #[.slice x.D x.aA.length x.dc,.slice x.C x.af.length x.cc,.slice x.I x.insts.length x.ic] 26)).alloc (.cells #[encStr p.cls,encStr p.ty.aq,.int .i64 p.ty.var,.slice p.ty.A p.ty.args.length p.ty.cap] 55)).alloc (.cells #[.int .i64 0,.int .i64 0,.slice none 0 0,.slice none 0 0] 34):=⟨_,rfl⟩;have HW:=aa hW.symm;have X0:aiE (Ext w W):=aa (by rw[hW];exact(((eR _).alloc _).alloc _).alloc _);have B1:aiE (aI W w.heap.size x):=aa (by rw[hW];exact(aI.new w x).ext (((eR _).alloc _).alloc _));have B2:aiE (aR W (w.heap.size+1) p):=aa (by rw[hW];exact aR.ext (ah _ _ _ (by simp)) ((eR _).alloc _));have B3:aiE (W.heap[w.heap.size+2]?=some (.cells #[.int .i64 0,.int .i64 0,.slice none 0 0,.slice none 0 0] 34)):=aa (by rw[hW];exact ah _ _ _ (by simp));have bR:aiE (W.heap.size=w.heap.size+3):=aa (by rw[hW];simp);have HG:=aa (hg.ext X0.o);have HT:=aa (hp.ty.ext X0.o);have HC:=aa (jR (he.af.ext X0.o));have H9:aiE ((x.af.map dx).length≤9∧∀c∈x.af.map dx,c.sup.length≤9):=aa ⟨by simpa using JM,fun c hc=>by
  obtain⟨k,hk,rfl⟩:=List.mem_map.1 hc;exact KL k hk⟩
 have HR:aiE (cS (lz x.af p.cls p.ty.pure) 0 (given.drop 0)=jS x.af given p.cls p.ty.pure):=aa (by rw[List.drop_zero];rfl);have jM:aiE (∀q:Pd,∀path,lz x.af p.cls p.ty.pure q=some path→path.length≤9):=aa (fun q path h=>by
  unfold lz at h
  split at h
  ·have:=uZ h;rw[List.length_map] at this;omega
  ·cases h)
 clear hW he hg hp JM KL;unfold eu fN;generalize jS x.af given p.cls p.ty.pure=FN at *;go_enter Tryz.func143,Tryz.ntmps143;go_upto_region 1 with fail;rw[HW.o];clear HW;go_wp2
 go_loopw [17] (fun i wr=>∃k:Nat,k≤given.length∧i=.int .i64 k∧aiE (cS (lz x.af p.cls p.ty.pure) k (given.drop k)=FN)∧aiE (Ext W wr)) (fun i _=>given.length - (intOf i).toNat)
 case atStart=>exact⟨0,aiH _,rfl,HR,aa (eR _)⟩
 case round=>
  obtain⟨k,hk,rfl,HF,HX⟩:=hrel
  by_cases hlt:k<given.length
  ·have aN:(k:Int)<(given.length:Int):=by omega
   have cV:(0:Int)≤(k:Int):=by omega
   obtain⟨b,o,rfl,hb,q0,q1,q2,q3⟩:=(HG.o.ext HX.o).at_ hlt;have VA:=HG.o.all _ (aiF hlt);have wN:=aa (fun path (h:lz x.af p.cls p.ty.pure (given[k]'hlt)=some path)=>pw hlt h);have j7:=aa (fun(h:lz x.af p.cls p.ty.pure (given[k]'hlt)=none)=>(rQ hlt h).symm.trans HF.o);have Nb:=aa (jM.o (given[k]'hlt));have HE:aiE (lz x.af p.cls p.ty.pure (given[k]'hlt)=if bN (given[k]'hlt).ty p.ty=true then bU (x.af.map dx) (given[k]'hlt).cls p.cls else none):=aa rfl;have HS:=aa (fun w' (e:Ext W w')=>aa (FZ (given[k]'hlt).ty p.ty w' (VA.ty.ext e) (HT.o.ext e)));have HP:=aa (fun w' (e:Ext W w')=>aa (JK x.C x.cc (x.af.map dx) (given[k]'hlt).cls p.cls w' (HC.o.ext e) H9.o.1 H9.o.2));generalize given[k]'hlt=q at *;generalize lz x.af p.cls p.ty.pure q=SC at *;obtain⟨n0,e0,e1,e2,e3⟩:=aiI ((B2.o.ext HX.o).lt) ((B2.o.ext HX.o).cells);obtain⟨m0,d0,d1,d2⟩:=aiI ((B1.o.ext HX.o).lt) ((B1.o.ext HX.o).cells);unfold bl at HS;rw[List.length_map] at HP;clear VA;go_wp2_with fail;refine(HS.o _ (HX.o.alloc _)).o.mono ?_;rintro e w2 ⟨rfl,hx⟩;have X2:=aa (((eR wr).alloc (.cells #[encStr q.cls,encStr q.ty.aq,.int .i64 q.ty.var,.slice q.ty.A q.ty.args.length q.ty.cap] 55)).trans hx);have XX:=aa (HX.o.trans X2.o);have C2:aiE (aR w2 wr.heap.size q):=aa ((aR.new wr q).ext hx);clear hx HS q0 q1 q2 q3 hb n0 e0 e1 e2 e3 m0 d0 d1 d2;cases hs:bN q.ty p.ty
   ·have hn:SC=none:=by rw[HE.o,hs];rfl
    have QV:=aa (j7.o hn);clear wN j7 HE HP Nb C2;go_wp2;go_roundw
    case rel=>exact⟨k+1,hlt,by go_num,QV,XX⟩
    case measure=>simp[intOf];omega
   ·have zg:aiE (SC=bU (x.af.map dx) q.cls p.cls):=aa (by rw[HE.o,hs];rfl);clear HE;obtain⟨n0,e0,e1,e2,e3⟩:=aiI ((B2.o.ext XX.o).lt) ((B2.o.ext XX.o).cells);obtain⟨m0,d0,d1,d2⟩:=aiI ((B1.o.ext XX.o).lt) ((B1.o.ext XX.o).cells);obtain⟨l0,c0,c1,c2,c3⟩:=aiI C2.o.lt C2.o.cells;go_wp2_with fail;refine(HP.o _ XX.o).o.mono ?_;rintro e w5 ⟨⟨A',cap',rfl,a1,a2,HI⟩,jA⟩;have X5:=aa (XX.o.trans jA);have HI:=aa HI;rw[←zg.o] at *;clear jA HP zg n0 e0 e1 e2 e3 m0 d0 d1 d2 l0 c0 c1 c2 c3 C2 X2 XX;cases SC with
    |none=>
     have QV:=aa (j7.o rfl);clear wN j7 Nb HI;go_wp2;go_roundw
     case rel=>exact⟨k+1,hlt,by go_num,QV,X5⟩
     case measure=>simp[intOf];omega
    |some path=>
     have AY:FN=some (k,path):=HF.o.symm.trans (wN.o path rfl);have JM:=Nb.o path rfl;clear wN j7 Nb HF HR;subst AY;have B5:aiE (w5.heap[w.heap.size+2]?=some (.cells #[.int .i64 0,.int .i64 0,.slice none 0 0,.slice none 0 0] 34)):=aa ((X5.o.heap (ae B3.o)).trans B3.o);have hs5:=X5.o.size;have xe:(bD (some path)).length=path.length:=by unfold bD;simp
     have pC:aiE (∀(j:Nat) (h:j<path.length),∃b o,A'=some ⟨b,o,none⟩∧b<w5.heap.size∧w5.cell? ⟨b,o+j,none⟩=some (.int .i64 ((path[j]'h:Nat):Int))):=aa (fun j h=>by
      obtain⟨b,o,e1,e2,e3⟩:=HI.o.at_ (i:=j) (by rw[xe];exact h);refine⟨b,o,e1,e2,e3.trans ?_⟩
      congr 2
      unfold bD;simp)
     rw[xe] at a1;rw[xe];clear xe HI;have hF5:=X5.o.size;go_wp2
     go_loopw [44] (fun i wr=>∃(j:Nat) (y:Pf),j≤path.length∧i=.int .i64 j∧aiE (aO wr w5.heap.size y)∧aiE (sN W wr (cy k (path.take j)) y)∧aiE (aJ w5.heap.size y)∧aiE (Ext w5 wr)) (fun i _=>path.length - (intOf i).toNat)
     case atStart=>exact⟨0,Ct k,aiH _,rfl,aa (ah _ _ _ rfl),aa (yK _ _ k),aa (rR _ _),aa ((eR _).alloc _)⟩
     case round=>
      obtain⟨j,y,hj,rfl,HB,vO,HA,HX⟩:=hrel;have hlw:=HB.o.lt
      by_cases dC:j<path.length
      ·have JA:(j:Int)<(path.length:Int):=by omega
       have qx:(0:Int)≤(j:Int):=by omega
       obtain⟨b6,o6,rfl,zk,p0⟩:=pC.o j dC;have p1:=HX.o.cell p0;have vC:b6<wr.heap.size:=by have:=HX.o.size;omega
       have dh:aiE (path.take (j+1)=path.take j++[path[j]'dC]):=aa (aiJ dC);generalize path[j]'dC=n at *;obtain⟨y0,y1,y2,y3⟩:=HB.o.cells;have eL:=HB.o.free 0;have eO:=HB.o.free 1;have eP:=HB.o.free 2;have eQ:=HB.o.free 3;clear p0;have gS:=aa (((ij HB.o (mJ n wr.heap.size y)).ext ((eR _).alloc (.cells #[.int .i64 y.kind,.int .i64 y.n,.slice y.T y.types.length y.tc,.slice y.A y.kids.length y.cap] 34))));have Ch:aiE (sN W ((cP wr w5.heap.size (mJ n wr.heap.size y)).alloc (.cells #[.int .i64 y.kind,.int .i64 y.n,.slice y.T y.types.length y.tc,.slice y.A y.kids.length y.cap] 34)) (cy k (path.take (j+1))) (mJ n wr.heap.size y)):=aa (by
        have hsz:(cP wr w5.heap.size (mJ n wr.heap.size y)).heap.size=wr.heap.size:=by simp[cP,World.setCell]
        rw[dh.o];exact Cu (vO.o.set HA.o _) (by rw[hsz];have:=HX.o.size;omega) hsz.symm ((eR _).alloc _) (ah _ _ _ hsz.symm))
       have MU:aiE (aJ w5.heap.size (mJ n wr.heap.size y)):=aa (.mk (fun h=>absurd rfl h) (by intro x hx;cases hx) (fun _ a e=>by injection e with e;subst e;show wr.heap.size≠w5.heap.size;omega) (iP HA.o));have lW:aiE (Ext w5 ((cP wr w5.heap.size (mJ n wr.heap.size y)).alloc (.cells #[.int .i64 y.kind,.int .i64 y.n,.slice y.T y.types.length y.tc,.slice y.A y.kids.length y.cap] 34))):=aa ((aW HX.o (aiG _) _).alloc _);go_wp2;go_roundw
       case rel=>exact⟨j+1,mJ n wr.heap.size y,dC,by go_num,gS,Ch,MU,lW⟩
       case measure=>simp[intOf];omega
      ·have bS:¬(j:Int)<(path.length:Int):=by omega
       have B6:aiE (wr.heap[w.heap.size+2]?=some (.cells #[.int .i64 0,.int .i64 0,.slice none 0 0,.slice none 0 0] 34)):=aa ((HX.o.heap (ae B5.o)).trans B5.o);have IU:aiE (sN W wr (cy k path) y):=aa (by have:=vO.o;rwa [aiK (by omega)] at this);have HCw:aiE (sN w (cP wr (w.heap.size+2) y) (cy k path) y):=aa ((IU.o.set (IU.o.away _ (by have:=bR.o;omega)) y).old X0.o.size);obtain⟨y0,y1,y2,y3⟩:=HB.o.cells;obtain⟨z0,z1,z2,z3,gC,gD,gF,gH⟩:=dL B6.o;have hz:=ae B6.o;have XF:=aa (aW (X0.o.trans (X5.o.trans HX.o)) (by omega:w.heap.size≤w.heap.size+2) y);clear vO IU HA HX bS B5 hF5 hs5;go_wp2;refine bodyPost_ret (v:=.tuple #[bM y,.bool true]) ?_ rfl ⟨⟨y,rfl,⟨fun i VB h=>(by injection h with h;injection h with h1 h2;subst h1 h2;exact⟨HCw.o,JM⟩),fun h=>(by cases h)⟩⟩,XF.o⟩;simp[results,Tryz.f143,go_sem,z0,z1,z2,z3,bM]
  ·have bS:¬(k:Int)<(given.length:Int):=by omega
   have AY:FN=none:=by rw[←HF.o,px (by omega)]
   clear HF HR;subst AY;obtain⟨y0,y1,y2,y3,eL,eO,eP,eQ⟩:=dL ((HX.o.heap (ae B3.o)).trans B3.o);have hy:=ae ((HX.o.heap (ae B3.o)).trans B3.o);go_wp2;refine bodyPost_ret (v:=.tuple #[bM Pf.zero,.bool false]) ?_ rfl ⟨⟨Pf.zero,rfl,⟨fun i path h=>(by cases h),fun _=>rfl⟩⟩,?_⟩
   ·simp[results,Tryz.f143,go_sem,y0,y1,y2,y3,bM,Pf.zero,Pf.kind,Pf.n,Pf.T,Pf.tc,Pf.types,Pf.A,Pf.cap,Pf.kids]
   ·exact ar (X0.o.trans HX.o) (by omega) _ _ _ _
set_option maxRecDepth 512
set_option maxHeartbeats 200000
open Go.Shelf
structure iH (types:List Ty) (k:Nat) (s:List Pr):Prop where
 iT:gg s
 len:s.length=k
 at_:∀x:Int,(putAt (bF s) (bG s) x).map Ty.pure=if 0≤x∧x<(k:Int) then(types[x.toNat]?).map Ty.pure else none
theorem iH.zero (types:List Ty):iH types 0 []:=⟨List.Pairwise.nil,rfl,fun x=>by rw[if_neg (by omega)];rfl⟩
theorem iH.Ii {types:List Ty}{k:Nat}{s:List Pr}(h:iH types k s):putAt (bF s) (bG s) (k:Int)=none:=by
 have:=h.at_ (k:Int);rw[if_neg (by omega)] at this;simpa using this
theorem iH.no {types:List Ty}{k:Nat}{s:List Pr}(h:iH types k s){i:Nat}(hl:vA s (k:Int) i):dZ s (k:Int) i=false:=by
 have h1:=tR h.iT hl;rw[h.Ii] at h1;cases e:dZ s (k:Int) i
 ·rfl
 ·exact absurd (h1.1 e) (by simp)
theorem iH.step {types:List Ty}{k:Nat}{s:List Pr}(h:iH types k s) (hk:k<types.length){i:Nat}(hl:vA s (k:Int) i){t:Ty}(ht:t.pure=(types[k]'hk).pure):iH types (k+1) (cG s i (k:Int) t):=by
 have hn:=h.no hl;refine⟨kQ h.iT hl hn,by rw[kn hl.le,h.len],fun x => ?_⟩;rw[LB h.iT hl hn]
 by_cases e:x=(k:Int)
 ·subst e;rw[if_pos rfl,if_pos (by omega)];simp[hk,ht]
 ·rw[if_neg e,h.at_]
  by_cases e2:0≤x∧x<(k:Int)
  ·rw[if_pos e2,if_pos (by omega)]
  ·rw[if_neg e2,if_neg (by omega)]
theorem iH.tW {types:List Ty}{k:Nat}{s:List Pr}(h:iH types k s) (ht:∀t∈types,ax t=true):∀p∈s,ax p.ty=true:=by
 intro p hp;have h1:putAt (bF s) (bG s) p.v=some p.ty:=(ee h.iT).2 ⟨p,hp,rfl,rfl⟩;have h2:=h.at_ p.v;rw[h1] at h2
 split at h2
 ·cases e:types[p.v.toNat]? with
  |none=>rw[e] at h2;cases h2
  |some u=>
   rw[e] at h2;have h2:p.ty.pure=u.pure:=by simpa using h2
   rw[fe h2];exact ht u (List.mem_of_getElem? e)
 ·cases h2
theorem iH.var {types:List Ty}{s:List Pr}(h:iH types types.length s){v:Nat}(hv:v<types.length):∃u,putAt (bF s) (bG s) (v:Int)=some u∧u.pure=(types[v]'hv).pure:=by
 have h2:=h.at_ (v:Int);rw[if_pos (by omega)] at h2;simp only[Int.toNat_natCast,aiU hv,Option.map_some] at h2;cases e:putAt (bF s) (bG s) (v:Int) with
 |none=>rw[e] at h2;cases h2
 |some u=>rw[e] at h2;exact⟨u,rfl,by simpa using h2⟩
theorem iH.Mk {types:List Ty}{n:Int}{s:List Pr}(h:iH types types.length s) (hn:n≤types.length) (ht:∀t∈types,ax t=true){preds:List Pd}(hp:∀p∈preds,bj n p=true):vU s preds:=by
 intro p Qh;obtain⟨v,A,c,e,hv⟩:=fj (hp p Qh);have nY:v<types.length:=by omega
 obtain⟨u,hat,hu⟩:=h.var nY;obtain⟨l1,l2,-⟩:=aS ((fe hu).trans (ht _ (aiF nY)));rw[e];refine⟨oo _ _ _,?_,?_⟩
 ·rw[jE,if_pos (show(Ty.mk [] (v:Int) A c []).aq=[] from rfl)];show(match putAt (bF s) (bG s) (v:Int) with|some u=>u.size|none=>1)≤4096;rw[hat];exact l1
 ·rw[mi,if_pos (show(Ty.mk [] (v:Int) A c []).aq=[] from rfl)];show(match putAt (bF s) (bG s) (v:Int) with|some u=>u.depth|none=>1)≤100;rw[hat];exact l2
theorem iH.BX {types:List Ty}{n:Int}{s:List Pr}(h:iH types types.length s) (hn:n≤types.length){preds:List Pd}(hp:∀p∈preds,bj n p=true) :
  (preds.map fun x=>(x.cls,fZ (bF s) (bG s) x.ty))=preds.map fun p=>(p.cls,(types.map Ty.pure).getD p.ty.var.toNat (.mk [] 0 [])):=by
 refine List.map_congr_left fun p Qh => ?_
 obtain⟨v,A,c,e,hv⟩:=fj (hp p Qh);have nY:v<types.length:=by omega
 obtain⟨u,hat,hu⟩:=h.var nY;rw[e]
 congr 1
 rw[eX,if_pos (show(Ty.mk [] (v:Int) A c []).aq=[] from rfl)];show((putAt (bF s) (bG s) (v:Int)).getD _).pure=(types.map Ty.pure).getD (v:Int).toNat _;rw[hat,Int.toNat_natCast];simp[nY,hu]
theorem iH.from_ {types:List Ty}{n:Int}{s:List Pr}(h:iH types types.length s) (hn:n≤types.length){preds ds:List Pd}(hp:∀p∈preds,bj n p=true) (hd:ds.map (fun d=>(d.cls,d.ty.pure))=preds.map fun x=>(x.cls,fZ (bF s) (bG s) x.ty)) :
  ∀d∈ds,∃a∈types,d.ty.pure=a.pure:=by
 intro d hdm;have hm:(d.cls,d.ty.pure)∈preds.map fun x=>(x.cls,fZ (bF s) (bG s) x.ty):=hd▸List.mem_map.2 ⟨d,hdm,rfl⟩
 obtain⟨p,Qh,e⟩:=List.mem_map.1 hm;injection e with _ e2;obtain⟨v,A,c,e,hv⟩:=fj (hp p Qh);have nY:v<types.length:=by omega
 obtain⟨u,hat,hu⟩:=h.var nY;refine⟨_,aiF nY,?_⟩;rw[←e2,e,eX,if_pos (show(Ty.mk [] (v:Int) A c []).aq=[] from rfl)];show((putAt (bF s) (bG s) (v:Int)).getD _).pure=_;rw[hat];exact hu
theorem jm {t k:Ty}(h:ax t=true) (hk:k∈t.args):ax k=true:=by
 obtain⟨h1,h2,h3⟩:=aS h;have a1:=Ty.bo hk;have a2:k.depth≤t.depth:=by
  rw[Ty.aT t];have:∀l:List Ty,k∈l→k.depth≤(l.map Ty.depth).foldr max 0:=by
   intro l
   induction l with
   |nil=>intro h;cases h
   |cons x l ih=>
    intro h;rw[List.map_cons,List.foldr_cons]
    rcases List.mem_cons.1 h with rfl|h
    ·omega
    ·have:=ih h;omega
  have:=this _ hk;omega
 rw[cW,aiT,aiY] at h3;unfold ax;simp only[aiT,decide_eq_true_eq];exact⟨⟨by omega,by omega⟩,h3.2 _ hk⟩
structure JN (w w':World) (args:List Ty) (O:Option (Nat×List (aj×Ty.Pure))) (i:Int) (A:Option Addr) (c:Nat) (ds:List Pd):Prop where
 len:ds.length≤40000
 args:∀d∈ds,∃a∈args,d.ty.pure=a.pure
 yes:∀k wants,O=some (k,wants)→i=(k:Int)∧ds.map (fun d=>(d.cls,d.ty.pure))=wants
 gZ:bg w' A ds
 le:ds.length≤c
 max:c≤9223372036854775807
 away:∀d∈ds,∀c,c<w.heap.size→aC c d.ty=true
theorem nU {ins:List cL}{c:aj}{t:Ty}(h:fJ ins c t.aq=none):wL ins c t.pure=none:=by
 rw[Ty.aG];simp only[wL,h]
theorem rS {ins:List cL}{c:aj}{t:Ty}{i:Nat}(h:fJ ins c t.aq=some i) (hi:i<ins.length):wL ins c t.pure=if t.aq=[]∨(ins[i]'hi).n≠(t.args.length:Int) then none else some (i,(ins[i]'hi).preds.map fun p=>(p.cls,(t.args.map Ty.pure).getD p.ty.var.toNat (.mk [] 0 []))):=by
 rw[Ty.aG];simp only[wL,h,aiU hi,List.length_map]
set_option maxRecDepth 10000
set_option maxHeartbeats 8000000
theorem aaH (I:Option Addr) (ic:Nat) (ins:List cL) (p:Pd) (w:World) (hI:iJ w I ins) (hp:dH w p) (gU:ax p.ty=true) (bT:∀x∈ins,bE x=true) (hlen:ins.length≤1000000) (hpl:∀x∈ins,x.preds.length≤40000) :
  Calls Tryz.prog 145 #[.slice I ins.length ic,fN p] w fun e w'=>(∃i A c ds,e=.returned (.tuple #[.int .i64 i,.slice A (List.length ds) c,.bool (wL ins p.cls p.ty.pure).isSome])∧JN w w' p.ty.args (wL ins p.cls p.ty.pure) i A c ds)∧Ext w w':=by
 obtain⟨W,hW⟩:∃W,W=w.alloc (.cells #[encStr p.cls,encStr p.ty.aq,.int .i64 p.ty.var,.slice p.ty.A p.ty.args.length p.ty.cap] 55):=⟨_,rfl⟩;have HW:=aa hW.symm;have X0:aiE (Ext w W):=aa (by rw[hW];exact(eR _).alloc _);have B2:aiE (aR W w.heap.size p):=aa (by rw[hW];exact aR.new w p);have HF:=aa (QT I ic ins p.cls p.ty.aq W (hI.ext X0.o) (by omega));have HI:=aa (hI.ext X0.o);have HT:=aa (hp.ty.ext X0.o);have rT:aiE (∀w' i,JN w w' p.ty.args none i none 0 []):=aa (fun w' i=>⟨by simp,by simp,fun k wants h=>(by cases h),⟨ak.nil _ _ _,by simp⟩,aiG _,by omega,by simp⟩);clear hW hp hI;obtain⟨e0,e1,e2,e3⟩:=B2.o.cells;have n0:=B2.o.lt;have Hl:=aa gU;clear gU;cases hf:fJ ins p.cls p.ty.aq with
 |none=>
  rw[nU hf];rw[hf] at HF;clear hf bT hpl;unfold fN;go_enter Tryz.func145,Tryz.ntmps145;go_upto_region 1 with fail;rw[HW.o];go_wp2_with fail;refine HF.o.mono ?_;rintro e w2 ⟨rfl,hx⟩;have X2:=aa hx;obtain⟨e0,e1,e2,e3⟩:=(B2.o.ext X2.o).cells;have n0:=(B2.o.ext X2.o).lt;clear hx HF;go_wp2
  go_quiet (fail)
  go_wp2;go_ret3;exact⟨⟨0,none,0,[],rfl,rT.o _ _⟩,X0.o.trans (X2.o.drewN _)⟩
 |some i=>
  obtain⟨hi,-,-⟩:=wM hf;rw[rS hf hi];rw[hf] at HF;have Hx:=aa (bT _ (aiF hi));have VC:=aa (hpl _ (aiF hi));have XJ:=aa (HI.o.all _ (aiF hi));obtain⟨b,o,rfl,hb,q0,q1,q2,q3⟩:=HI.o.at_ hi;have hi':(i:Int)<(ins.length:Int):=by omega
  have KP:(0:Int)≤(i:Int):=by omega
  have ky:aiE (∀w',Ext W w'→b<w'.heap.size∧w'.cell? ⟨b,o+i*4+2,none⟩=some (.int .i64 (ins[i]'hi).n)∧w'.cell? ⟨b,o+i*4+3,none⟩=some (.slice (ins[i]'hi).A (ins[i]'hi).preds.length (ins[i]'hi).cap)):=aa (fun w' e=>⟨Nat.lt_of_lt_of_le hb e.size,e.cell q2,e.cell q3⟩);clear hf bT hpl q0 q1 q2 q3 hb;generalize ins[i]'hi=x at *;unfold fN
  by_cases hc:p.ty.aq=[]
  ·rw[if_pos (.inl hc)];have hc2:(p.ty.aq == ([]:aj))=true:=by simpa using hc
   clear hc;go_enter Tryz.func145,Tryz.ntmps145;go_upto_region 1 with fail;rw[HW.o];go_wp2_with fail;refine HF.o.mono ?_;rintro e w2 ⟨rfl,hx⟩;have X2:=aa hx;obtain⟨e0,e1,e2,e3⟩:=(B2.o.ext X2.o).cells;have n0:=(B2.o.ext X2.o).lt;clear hx HF;go_wp2
   go_quiet (fail)
   go_wp2;go_ret3;exact⟨⟨0,none,0,[],rfl,rT.o _ _⟩,X0.o.trans (X2.o.drewN _)⟩
  ·have hc2:(p.ty.aq == ([]:aj))=false:=by simpa using hc
   by_cases hn:x.n=(p.ty.args.length:Int)
   ·rw[if_neg (by rintro (h|h);exact hc h;exact h hn)];have mO:(x.n != (p.ty.args.length:Int))=false:=by simp[hn]
    clear hc;have qE:aiE (∀w',Ext W w'→w.heap.size<w'.heap.size∧w'.cell? ⟨w.heap.size,0,none⟩=some (encStr p.cls)∧w'.cell? ⟨w.heap.size,1,none⟩=some (encStr p.ty.aq)∧w'.cell? ⟨w.heap.size,2,none⟩=some (.int .i64 p.ty.var)∧w'.cell? ⟨w.heap.size,3,none⟩=some (.slice p.ty.A p.ty.args.length p.ty.cap)):=aa (fun w' e=>⟨(B2.o.ext e).lt,(B2.o.ext e).cells⟩);have HA:aiE (bH W p.ty.A p.ty.args):=aa HT.o.all;have Hla:aiE (∀t∈p.ty.args,ax t=true):=aa (fun t ht=>jm Hl.o ht);have VD:aiE (p.ty.args.length≤100∧x.n≤(p.ty.args.length:Int)):=aa (by
     have hh:=Hx.o;unfold bE at hh;rw[aiT] at hh;have:=nj hh.1;omega)
    have XL:aiE (∀y∈x.preds,bj x.n y=true):=aa (by
     have hh:=Hx.o;unfold bE at hh;rw[aiT,aiY] at hh;exact hh.2)
    clear B2 HT Hl Hx e0 e1 e2 e3 n0 hn;generalize p.ty.A=PA at *;generalize p.ty.args=args at *;generalize p.ty.cap=pc at *;generalize p.ty.var=pv at *;generalize p.ty.aq=agn at *;generalize p.cls=ago at *;obtain⟨n0,e0,e1,e2,e3⟩:=qE.o W (eR _);go_enter Tryz.func145,Tryz.ntmps145;go_upto_region 1 with fail;rw[HW.o];clear HW;go_wp2_with fail;refine HF.o.mono ?_;rintro e w2 ⟨rfl,hx⟩;have X2:=aa hx;clear hx HF n0 e0 e1 e2 e3;obtain⟨n0,e0,e1,e2,e3⟩:=qE.o _ X2.o;obtain⟨m0,d2,d3⟩:=ky.o _ X2.o;go_upto_region 2 with fail
    go_quiet (fail)
    go_upto_region 4 with fail;refine bJ ?_;intro W3 hW3;have X3:aiE (Ext W W3):=aa (by rw[hW3];exact X2.o.drewN _);clear hW3 X2 n0 e0 e1 e2 e3 m0 d2 d3;obtain⟨n0,e0,e1,e2,e3⟩:=qE.o _ X3.o;have hs3:=X3.o.size;go_wp2_with fail;refine(GX W3).mono ?_;rintro e w4 ⟨rfl,gq,hx⟩;have YN:=aa gq;have X4:=aa (X3.o.trans hx);clear hx gq n0 e0 e1 e2 e3;generalize Xs:W3.heap.size=B0 at *;clear Xs X3;obtain⟨n0,e0,e1,e2,e3⟩:=qE.o _ X4.o;go_wp2
    go_loopw [49] (fun i wr=>∃(k:Nat) (s:List Pr) (v:Value),k≤args.length∧i=.int .i64 k∧aiE (fh wr B0 B0 v s)∧aiE (iH args k s)∧aiE (Ext W wr)) (fun i _=>args.length - (intOf i).toNat)
    case atStart=>exact⟨0,[],.slice none 0 0,aiH _,rfl,YN,aa (iH.zero _),X4⟩
    case round=>
     obtain⟨k,s,v,hk,rfl,HS,HN,HX⟩:=hrel
     by_cases hlt:k<args.length
     ·have aN:(k:Int)<(args.length:Int):=by omega
      have cV:(0:Int)≤(k:Int):=by omega
      obtain⟨b7,o7,rfl,vC,q0,q1,q2⟩:=(HA.o.ext HX.o).at_ hlt;have hlk:=Hla.o _ (aiF hlt);have HC:=aa (fun w' (e:Ext wr w')=>aa (Tz B0 B0 v s (k:Int) (args[k]'hlt) w' (HS.o.ext e) ((HA.o.args _ (aiF hlt)).ext (HX.o.trans e)) (by have:=(aS hlk).1;omega) hlk (by have:=HN.o.len;have:=VD.o.1;omega) (fun i hl=>HN.o.no hl)));have Si:=aa (fun i (hl:vA s (k:Int) i) (t:Ty) (ht:t.pure=(args[k]'hlt).pure)=>HN.o.step hlt hl ht);generalize args[k]'hlt=t at *;unfold bl at HC;have bS:=HS.o.ge;have hsw:=HX.o.size;have adf:=VD.o.1;clear hlk;go_wp2_with fail;refine(HC.o _ ((eR _).alloc _)).o.mono ?_;rintro e w6 ⟨rfl,i6,v6,t6,hl6,ht6,Z7,ha6,-⟩;have HS6:=aa Z7;have HN6:=aa (Si.o i6 hl6 t6 ht6);have X6:aiE (Ext W w6):=aa (Ext.cw ((HX.o.alloc _).below.trans (ha6.below (by simp;omega) hs3 (fun k hk=>aiM hs3 (bS k hk)))) (aiG _));clear hl6 ht6 Z7 ha6 HC Si bS q0 q1 q2 vC;go_wp2;go_roundw
      case rel=>exact⟨k+1,_,v6,hlt,by go_num,HS6,HN6,X6⟩
      case measure=>simp[intOf];omega
     ·have bS:¬(k:Int)<(args.length:Int):=by omega
      have FI:aiE (iH args args.length s):=aa (by have:=HN.o;rwa [show k=args.length by omega] at this);obtain⟨m0,d2,d3⟩:=ky.o _ HX.o;obtain⟨SA,sc,rfl,hsi⟩:=HS.o.sub;have HC:=aa (Mb B0 SA sc s x.A x.cap x.preds wr hsi (FI.o.tW Hla.o) ((XJ.o.row).ext HX.o) VC.o (FI.o.Mk VD.o.2 Hla.o XL.o));have Hww:=aa (FI.o.BX VD.o.2 XL.o);clear hsi;go_wp2_with fail;refine HC.o.mono ?_;rintro e w8 ⟨⟨v,ds,rfl,hown,mQ⟩,hx⟩;obtain⟨A9,c9,rfl,l1,l2,hrow,-⟩:=ak.own j8 hown;have HX8:=aa (X0.o.trans (HX.o.trans hx));have HR:aiE (bg w8 A9 ds):=aa ⟨hrow,fun d hd=>⟨by
       obtain⟨j,hj,rfl⟩:=List.mem_iff_getElem.1 hd;have h2:j<x.preds.length:=by rw[←mQ.len];exact hj
       have e:=congrArg (fun l=>l[j]?) mQ.is;simp only[List.getElem?_map,aiU hj,aiU h2,Option.map_some,Option.some.injEq,Prod.mk.injEq] at e;rw[e.1];exact(XJ.o.row.all _ (aiF h2)).cls,mQ.ty d hd⟩⟩
      have HY:aiE (JN w w8 args (some (i,x.preds.map fun y=>(y.cls,(args.map Ty.pure).getD y.ty.var.toNat (.mk [] 0 [])))) (i:Int) A9 c9 ds):=aa ⟨by rw[mQ.len];exact VC.o,FI.o.from_ VD.o.2 XL.o mQ.is,fun k wants h=>(by injection h with h;injection h with h1 h2;subst h1 h2;exact⟨rfl,mQ.is.trans Hww.o⟩),HR.o,l1,l2,fun d hd c hc=>mQ.away d hd c (by have:=X0.o.size;have:=HX.o.size;omega) (fun y hy=>by
       obtain⟨v,A,cc,e,-⟩:=fj (XL.o y hy);rw[e];exact dG (fun h=>absurd rfl h) (by intro z hz;cases hz))⟩
      clear hown mQ hrow hx HC d2 d3 m0;go_wp2;go_ret3;exact⟨⟨_,A9,c9,ds,rfl,HY.o⟩,HX8.o⟩
   ·rw[if_pos (.inr hn)];have mO:(x.n != (p.ty.args.length:Int))=true:=by simp[hn]
    clear hc hn;go_enter Tryz.func145,Tryz.ntmps145;go_upto_region 1 with fail;rw[HW.o];go_wp2_with fail;refine HF.o.mono ?_;rintro e w2 ⟨rfl,hx⟩;have X2:=aa hx;obtain⟨e0,e1,e2,e3⟩:=(B2.o.ext X2.o).cells;have n0:=(B2.o.ext X2.o).lt;obtain⟨m0,d2,d3⟩:=ky.o _ X2.o;clear hx HF;go_wp2
    go_quiet (fail)
    go_wp2;go_ret3;exact⟨⟨0,none,0,[],rfl,rT.o _ _⟩,X0.o.trans (X2.o.drewN _)⟩
set_option maxRecDepth 512
set_option maxHeartbeats 200000
def VE (w w':World) (p:Pd) (e:Ending):Except Int (Pf.Pure×Nat)→Prop
 | .ok (Q,n)=>∃u,e=.returned (.tuple #[bM u,.int .i64 (n:Nat)])∧bW w' u∧u.pure=Q∧u.size=n∧n≤4096∧∀c,c<w.heap.size→aC c p.ty=true→aJ c u
 | .error k=>e=.panicked [{ v:=.iface 162 (.agg #[.int .i64 k]),recovered:=false }]
def OO (k:Nat) (args:List Ty.Pure):Except Int (List Pf.Pure×Nat)→Except Int (Pf.Pure×Nat)
 | .error e=>.error e
 | .ok (l,n)=>.ok (.mk 3 (k:Int) args l,n)
def SrC (x:di) (G:Option Addr) (gc:Nat) (given:List Pd) (m:Nat):Prop:=
 ∀(p:Pd) (w:World),dJ w x→bg w G given→dH w p→ax p.ty=true→p.ty.size≤m →
  Calls Tryz.prog 98 #[eu x,.slice G given.length gc,fN p] w fun e w'=>VE w w' p e (cz x.af x.insts given m p.cls p.ty.pure)∧Ext w w'
structure tC (x:di) (given:List Pd):Prop where
 gl:given.length≤1000000
 l9:x.af.length≤9
 s9:∀c∈x.af,c.cQ.length≤9
 ok:∀y∈x.insts,bE y=true
 il:x.insts.length≤1000000
 pl:∀y∈x.insts,y.preds.length≤40000
theorem Row.VF {w:World}{b:Nat}{t:TypeId}{fr:Nat×Nat}(x0 x1 x2 x3:Value) (h:w.heap[b]?=some (.cells #[x0,x1,x2,x3] t fr)):Row w (some ⟨b,0,none⟩) 4 1 [x0,x1,x2,x3]:=by
 refine⟨rfl,fun _=>⟨b,0,rfl,ae h,fun j u hu => ?_⟩⟩;rw[Nat.zero_add];simp only[World.cell?,h];simpa using hu
theorem rU (us:List Pf) (y:Pf):(us++[y]).flatMap si.f=us.flatMap si.f++[.int .i64 y.kind,.int .i64 y.n,.slice y.T y.types.length y.tc,.slice y.A y.kids.length y.cap]:=by
 rw[List.flatMap_append,List.flatMap_cons,List.flatMap_nil,List.append_nil];rfl
structure yL (wx wr:World) (b N k:Nat) (u:Ty) (us:List Pf) (v:Value):Prop where
 box:wr.heap[b]?=some (.cells #[.int .i64 3,.int .i64 (k:Nat),.slice u.A u.args.length u.cap,v] 34 (0,0))
 own:wr.ownsRow (b+1) 34 4 v us.length (us.flatMap si.f)
 gZ:∀y∈us,bW wr y
 VG:∀y∈us,aJ b y
 DX:∀y∈us,∀c,v.ownBlock=some c→aJ c y
 away:∀y∈us,∀c,c<N→aJ c y
 ext:Ext wx wr
theorem yL.snoc {wx wr w5 w6:World}{b N k:Nat}{u:Ty}{us:List Pf}{v v6:Value}{y:Pf}(h:yL wx wr b N k u us v) (hb:wx.heap.size≤b) (e:Ext wr w5) (hy:bW w5 y) (QW:aJ b y) (hyr:∀c,v.ownBlock=some c→aJ c y) (hyN:∀c,c<N→aJ c y)
  (hown:w6.ownsRow (b+1) 34 4 v6 (us++[y]).length ((us++[y]).flatMap si.f)) (hg:w5.grownBy w6 v.ownBlock) (hat:v6.ownBlock=v.ownBlock∨∀c,v6.ownBlock=some c→w5.heap.size≤c) :
  yL wx (w6.setCell ⟨b,3,none⟩ v6) b N k u (us++[y]) v6:=by
 have bS:∀c,v.ownBlock=some c→b+1≤c:=fun c hc=>(h.own.lt c hc).1
 have N0:w5.heap[b]?=_:=(e.heap (ae h.box)).trans h.box;have zk:w6.heap[b]?=_:=(hg.block b (ae N0) (fun e=>by have:=bS b e.symm;omega)).trans N0;have all:∀z∈us++[y],bW w5 z∧aJ b z∧(∀c,v.ownBlock=some c→aJ c z)∧∀c,c<N→aJ c z:=fun z hz=>by
  rcases List.mem_append.1 hz with hz|hz
  ·exact⟨(h.gZ z hz).ext e,h.VG z hz,h.DX z hz,h.away z hz⟩
  ·rw[aiV] at hz;subst hz;exact⟨hy,QW,hyr,hyN⟩
 refine⟨?_,hown.kept (aL _ _ _ _) (.inr (fun e=>by have:=(hown.lt _ e).1;omega)),fun z hz => ?_,fun z hz=>(all z hz).2.1,fun z hz c hc => ?_,fun z hz=>(all z hz).2.2.2,?_⟩
 ·rw[aw zk];simp
 ·obtain⟨a1,a2,a3,-⟩:=all z hz;exact(a1.grown hg a3).grown (aL _ _ _ _) (fun c e=>by injection e with e;subst e;exact a2)
 ·obtain⟨a1,-,a3,-⟩:=all z hz
  rcases hat with h1|h1
  ·exact a3 c (h1▸hc)
  ·exact dO a1 (h1 c hc)
 ·exact((h.ext.trans e).grown hg (fun c hc=>by have:=bS c hc;omega)).setCell (show wx.heap.size≤b from hb) _
theorem yL.more {wx wr w5:World}{b N k:Nat}{u:Ty}{us:List Pf}{v:Value}(h:yL wx wr b N k u us v) (e:Ext wr w5):yL wx w5 b N k u us v:=
 ⟨(e.heap (ae h.box)).trans h.box,aZ h.own e,fun y hy=>(h.gZ y hy).ext e,h.VG,h.DX,h.away,h.ext.trans e⟩
theorem oL (us:List Pf) (y:Pf){n m:Nat}(h:(us.map Pf.size).sum+1=n) (hy:y.size=m):((us++[y]).map Pf.size).sum+1=n+m:=by
 rw[aiX,List.sum_append];simp[hy];omega
set_option maxRecDepth 10000
set_option maxHeartbeats 8000000
theorem rV (x:di) (G:Option Addr) (gc:Nat) (given:List Pd) (hE:tC x given) (m:Nat) (ih:SrC x G gc given m):SrC x G gc given (m+1):=by
 intro p w he hg hp gU hsz;obtain⟨W,hW⟩:∃W,W=((w.alloc (.cells #[.slice x.D x.aA.length x.dc,.slice x.C x.af.length x.cc,.slice x.I x.insts.length x.ic] 26)).alloc (.cells #[encStr p.cls,encStr p.ty.aq,.int .i64 p.ty.var,.slice p.ty.A p.ty.args.length p.ty.cap] 55)).alloc (.cells #[.int .i64 0,.int .i64 0,.slice none 0 0,.slice none 0 0] 34):=⟨_,rfl⟩;have HW:=aa hW.symm;have X0:aiE (Ext w W):=aa (by rw[hW];exact(((eR _).alloc _).alloc _).alloc _);have B1:aiE (aI W w.heap.size x):=aa (by rw[hW];exact(aI.new w x).ext (((eR _).alloc _).alloc _));have B2:aiE (aR W (w.heap.size+1) p):=aa (by rw[hW];exact aR.ext (ah _ _ _ (by simp)) ((eR _).alloc _));have B3:aiE (W.heap[w.heap.size+1+1]?=some (.cells #[.int .i64 0,.int .i64 0,.slice none 0 0,.slice none 0 0] 34)):=aa (by rw[hW];exact ah _ _ _ (by simp));have bR:aiE (W.heap.size=w.heap.size+3):=aa (by rw[hW];simp);have HS:=aa (JL x G gc given p W (he.ext X0.o) (hg.ext X0.o) (hp.ext X0.o) hE.gl hE.l9 hE.s9);have HY:=aa (fun w' (e:Ext W w')=>aa (aaH x.I x.ic x.insts p w' (he.insts.ext (X0.o.trans e)) (hp.ext (X0.o.trans e)) gU hE.ok hE.il hE.pl));have BJ:=aa (fun q w' (e:Ext W w') hq hl hs=>aa (ih q w' (he.ext (X0.o.trans e)) (hg.ext (X0.o.trans e)) hq hl hs));have HT:=aa (hp.ty.ext X0.o);have oV:=aa gU;have Da:=aa hsz;have HR:aiE (cz x.af x.insts given (m+1) p.cls p.ty.pure=match jS x.af given p.cls p.ty.pure with
  |some (i,path)=>.ok (cy i path,path.length+1)
  |none=>match wL x.insts p.cls p.ty.pure with
   |none=>.error 16
   |some (i,wants)=>match bL (cz x.af x.insts given m) wants [] 1 with
    | .error e=>.error e
    | .ok (l,n)=>.ok (.mk 3 i p.ty.pure.args l,n)):=aa rfl
 have JO:=aa hp.ty;obtain⟨i0,hi,hz0,hz1,hz2⟩:=info_parts xR;clear hW he hg hp gU hsz ih hE;generalize cz x.af x.insts given (m+1) p.cls p.ty.pure=R at *;generalize jS x.af given p.cls p.ty.pure=O at *;generalize wL x.insts p.cls p.ty.pure=O2 at *;obtain⟨c0,c1,c2,c3⟩:=B2.o.cells;obtain⟨e0,e1,e2⟩:=B1.o.cells;have n1:=B1.o.lt;have n2:=B2.o.lt;unfold eu fN at *;go_enter Tryz.func98,Tryz.ntmps98;go_upto_region 1 with fail;rw[HW.o];clear HW;go_wp2_with fail;refine HS.o.mono ?_;rintro e w2 ⟨⟨u,rfl,hu⟩,hx2⟩;have X2:=aa hx2;have Hu:=aa hu;clear hx2 hu HS c0 c1 c2 c3 e0 e1 e2 n1 n2;go_upto_region 2 with fail;refine bJ ?_;intro W3 hW3;have E3:aiE (Ext w2 W3):=aa (by rw[hW3];exact(eR _).alloc _);have D1:aiE (aO W3 w2.heap.size u):=aa (by rw[hW3];exact aO.new w2 u);have X3:=aa (X2.o.trans E3.o);clear hW3;cases O with
 |some ip=>
  obtain⟨i,path⟩:=ip;obtain⟨LU,JM⟩:=Hu.o.yes i path rfl;have hR:R=.ok (cy i path,path.length+1):=HR.o;clear HR HY BJ;subst hR;have hsz:=mL i path.length path rfl u LU.is;have vO:=aa (LU.ext E3.o);have B4:aiE (W3.heap[w.heap.size+1+1]?=some (.cells #[.int .i64 0,.int .i64 0,.slice none 0 0,.slice none 0 0] 34)):=aa ((X3.o.heap (ae B3.o)).trans B3.o);have ki:=aa (fun w' (h:bW w' u)=>aa (Gq u w' h (by omega)));rw[hsz] at ki;have QX:=aa hsz;obtain⟨d0,d1,d2,d3⟩:=D1.o.cells;have n4:=D1.o.lt;obtain⟨z0,z1,z2,z3,gC,gD,gF,gH⟩:=dL B4.o;have hz:=ae B4.o;have hne:w2.heap.size≠w.heap.size+1+1:=by have:=X2.o.size;have:=bR.o;omega
  clear LU Hu hsz;go_wp2
  go_region_held3 (fun w'=>w'.cell? ⟨w2.heap.size,0,none⟩=some (.int .i64 u.kind)∧w'.cell? ⟨w2.heap.size,1,none⟩=some (.int .i64 u.n)∧w'.cell? ⟨w2.heap.size,2,none⟩=some (.slice u.T u.types.length u.tc)∧w'.cell? ⟨w2.heap.size,3,none⟩=some (.slice u.A u.kids.length u.cap)) (first|with_reducible assumption|(obtain⟨g0,g1,g2,g3⟩:=kS;with_reducible exact⟨aM hne _ _ _ _ g0,aM hne _ _ _ _ g1,aM hne _ _ _ _ g2,aM hne _ _ _ _ g3⟩)|go_keep) (first
   |(
    go_at_call 144
    refine Calls.mono (ki.o _ (vO.o.gZ.ext (by repeat(first|exact eR _|exact eA (by assumption) _|refine eA ?_ _|refine eM ?_ _ _|refine eD ?_|refine eN ?_ _)))).o ?_;rintro e y ⟨rfl,hy⟩;have EA:aiE (Ext W3 y):=aa (by refine Ext.trans ?_ hy;exact(by repeat(first|exact eR _|exact eA (by assumption) _|refine eA ?_ _|refine eM ?_ _ _|refine eD ?_|refine eN ?_ _)));have kS:=aiI (EA.o.cell d0) (aiI (EA.o.cell d1) (aiI (EA.o.cell d2) (EA.o.cell d3)));have B5:=aa ((EA.o.heap (ae B4.o)).trans B4.o);obtain⟨a0,a1,a2,a3,Wy,af1,af2,af3⟩:=dL B5.o;have WY:=ae B5.o))
  have HF:=aa ((vO.o.ext EA.o).set (vO.o.away (w.heap.size+1+1) (by have:=bR.o;omega)) u);have XF:=aa (aW (X0.o.trans (X3.o.trans EA.o)) (by omega:w.heap.size≤w.heap.size+1+1) u);go_wp2;refine bodyPost_ret (v:=.tuple #[bM u,.int .i64 ((path.length+1:Nat):Int)]) ?_ rfl ⟨⟨u,rfl,?_,HF.o.is,QX.o,by omega,fun c hc _=>HF.o.away c (by have:=X0.o.size;omega)⟩,?_⟩
  ·simp[results,Tryz.f98,go_sem,a0,a1,a2,a3,bM]
  ·exact HF.o.gZ.ext (by repeat(first|exact eR _|exact eA (by assumption) _|refine eA ?_ _|refine eM ?_ _ _|refine eD ?_|refine eN ?_ _))
  ·exact XF.o.trans (by repeat(first|exact eR _|exact eA (by assumption) _|refine eA ?_ _|refine eM ?_ _ _|refine eD ?_|refine eN ?_ _))
 |none=>
  have Ox:=Hu.o.no rfl;clear Hu D1 Ox;obtain⟨c0,c1,c2,c3⟩:=(B2.o.ext X3.o).cells;obtain⟨e0,e1,e2⟩:=(B1.o.ext X3.o).cells;have n1:=(B1.o.ext X3.o).lt;have n2:=(B2.o.ext X3.o).lt;go_wp2_with fail;refine(HY.o _ X3.o).o.mono ?_;rintro e w4 ⟨⟨i,A,ca,ds,rfl,hby⟩,eJ⟩;have X4:=aa (X3.o.trans eJ);have VH:=eJ.size;have tD:=aa hby
  clear eJ hby HY c0 c1 c2 c3 e0 e1 e2 n1 n2;cases O2 with
  |none=>
   have hR:R=.error 16:=HR.o;clear HR;subst hR;go_wp2;exact⟨rfl,rfl,X0.o.trans X4.o⟩
  |some iw=>
   obtain⟨k,wants⟩:=iw;obtain⟨hi,mQ⟩:=tD.o.yes k wants rfl;subst hi;have HD:=aa tD.o.gZ;have N2:=tD.o.le;have hdn:=tD.o.len;have Hda:=aa tD.o.args;have hca:=tD.o.max;have AZ:=aa tD.o.away;have QY:=aa mQ;have hw3:=X3.o.size;clear tD mQ;go_upto_region 7 with fail;refine bJ ?_;intro W5 lI;have E5:aiE (Ext w4 W5):=aa (by rw[lI];exact eR _);have X5:=aa (X4.o.trans E5.o);clear lI;obtain⟨c0,c1,c2,c3⟩:=(B2.o.ext X5.o).cells;have n2:=(B2.o.ext X5.o).lt;have ei:=aa (fun w' (e:Ext W5 w')=>aiI (e.cell c1) (aiI (e.cell c2) (e.cell c3)));have ly:w.heap.size+1≠W5.heap.size:=by omega
   have KY:=aa (HT.o.ext X5.o);have VI:p.ty.size≤900000:=by have:=(aS oV.o).1;omega
   go_cut [13,14] (fun Ue Su wx=>∃(Oo:Nat) (u:Ty),Ue=.pointer (some ⟨Oo,0,none⟩)∧aiE (jW w W5 wx Oo p.ty u))
   case first=>
    go_region_held3 (fun w'=>w'.cell? ⟨w.heap.size+1,1,none⟩=some (encStr p.ty.aq)∧w'.cell? ⟨w.heap.size+1,2,none⟩=some (.int .i64 p.ty.var)∧w'.cell? ⟨w.heap.size+1,3,none⟩=some (.slice p.ty.A p.ty.args.length p.ty.cap)) (first|with_reducible assumption|(obtain⟨g1,g2,g3⟩:=kS;with_reducible exact⟨um Md _ _ _ g1,um Md _ _ _ g2,um Md _ _ _ g3⟩)|go_keep) (first
     |(
      go_at_call 77
      refine Calls.mono (GX _) ?_;rintro e y1 ⟨rfl,gq,hx1⟩;have HSub:=aa (xP gq)
      first
       |(have HSub:aiE (iN y1 (W5.heap.size+1) none 0 []):=aa (by have h:=HSub.o;have e:∀o,(W5.alloc o).drew.heap.size=W5.heap.size+1:=fun o=>World.size_alloc W5 o;rw[e] at h;exact h))
       |skip
      have E1:aiE (Ext W5 y1):=aa (by refine Ext.trans ?_ hx1;exact(by repeat(first|exact eR _|exact eA (by assumption) _|refine eA ?_ _|refine eM ?_ _ _|refine eD ?_|refine eN ?_ _)));have kS:=ei.o y1 E1.o
      (try (have hz1:=aa ((hx1.heap (ae (bI W5 _))).trans (bI W5 _))))
      clear gq hx1)
     |(
      go_at_call 78
      refine Calls.mono (vS _ none 0 [] p.ty _ (HSub.o.ext (by repeat(first|exact eR _|exact eA (by assumption) _|refine eA ?_ _|refine eM ?_ _ _|refine eD ?_|refine eN ?_ _))) (by simp) (KY.o.ext (E1.o.trans (by repeat(first|exact eR _|exact eA (by assumption) _|refine eA ?_ _|refine eM ?_ _ _|refine eD ?_|refine eN ?_ _)))) VI) ?_;rintro e y2 ⟨⟨u,n,rfl,hu⟩,hx2⟩;have Ec:aiE (Ext y1 y2):=aa (by refine Ext.trans ?_ hx2;exact(by repeat(first|exact eR _|exact eA (by assumption) _|refine eA ?_ _|refine eM ?_ _ _|refine eD ?_|refine eN ?_ _)));have kS:=ei.o y2 (E1.o.trans Ec.o)
      first
       |(have hz:aiE (y2.heap[y1.heap.size]?=some (.cells #[.string ⟨#[]⟩,.int .i64 0,.slice none 0 0] 53 (0,0))):=aa (by with_reducible exact(hx2.heap (ae (ah y1 _ _ rfl))).trans (ah y1 _ _ rfl));have Md:w.heap.size+1≠y1.heap.size:=by have:=E1.o.size;omega)
       |(have hz:=aa ((Ec.o.heap (ae hz1.o)).trans hz1.o);have Md:=ly)
       |skip
      try (have z0:=ag hz.o 0;have z1:=ag hz.o 1;have z2:=ag hz.o 2;have z3:=ai hz.o 0;have z4:=ai hz.o 1;have z5:=ai hz.o 2;simp only[aiN,aiO,aiP] at z0 z1 z2)))
    all_goals (go_wp2_with fail;go_meet;first
     |exact⟨y2.heap.size,u,rfl,aa (jW.behind E1.o hx2 hu.ty (kW oV.o hu).2 hu.away)⟩
     |exact⟨y1.heap.size,u,rfl,aa (jW.ahead (E1.o.trans ((eR _).alloc _)) hx2 E1.o.size (ah y1 _ _ rfl) KY.o hu.ty (kW oV.o hu).2 hu.away)⟩
     |exact⟨W5.heap.size,u,rfl,aa (jW.ahead E1.o hx2 (aiG _) hz1.o KY.o hu.ty (kW oV.o hu).2 hu.away)⟩)
   case rest=>
    obtain⟨Oo,u,rfl,HA⟩:=hcut;have XA:=aa (X5.o.trans HA.o.x);have t2:=HA.o.box.c2;have tl:=HA.o.box.lt;obtain⟨KR,Ba⟩:∃KR,KR=bL (cz x.af x.insts given m) wants [] 1:=⟨_,rfl⟩;have EU:aiE (R=OO k p.ty.pure.args KR):=aa (by rw[Ba];exact HR.o);have HK0:aiE (bL (cz x.af x.insts given m) (wants.drop 0) ([].map Pf.pure) 1=KR):=aa (by rw[Ba,List.drop_zero];rfl);have Cv:aiE (wants.length=ds.length∧∀(j:Nat) (h1:j<wants.length) (h2:j<ds.length),wants[j]'h1=((ds[j]'h2).cls,(ds[j]'h2).ty.pure)):=aa ⟨by rw[←QY.o];simp,fun j h1 h2=>by
     have:=QY.o;subst this;simp⟩
    have hxw:W3.heap.size≤w4.heap.size:=VH;have jA:=XA.o.size;have HD5:=aa (HD.o.ext (E5.o.trans HA.o.x));have agw:=(E5.o.trans HA.o.x).size;have Hd4:aiE (∀d∈ds,∀c,w4.heap.size≤c→aC c d.ty=true):=aa (fun d hd c hc=>aP (HD.o.all d hd).ty hc);clear Ba HR ei c1 c2 c3 c0 n2 QY E5 KY VI ly;go_wp2
    go_loopw [16,57] (fun nn i wr=>∃(j n:Nat) (us:List Pf) (v:Value),j≤ds.length∧i=.int .i64 j∧nn=.int .i64 n∧us.length≤j∧n≤4096∧aiE (yL wc wr wc.heap.size W3.heap.size k u us v)∧aiE ((us.map Pf.size).sum+1=n)∧aiE (bL (cz x.af x.insts given m) (wants.drop j) (us.map Pf.pure) n=KR)) (fun _ i _=>ds.length - (intOf i).toNat)
    case atStart=>exact⟨0,1,[],.slice none 0 0,aiH _,rfl,rfl,aiG _,by omega,aa ⟨ah _ _ _ rfl,World.ownsRow_nil _ _ _ _,by simp,by simp,by simp,by simp,(eR _).alloc _⟩,aa rfl,HK0⟩
    case round=>
     obtain⟨j,n,us,v,hj,rfl,rfl,KU,hn,HK,xN,HG⟩:=hrel;have XR:=aa (XA.o.trans HK.o.ext)
     by_cases hlt:j<ds.length
     ·have aN:(j:Int)<(ds.length:Int):=by omega
      have qx:(0:Int)≤(j:Int):=by omega
      obtain⟨bq,oq,rfl,Cb,q0,q1,q2,q3⟩:=(HD5.o.ext HK.o.ext).at_ hlt;have oM:=aiF hlt;have SD:=HD5.o.all _ oM;have QZ:=Cv.o.2 j (by rw[Cv.o.1];exact hlt) hlt;have rW:=aa (fun(Q:Pf.Pure) (sz:Nat) (h:cz x.af x.insts given m (ds[j]'hlt).cls (ds[j]'hlt).ty.pure=.ok (Q,sz))=>(uY (f:=cz x.af x.insts given m) (l:=us.map Pf.pure) (n:=n) (by rw[Cv.o.1];exact hlt) (by rw[QZ];exact h)).symm.trans HG.o);have rX:=aa (fun(kk:Int) (h:cz x.af x.insts given m (ds[j]'hlt).cls (ds[j]'hlt).ty.pure=.error kk)=>(lY (f:=cz x.af x.insts given m) (l:=us.map Pf.pure) (n:=n) (by rw[Cv.o.1];exact hlt) (by rw[QZ];exact h)).symm.trans HG.o);obtain⟨a,Q1,hap⟩:=Hda.o _ oM;have Pb:ax (ds[j]'hlt).ty=true:=(fe hap).trans (jm oV.o Q1);have BH:(ds[j]'hlt).ty.size≤m:=by
       have h1:=(nr _ _ hap).1;have h2:=Ty.bo Q1;have h3:=Da.o;omega
      have HC:=aa (fun w' (e:Ext wc w')=>(BJ.o (ds[j]'hlt) w' (XA.o.trans e) (SD.ext e) Pb BH).o);have P9:=aa (AZ.o _ oM);have Bb:=aa (Hd4.o _ oM);generalize ds[j]'hlt=d at *;obtain⟨n1,e0,e1,e2⟩:=aiI (B1.o.ext XR.o).lt (B1.o.ext XR.o).cells;clear SD QZ hap Q1 Pb BH oM t2 tl;go_wp2_with fail;refine(HC.o _ (HK.o.ext.alloc (.cells #[encStr d.cls,encStr d.ty.aq,.int .i64 d.ty.var,.slice d.ty.A d.ty.args.length d.ty.cap] 55))).mono ?_;rintro e w6 ⟨hout,uz⟩;have X6:aiE (Ext wr w6):=aa (((eR wr).alloc (.cells #[encStr d.cls,encStr d.ty.aq,.int .i64 d.ty.var,.slice d.ty.A d.ty.args.length d.ty.cap] 55)).trans uz);have XT:=aa (X0.o.trans (XR.o.trans X6.o));clear q0 q1 q2 q3 Cb n1 e0 e1 e2 HC;cases hr:cz x.af x.insts given m d.cls d.ty.pure with
      |error kk=>
       rw[hr] at hout;have hout:e=.panicked [{ v:=.iface 162 (.agg #[.int .i64 kk]),recovered:=false }]:=hout;have hKe:=rX.o kk hr;subst hout hKe;have hR:R=.error kk:=EU.o;clear EU rW rX hr;subst hR;go_wp2;exact⟨rfl,rfl,XT.o⟩
      |ok r=>
       obtain⟨Q,sz⟩:=r;rw[hr] at hout;obtain⟨y,rfl,gI,gM,j9,Ae,sy⟩:=hout;have HY1:=aa gI;have sS:=aa (rW.o Q sz hr);have HY4:=aa Ae;have QW:aJ wc.heap.size y:=sy _ (by have:=HK.o.ext.size;have:=ae HK.o.box;simp;omega) (Bb _ (by omega));obtain⟨A6,c6,hv,-,-,-,-⟩:=ak.own si (l:=us) HK.o.own;subst hv;have hwr:=HK.o.ext.size;have hbr:=ae HK.o.box;have Um:=X6.o.size;have VJ:aiE (∀c,(Value.slice A6 us.length c6).ownBlock=some c→aJ c y):=aa (fun c hc=>by
        have:=HK.o.own.lt c hc;exact sy c (by simp;omega) (Bb c (by omega)))
       have HyN:aiE (∀c,c<W3.heap.size→aJ c y):=aa (fun c hc=>sy c (by simp;omega) (P9 c hc));have O6:=aa (aZ HK.o.own X6.o);have zk:=aa ((X6.o.heap hbr).trans HK.o.box);have Cw:=ag zk.o 3;have kf0:=ai zk.o 3;simp only[aiN,aiO,aiP] at Cw;have JP:wc.heap.size<w6.heap.size:=by omega
       have Iz:aiE (Ext wr ((w6.alloc (.cells #[.int .i64 y.kind,.int .i64 y.n,.slice y.T y.types.length y.tc,.slice y.A y.kids.length y.cap] 34)).alloc (.cells #[.int .i64 y.kind,.int .i64 y.n,.slice y.T y.types.length y.tc,.slice y.A y.kids.length y.cap] 34))):=aa ((X6.o.alloc _).alloc _);have VK:=aa (gI.ext (((eR w6).alloc (.cells #[.int .i64 y.kind,.int .i64 y.n,.slice y.T y.types.length y.tc,.slice y.A y.kids.length y.cap] 34)).alloc (.cells #[.int .i64 y.kind,.int .i64 y.n,.slice y.T y.types.length y.tc,.slice y.A y.kids.length y.cap] 34)));have PI:IntKind.i64.wrap ((n:Int)+(sz:Int))=((n+sz:Nat):Int):=by rw[IntKind.wrap_i64];omega
       have Nc:=aa (oL us y xN.o j9);have Hyp:=aa gM;have Sq:us.length≤40000:=by omega
       clear gI gM j9 sy P9 Bb rX rW hr uz;go_wp2_with (at_builtin;refine aD _ rfl _ _ 32 rfl (wc.heap.size+1) 34 i0 _ 4 64 Tryz.underlying32 hi hz0 hz1 hz2 rfl (by decide) (.slice A6 us.length c6) us.length (us.flatMap si.f) rfl ((O6.o.alloc _).alloc _) _ 1 1 [.int .i64 y.kind,.int .i64 y.n,.slice y.T y.types.length y.tc,.slice y.A y.kids.length y.cap] rfl ?c2 ?c3 ?c4 ?c5 ?c6 ?_)
       case c2=>exact Row.VF _ _ _ _ (ah _ _ _ (by simp))
       case c3=>first|exact⟨rfl,rfl,rfl,rfl⟩|(intro z hz;simp at hz;rcases hz with rfl|rfl|rfl|rfl<;>rfl)
       case c4=>unfold maxLen;omega
       case c5=>omega
       case c6=>simp;omega
       intro v4 w7 br hg4 eW;have lQ:=aa (HK.o.snoc (aiG _) Iz.o VK.o QW VJ.o HyN.o (by rw[rU,aiL];exact br) hg4 (by
        rcases eW with e|e
        ·exact .inl e
        ·exact .inr (fun c hc=>by rw[e] at hc;injection hc with hc;simp at hc ⊢;omega)))
       have vC:aiE (w7.heap[wc.heap.size]?=some (.cells #[.int .i64 3,.int .i64 (k:Nat),.slice u.A u.args.length u.cap,.slice A6 us.length c6] 34 (0,0))):=aa ((hg4.block _ (by simp;omega) (fun e=>by have:=(HK.o.own.lt _ e.symm).1;omega)).trans ((((eR w6).alloc (.cells #[.int .i64 y.kind,.int .i64 y.n,.slice y.T y.types.length y.tc,.slice y.A y.kids.length y.cap] 34)).alloc (.cells #[.int .i64 y.kind,.int .i64 y.n,.slice y.T y.types.length y.tc,.slice y.A y.kids.length y.cap] 34)).heap JP |>.trans zk.o));have XM:=ag vC.o 3;have kf7:=ai vC.o 3;simp only[aiN,aiO,aiP] at XM;have VL:=ae vC.o;clear br hg4 eW Cw kf0 zk O6 Iz VK QW VJ HyN HK JP;have FC:aiE ((if n+sz>4096 then .error 2 else bL (cz x.af x.insts given m) (wants.drop (j+1)) ((us++[y]).map Pf.pure) (n+sz))=KR):=aa (by
        have:=sS.o;rw[←Hyp.o] at this;rw[aiX];exact this)
       have Q2:(us++[y]).length≤j+1:=by simp;omega
       clear sS HG xN Hyp;generalize us++[y]=Lg at *;obtain⟨A8,c8,rfl,-,-,-,-⟩:=ak.own si (l:=Lg) lQ.o.own
       by_cases hle:n+sz≤4096
       ·have Q3:¬(((n+sz:Nat):Int)>4096):=by omega
        have Vi:aiE (bL (cz x.af x.insts given m) (wants.drop (j+1)) (Lg.map Pf.pure) (n+sz)=KR):=aa (by
         rw[←FC.o,if_neg (by omega)])
        clear FC;go_wp2;go_roundw
        case rel=>exact⟨j+1,n+sz,Lg,_,hlt,by go_num,rfl,Q2,hle,lQ,Nc,Vi⟩
        case measure=>simp[intOf];omega
       ·have Q3:(((n+sz:Nat):Int)>4096):=by omega
        have Ba:KR=.error 2:=by rw[←FC.o,if_pos (by omega)]
        clear FC;subst Ba;have hR:R=.error 2:=EU.o;clear EU;subst hR;have XT7:=aa (X0.o.trans (XA.o.trans lQ.o.ext));go_wp2;exact⟨rfl,rfl,XT7.o⟩
     ·have bS:¬(j:Int)<(ds.length:Int):=by omega
      have Ba:KR=.ok (us.map Pf.pure,n):=by rw[←HG.o,yH (by rw[Cv.o.1];omega)]
      clear HG;subst Ba;have hR:R=.ok (.mk 3 (k:Int) p.ty.pure.args (us.map Pf.pure),n):=EU.o;clear EU;subst hR;obtain⟨A6,c6,rfl,l1,l2,hrow,Ql⟩:=ak.own si (l:=us) HK.o.own;have B6:aiE (wr.heap[w.heap.size+1+1]?=some (.cells #[.int .i64 0,.int .i64 0,.slice none 0 0,.slice none 0 0] 34)):=aa ((XR.o.heap (ae B3.o)).trans B3.o);obtain⟨U,hU⟩:∃U:Pf,U=.mk 3 (k:Int) u.A u.cap u.args A6 c6 us:=⟨_,rfl⟩;have ke:=(HA.o.ty.ext HK.o.ext);have za:aiE (bW wr U):=aa (by
       rw[hU];exact .mk ⟨ke.le,ke.max,l1,l2,ke.all,hrow⟩ HK.o.gZ)
      have EW:aiE (∀c,c<W.heap.size→aC c p.ty=true→aJ c U):=aa (fun c hc ha=>by
       have ha2:=HA.o.away c (by have:=X5.o.size;omega) ha;rw[hU];refine .mk (fun hn a e=>og ha2 (by rintro h;exact hn (by show u.args.length=0;rw[h];rfl)) e) (fun z hz=>fK ha2 hz) (fun hn a e => ?_) (fun z hz=>HK.o.away z hz c (by omega));obtain⟨b,o,e2,-,-⟩:=hrow.2 (Nat.pos_of_ne_zero hn);have e:A6=some a:=e;rw[e2] at e;injection e with e;subst e;have:=(Ql b o e2).1;have:=HA.o.x.size;have:=X5.o.size;show b≠c;omega)
      have HA3:=aa (EW.o (w.heap.size+1+1) (by have:=bR.o;omega) (aP JO.o (by omega)));have HUp:aiE (U.pure=.mk 3 (k:Int) p.ty.pure.args (us.map Pf.pure)):=aa (by
       rw[hU,Pf.aG,←HA.o.is,lp];rfl)
      have Q4:aiE (U.size=n):=aa (by rw[hU,Pf.size_eq];exact xN.o);have JQ:=aa (za.o.grown (dy wr (w.heap.size+1+1) U) (fun c e=>by injection e with e;subst e;exact HA3.o));have XF:=aa (aW (X0.o.trans XR.o) (by omega:w.heap.size≤w.heap.size+1+1) U);have Cw:=ag HK.o.box 0;have EY:=ag HK.o.box 1;have EZ:=ag HK.o.box 2;have OP:=ag HK.o.box 3;simp only[aiN,aiO,aiP] at Cw EY EZ OP;obtain⟨z0,z1,z2,z3,gC,gD,gF,gH⟩:=dL B6.o;have hz:=ae B6.o;have hbr:=ae HK.o.box;have HAf:aiE (∀c,c<w.heap.size→aC c p.ty=true→aJ c U):=aa (fun c hc ha=>EW.o c (by have:=bR.o;omega) ha);have HVv:aiE (bM U=.agg #[.int .i64 3,.int .i64 (k:Nat),.slice u.A u.args.length u.cap,.slice A6 us.length c6]):=aa (by rw[hU];rfl);have HX:aiE (cP wr (w.heap.size+1+1) U=(((wr.setCell ⟨w.heap.size+1+1,0,none⟩ (.int .i64 3)).setCell ⟨w.heap.size+1+1,1,none⟩ (.int .i64 (k:Nat))).setCell ⟨w.heap.size+1+1,2,none⟩ (.slice u.A u.args.length u.cap)).setCell ⟨w.heap.size+1+1,3,none⟩ (.slice A6 us.length c6)):=aa (by rw[hU];rfl);rw[HX.o] at JQ XF;clear hU hrow Ql ke HK HA EW za;go_wp2;refine bodyPost_ret (v:=.tuple #[bM U,.int .i64 (n:Nat)]) ?_ rfl ⟨⟨U,rfl,JQ.o,HUp.o,Q4.o,hn,HAf.o⟩,XF.o⟩;rw[HVv.o];simp[results,Tryz.f98,go_sem,z0,z1,z2,z3]
set_option maxRecDepth 512
set_option maxHeartbeats 200000
theorem vd (x:di) (G:Option Addr) (gc:Nat) (given:List Pd) (hE:tC x given):∀m,SrC x G gc given m
 |0=>fun p w _ _ _ _ hsz=>absurd hsz (by have:=Ty.size_pos p.ty;omega)
 |m+1=>rV x G gc given hE m (vd x G gc given hE m)
end Go.Proofs.YtigafbmabjglfaaGreatDoor
