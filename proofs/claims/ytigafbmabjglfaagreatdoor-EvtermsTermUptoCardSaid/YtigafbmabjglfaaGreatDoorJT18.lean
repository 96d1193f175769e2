import Derived.Test.YtigafbmabjglfaaGreatDoorJT17
import Derived.Laws.EntriesVeiled
namespace Go.Proofs.YtigafbmabjglfaaGreatDoor
open Go.RowKit
def lL (us:List Ty) (n:Nat):Array Value:=((us++List.replicate n Ty.zero).flatMap cA.f).toArray
theorem Wx (us:List Ty) (n:Nat) (u:Ty):(((lL us (n+1)).setIfInBounds (us.length*3) (encStr u.aq)).setIfInBounds (us.length*3+1) (.int .i64 u.var)).setIfInBounds (us.length*3+2) (.slice u.A u.args.length u.cap)=lL (us++[u]) n:=by
 unfold lL;have h1:(us++List.replicate (n+1) Ty.zero).flatMap cA.f=us.flatMap cA.f++(cA.f Ty.zero++(List.replicate n Ty.zero).flatMap cA.f):=by
  rw[List.flatMap_append,List.replicate_succ,List.flatMap_cons]
 have h2:(us++[u]++List.replicate n Ty.zero).flatMap cA.f=us.flatMap cA.f++(cA.f u++(List.replicate n Ty.zero).flatMap cA.f):=by
  rw[List.flatMap_append,List.flatMap_append,List.flatMap_cons,List.flatMap_nil,List.append_nil,List.append_assoc]
 have hl:(us.flatMap cA.f).length=us.length*3:=dW _ _ cA.hf _;rw[h1,h2,←hl];generalize us.flatMap cA.f=a;generalize (List.replicate n Ty.zero).flatMap cA.f=b;show(((a++(([.string ⟨#[]⟩,.int .i64 0,.slice none 0 0]:List Value)++b)).toArray.setIfInBounds _ _).setIfInBounds _ _).setIfInBounds _ _=(a++(([encStr u.aq,.int .i64 u.var,.slice u.A u.args.length u.cap]:List Value)++b)).toArray;simp only[ahs]
 congr 1
 rw[List.set_append_right _ _ (ahi _),List.set_append_right _ _ (by omega),List.set_append_right _ _ (by omega)];simp
theorem kH (us:List Ty) (n:Nat):(lL us (n+1))[us.length*3]?=some (.string ⟨#[]⟩)∧(lL us (n+1))[us.length*3+1]?=some (.int .i64 0)∧(lL us (n+1))[us.length*3+2]?=some (.slice none 0 0):=by
 unfold lL;have h1:(us++List.replicate (n+1) Ty.zero).flatMap cA.f=us.flatMap cA.f++(cA.f Ty.zero++(List.replicate n Ty.zero).flatMap cA.f):=by
  rw[List.flatMap_append,List.replicate_succ,List.flatMap_cons]
 have hl:(us.flatMap cA.f).length=us.length*3:=dW _ _ cA.hf _;rw[h1,←hl];generalize us.flatMap cA.f=a;generalize (List.replicate n Ty.zero).flatMap cA.f=b;show((a++(([.string ⟨#[]⟩,.int .i64 0,.slice none 0 0]:List Value)++b)).toArray)[_]?=_∧((a++(([.string ⟨#[]⟩,.int .i64 0,.slice none 0 0]:List Value)++b)).toArray)[_]?=_∧((a++(([.string ⟨#[]⟩,.int .i64 0,.slice none 0 0]:List Value)++b)).toArray)[_]?=_;simp only[ahp];refine⟨?_,?_,?_⟩<;>rw[List.getElem?_append_right (by omega)]<;>simp
theorem vS (us:List Ty):lL us 0=(us.flatMap cA.f).toArray:=by unfold lL;simp
theorem Q9 {w:World}{b n:Nat}{us:List Ty}(u:Ty) (h:w.heap[b]?=some (.cells (lL us (n+1)) 53 (0,0))) :
  (((w.setCell ⟨b,us.length*3,none⟩ (encStr u.aq)).setCell ⟨b,us.length*3+1,none⟩ (.int .i64 u.var)).setCell ⟨b,us.length*3+2,none⟩ (.slice u.A u.args.length u.cap)).heap[b]?=some (.cells (lL (us++[u]) n) 53 (0,0)):=by
 rw[←Wx];exact aw (aw (aw h _ _) _ _) _ _
theorem bR (w:World) (b i j k:Nat) (u v x:Value):w.grownBy (((w.setCell ⟨b,i,none⟩ u).setCell ⟨b,j,none⟩ v).setCell ⟨b,k,none⟩ x) (some b):=by
 have tr:∀ {a b c:World}{row:Option Nat},a.grownBy b row→b.grownBy c row→a.grownBy c row:=fun h k=>⟨k.os.trans h.os,k.tape.trans h.tape,k.output.trans h.output,aho h.size k.size,fun j hj hne=>(k.block j (Nat.lt_of_lt_of_le hj h.size) hne).trans (h.block j hj hne)⟩
 exact tr (tr (aK _ _ _ _) (aK _ _ _ _)) (aK _ _ _ _)
structure yu (w w':World) (t u:Ty):Prop where
 ty:aC w' u
 is:u.pure=t.pure
 away:∀c,c<w.heap.size→aF c u=true
theorem yu.old {w w1 w':World}{t u:Ty}(h:yu w1 w' t u) (hs:w.heap.size≤w1.heap.size):yu w w' t u:=⟨h.ty,h.is,fun c hc=>h.away c (by omega)⟩
structure fK (w w':World) (R:Nat→Prop) (l us:List Ty):Prop where
 len:us.length=l.length
 ty:∀u∈us,aC w' u
 is:us.map Ty.pure=l.map Ty.pure
 row:∀u∈us,∀c,R c→aF c u=true
 away:∀u∈us,∀c,c<w.heap.size→aF c u=true
section
variable {w w1 w2 w':World}{R:Nat→Prop}{l us:List Ty}{t u:Ty}
theorem fK.nil (w w':World) (R:Nat→Prop):fK w w' R [] []:=⟨rfl,by simp,rfl,by simp,by simp⟩
theorem fK.ext (h:fK w w1 R l us) (e:Ext w1 w2):fK w w2 R l us:=⟨h.len,fun u hu=>(h.ty u hu).ext e,h.is,h.row,h.away⟩
theorem fK.grown (h:fK w w1 R l us){row:Option Nat}(hg:w1.grownBy w2 row) (hr:∀c,row=some c→R c):fK w w2 R l us:=
 ⟨h.len,fun u hu=>(h.ty u hu).grown hg (fun c e=>h.row u hu c (hr c e)),h.is,h.row,h.away⟩
theorem fK.snoc (h:fK w w1 R l us) (k:yu w1 w2 t u) (he:Ext w1 w2) (hs:w.heap.size≤w1.heap.size) (hr:∀c,R c→c<w1.heap.size):fK w w2 R (l++[t]) (us++[u]):=by
 refine⟨by simp[h.len],fun x hx => ?_,by rw[ahz,ahz,h.is];simp[k.is],fun x hx c hc => ?_,fun x hx c hc => ?_⟩
 ·rcases List.mem_append.1 hx with hx|hx
  ·exact(h.ty x hx).ext he
  ·rw[ahx] at hx;subst hx;exact k.ty
 ·rcases List.mem_append.1 hx with hx|hx
  ·exact h.row x hx c hc
  ·rw[ahx] at hx;subst hx;exact k.away c (hr c hc)
 ·rcases List.mem_append.1 hx with hx|hx
  ·exact h.away x hx c hc
  ·rw[ahx] at hx;subst hx;exact k.away c (by omega)
theorem fK.done {A:Option Addr}{cap:Nat}(h:fK w w' R t.args us) (uW:t.aq.length≤9223372036854775807)
  (h1:us.length≤cap) (h2:cap≤9223372036854775807) (h3:ak cA w' A us) (hA:us≠[]→∀a,A=some a→w.heap.size≤a.block):yu w w' t (.mk t.aq t.var A cap us) where
 ty:=aC.of h1 h2 uW h3 h.ty
 is:=by rw[Ty.aG t,←h.is,Ty.aG];rfl
 away c hlt:=dE (fun hn a ha=>by have:=hA hn a ha;omega) (fun u hu=>h.away u hu c hlt)
end
set_option maxRecDepth 10000
set_option maxHeartbeats 8000000
theorem vT (t:Ty):∀(w:World),aC w t→t.size≤100000 →
  Calls Tryz.prog 177 #[bh t] w fun e w'=>(∃u,e=.returned (bh u)∧yu w w' t u)∧Ext w w':=by
 induction t using Ty.ind with
 |h t ih=>
 intro w h hsz;obtain⟨W,hW⟩:∃W,W=(w.alloc (.cells #[encStr t.aq,.int .i64 t.var,.slice t.A t.args.length t.cap] 53)).alloc (.cells #[.string ⟨#[]⟩,.int .i64 0,.slice none 0 0] 53):=⟨_,rfl⟩;have HW:=aa hW.symm;have X0:ahg (Ext w W):=aa (by rw[hW];exact((eR _).alloc _).alloc _);have B1:ahg (aP W w.heap.size t):=aa (by rw[hW];exact(aP.new w t).ext ((eR _).alloc _));have B2:ahg (W.heap[w.heap.size+1]?=some (.cells #[.string ⟨#[]⟩,.int .i64 0,.slice none 0 0] 53 (0,0))):=aa (by rw[hW];exact ah _ _ _ (by simp));have H:=aa h;have IH:=aa ih;have hle:=h.le;have hmx:=h.max;have hlen:=t.gq;clear h hW ih;unfold bh at *;have je:=jo t.args.length (by omega) W;have hs:=X0.o.size;have rk:W.heap.size=w.heap.size+2:=by rw[←HW.o];simp
 obtain⟨W1,hW1⟩:∃W1,W1=W.alloc (.cells (j6 t.args.length) 53):=⟨_,rfl⟩;have X1:ahg (Ext W W1):=aa (by rw[hW1];exact(eR _).alloc _);have B3:ahg (W1.heap[w.heap.size+2]?=some (.cells (lL [] t.args.length) 53 (0,0))):=aa (by rw[hW1];exact ah _ _ _ rk.symm);rw[rk,←hW1] at je;clear hW1;have c0:=B1.o.c0;have c1:=B1.o.c1;have c2:=B1.o.c2;have ZV:=(B1.o.ext X1.o).c2;go_enter Tryz.func177,Tryz.ntmps177;go_upto_region 1 with fail;rw[HW.o];go_wp2
 go_loopw [13] (fun i wr=>∃(k:Nat) (us:List Ty),k≤t.args.length∧i=.int .i64 k∧ahg (Ext W wr)∧ahg (wr.heap[w.heap.size+2]?=some (.cells (lL us (t.args.length - k)) 53 (0,0)))∧ahg (fK w wr (fun c=>w.heap.size≤c∧c<w.heap.size+3) (t.args.take k) us)) (fun i _=>t.args.length - (intOf i).toNat)
 case atStart=>exact⟨0,[],ahj _,rfl,X1,B3,aa (fK.nil _ _ _)⟩
 case round=>
  obtain⟨k,us,hk,rfl,HX,HR,HP⟩:=hrel;have J7:us.length=k:=by have:=HP.o.len;rw[List.length_take] at this;omega
  by_cases hlt:k<t.args.length
  ·have aS:(k:Int)<(t.args.length:Int):=by omega
   have dy:(0:Int)≤(k:Int):=by omega
   have XR:=aa (X0.o.trans HX.o);obtain⟨b,o,hA,hb,q0,q1,q2⟩:=(H.o.all.ext XR.o).at_ hlt;have cv:=ahh hlt;have ET:=aa (fun w' (e:Ext w w')=>aa (IH.o _ cv w' ((H.o.all.args _ cv).ext e) (by have:=Ty.bG cv;omega)));have Hx:=aa (H.o.all.args _ cv);have cS:ahg (t.args.take (k+1)=t.args.take k++[t.args[k]'hlt]):=aa (ahl hlt);obtain⟨m,hm⟩:∃m,t.args.length - k=m+1:=⟨t.args.length - k - 1,by omega⟩;have Mu:t.args.length - (k+1)=m:=by omega
   rw[hm] at HR;generalize t.args[k]'hlt=x at *;have NL:w.heap.size+3≤wr.heap.size:=by have:=ae HR.o;omega
   clear cv;rw[hA];clear hA;go_wp2_with fail;refine(ET.o _ (XR.o.trans ((eR _).alloc _))).o.mono ?_;rintro e w3 ⟨⟨u,rfl,hu⟩,hx3⟩;have E3:=((eR wr).alloc (.cells #[encStr x.aq,.int .i64 x.var,.slice x.A x.args.length x.cap] 53)).trans hx3;have iu:=aa ((E3.heap (ae HR.o)).trans HR.o);have Mv:ahg (fK w w3 (fun c=>w.heap.size≤c∧c<w.heap.size+3) (t.args.take (k+1)) (us++[u])):=aa (by
    rw[cS.o];exact(HP.o.ext ((eR wr).alloc (.cells #[encStr x.aq,.int .i64 x.var,.slice x.A x.args.length x.cap] 53))).snoc hu hx3 (by simp;omega) (fun c hc=>by simp;omega))
   have X3:=aa (HX.o.trans E3);have Mw:=aa (Q9 u iu.o);have Rb:=aa (Mv.o.grown (bR w3 (w.heap.size+2) (us.length*3) (us.length*3+1) (us.length*3+2) (encStr u.aq) (.int .i64 u.var) (.slice u.A u.args.length u.cap)) (fun c e=>by injection e with e;omega));have Xn:ahg (Ext W (((w3.setCell ⟨w.heap.size+2,us.length*3,none⟩ (encStr u.aq)).setCell ⟨w.heap.size+2,us.length*3+1,none⟩ (.int .i64 u.var)).setCell ⟨w.heap.size+2,us.length*3+2,none⟩ (.slice u.A u.args.length u.cap))):=aa (((X3.o.setCell (by simp;omega) _).setCell (by simp;omega) _).setCell (by simp;omega) _);have f0:=ai iu.o (us.length*3);have f1:=ai iu.o (us.length*3+1);have f2:=ai iu.o (us.length*3+2);have k0:=(af iu.o (us.length*3)).trans (kH us m).1;have k1:=(af iu.o (us.length*3+1)).trans (kH us m).2.1;have k2:=(af iu.o (us.length*3+2)).trans (kH us m).2.2;rw[J7] at f0 f1 f2 k0 k1 k2 Mw Rb Xn;clear E3 hx3 hu iu Mv;go_wp2;go_roundw
   case rel=>exact⟨k+1,us++[u],hlt,by go_num,Xn,aa (by rw[Mu];exact Mw.o),Rb⟩
   case measure=>simp[intOf];omega
  ·have bU:¬(k:Int)<(t.args.length:Int):=by omega
   have Jg:k=t.args.length:=by omega
   have J8:ahg (wr.heap[w.heap.size+2]?=some (.cells (us.flatMap cA.f).toArray 53 (0,0))):=aa (by have:=HR.o;rw[Jg,Nat.sub_self,vS] at this;exact this);have EU:ahg (fK w wr (fun c=>w.heap.size≤c∧c<w.heap.size+3) t.args us):=aa (by have:=HP.o;rwa [ahm (by omega)] at this);have C1:=aa (B1.o.ext HX.o);have C2:=aa ((HX.o.heap (ae B2.o)).trans B2.o);have P9:us.length=t.args.length:=by omega
   clear HR HP Jg;have g1:=C1.o.c0;have g2:=C1.o.c1;have g3:=C1.o.c2;have fb:=C1.o.free 2;have f0:=ai C2.o 0;have f1:=ai C2.o 1;have f2:=ai C2.o 2;have k0:=af C2.o 0;have k1:=af C2.o 1;have k2:=af C2.o 2;simp only[ahp,ahq,ahr] at k0 k1 k2;obtain⟨U,hU⟩:∃U:Ty,U=.mk t.aq t.var (some ⟨w.heap.size+2,0,none⟩) t.args.length us:=⟨_,rfl⟩;obtain⟨WF,ig⟩:∃WF,WF=(((wr.setCell ⟨w.heap.size,2,none⟩ (.slice (some ⟨w.heap.size+2,0,none⟩) t.args.length t.args.length)).setCell ⟨w.heap.size+1,0,none⟩ (encStr t.aq)).setCell ⟨w.heap.size+1,1,none⟩ (.int .i64 t.var)).setCell ⟨w.heap.size+1,2,none⟩ (.slice (some ⟨w.heap.size+2,0,none⟩) t.args.length t.args.length):=⟨_,rfl⟩;have XF:ahg (Ext w WF):=aa (by rw[ig];exact(((( X0.o.trans HX.o).setCell (by simp) _).setCell (by simp) _).setCell (by simp) _).setCell (by simp) _);have PF:ahg (yu w WF t U):=aa (by
    have h1:=(EU.o.grown (aK wr w.heap.size 2 (.slice (some ⟨w.heap.size+2,0,none⟩) t.args.length t.args.length)) (fun c e=>by injection e with e;omega)).grown (bR _ (w.heap.size+1) 0 1 2 (encStr t.aq) (.int .i64 t.var) (.slice (some ⟨w.heap.size+2,0,none⟩) t.args.length t.args.length)) (fun c e=>by injection e with e;omega);rw[hU];rw[←ig] at h1;have hblk:WF.heap[w.heap.size+2]?=some (.cells (us.flatMap cA.f).toArray 53 (0,0)):=by
     rw[ig,Below.heap_setCell _ _ _ _ (by simp),Below.heap_setCell _ _ _ _ (by simp),Below.heap_setCell _ _ _ _ (by simp),Below.heap_setCell _ _ _ _ (by simp)];exact J8.o
    exact h1.done H.o.txt (by omega) (by omega) (ak.block cA us hblk) (fun _ a e=>by injection e with e;subst e;show w.heap.size≤w.heap.size+2;omega))
   have Re:bh U=.agg #[encStr t.aq,.int .i64 t.var,.slice (some ⟨w.heap.size+2,0,none⟩) t.args.length t.args.length]:=by rw[hU];unfold bh;show Value.agg #[_,_,.slice _ us.length _]=_;rw[P9];rfl
   clear J8 EU hU;go_wp2;rw[←ig];refine bodyPost_ret (v:=.agg #[encStr t.aq,.int .i64 t.var,.slice (some ⟨w.heap.size+2,0,none⟩) t.args.length t.args.length]) ?_ rfl ⟨⟨U,by rw[←Re];rfl,PF.o⟩,XF.o⟩;rw[ig];simp[results,Tryz.f177,go_sem,k0,k1,k2]
set_option maxRecDepth 512
set_option maxHeartbeats 200000
end Go.Proofs.YtigafbmabjglfaaGreatDoor
