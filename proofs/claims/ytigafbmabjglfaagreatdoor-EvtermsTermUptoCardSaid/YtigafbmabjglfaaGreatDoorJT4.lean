import Derived.Test.YtigafbmabjglfaaGreatDoorJT3
import Derived.Deep.RegionLaw
namespace Go.Proofs.YtigafbmabjglfaaGreatDoor
open Go.RowKit
theorem bk {w w':World}{base:Nat}{e:TypeId}{size:Nat}{v:Value}{n:Nat}{xs:List Value}(h:w.ownsRow base e size v n xs) (k:Ext w w'):w'.ownsRow base e size v n xs:=by
 have hb:=k.below;cases hv:v.ownBlock with
 |none=>exact h.kept (row:=none) ⟨hb.os,hb.tape,hb.output,k.size,fun j hj _=>k.heap hj⟩ (.inl hv)
 |some g=>exact h.kept (row:=none) ⟨hb.os,hb.tape,hb.output,k.size,fun j hj _=>k.heap hj⟩ (.inr (by rw[hv];simp))
theorem ah (w:World) (o:Obj) (n:Nat) (h:n=w.heap.size):(w.alloc o).heap[n]?=some o:=by subst h;exact heap_alloc_new w o
section
variable {P : Program}(w:World)
theorem aI {ops:Array Oper}{o:Oper}{a:Act}{K:Act→World→Prop}{Q:Exit→Act→World→Prop}{E:Prop}(hgd:o.guard=none) (s x:Operand) (t:TypeId)
  (ho:o.op=.call { callee:=.builtin .append,args:=#[s,x],argTypes:=#[t,t] })
  (base:Nat) (e:TypeId) (i:TypeInfo) (z:Value) (size bytes:Nat) (ht:P.underlying t=some (.slice e)) (hi:P.info? e=some i) (hz:i.zero=some z)
  (hsize:i.size=size) (hby:i.bytes=bytes) (hzs:z.cells.size=size) (hsz:0<size)
  (v:Value) (n:Nat) (xs:List Value) (hs:a.eval s=v) (hown:w.ownsRow base e size v n xs)
  (A:Option Addr) (m c:Nat) (news:List Value) (hx:a.eval x=.slice A m c) (hr:Row w A size m news) (h1:∀u∈news,u.oneCell'=true)
  (h63:n+m≤maxLen) (hbytes:(n+m)*bytes≤140737488355328) (hbase:base≤w.heap.size)
  (h:∀v' w',w'.ownsRow base e size v' (n+m) (xs++news)→w.grownBy w' v.ownBlock→(v'.ownBlock=v.ownBlock∨v'.ownBlock=some w.heap.size)→K (a.put o.dst v') w') :
  if Region.wanted o (yielded ops a.tmps)=true then Oper.wp P o a w K Q else E:=by
 have hw:Region.wanted o (yielded ops a.tmps)=true:=by simp[Region.wanted,hgd]
 rw[if_pos hw];exact k9 w s x t ho base e i z size bytes ht hi hz hsize hby hzs hsz v n xs hs hown A m c news hx hr h1 h63 hbytes hbase h
end
theorem Ext.cell {w w':World}(e:Ext w w'){a:Addr}{v:Value}(h:w.cell? a=some v):w'.cell? a=some v:=by
 have hb:a.block<w.heap.size:=by
  apply Classical.byContradiction
  intro hn;have:w.heap[a.block]?=none:=Array.getElem?_eq_none (by omega);simp[World.cell?,this] at h
 exact(World.cell?_of_block (e.heap hb)).trans h
def aP (w:World) (b:Nat) (t:Ty):Prop:=w.heap[b]?=some (.cells #[encStr t.aq,.int .i64 t.var,.slice t.A t.args.length t.cap] 53 (0,0))
section
variable {w w':World}{b:Nat}{t:Ty}
theorem aP.new (w:World) (t:Ty):aP (w.alloc (.cells #[encStr t.aq,.int .i64 t.var,.slice t.A t.args.length t.cap] 53)) w.heap.size t:=ah _ _ _ rfl
theorem aP.lt (h:aP w b t):b<w.heap.size:=ae h
theorem aP.ext (h:aP w b t) (e:Ext w w'):aP w' b t:=(e.heap h.lt).trans h
theorem aP.c0 (h:aP w b t):w.cell? ⟨b,0,none⟩=some (encStr t.aq):=by unfold aP at h;simp[World.cell?,h]
theorem aP.c1 (h:aP w b t):w.cell? ⟨b,1,none⟩=some (.int .i64 t.var):=by unfold aP at h;simp[World.cell?,h]
theorem aP.c2 (h:aP w b t):w.cell? ⟨b,2,none⟩=some (.slice t.A t.args.length t.cap):=by unfold aP at h;simp[World.cell?,h]
theorem aP.free (h:aP w b t) (i:Nat):w.frozen? ⟨b,i,none⟩=false:=by unfold aP at h;simp[World.frozen?,h]
end
theorem px {l:List Ty}{k:Nat}(h:k<l.length):((l.take (k+1)).map Ty.depth).foldr max 0=max (((l.take k).map Ty.depth).foldr max 0) (l[k]'h).depth:=by
 have ms:∀(l:List Nat) (x:Nat),(l++[x]).foldr max 0=max (l.foldr max 0) x:=by
  intro l x
  induction l with
  |nil=>simp
  |cons y l ih=>simp only[List.cons_append,List.foldr_cons,ih];omega
 rw[ahl h,ahz,List.map_singleton,ms]
def tN (s d:Nat) (L D v:Int):Prop:=(v≤L - 1∨v ≤ -1)∧(-1≤v∨L - 1≤v)∧(0≤v→v=L - s∧(d:Int)≤D)
set_option maxRecDepth 10000
set_option maxHeartbeats 8000000
theorem AP (t:Ty):∀(L D:Int) (w:World),aC w t → -1000000≤L→L≤1000000 → -1000000≤D→D≤1000000 →
  Calls Tryz.prog 56 #[bh t,.int .i64 L,.int .i64 D] w fun e w'=>(∃v:Int,e=.returned (.int .i64 v)∧tN t.size t.depth L D v)∧Ext w w':=by
 induction t using Ty.ind with
 |h t ih=>
 intro L D w h h0 hL VO hD;have IH:=aa ih;have Hk:=aa h.all;have hle:=h.le;have hmx:=h.max;have fj:=aa (aP.new w t);have X0:ahg (Ext w (w.alloc (.cells #[encStr t.aq,.int .i64 t.var,.slice t.A t.args.length t.cap] 53))):=aa ((eR w).alloc _);have HS:ahg (t.size=aD t.args+1):=aa (Ty.size_eq t);have HD:ahg (t.depth=(t.args.map Ty.depth).foldr max 0+1):=aa (Ty.aN t);have mi:=aa (fun k (hk:k<t.args.length)=>eH t.args hk);have JA:=aa (fun k (hk:k<t.args.length)=>px (l:=t.args) hk);clear ih h;unfold bh
 by_cases hd:D<1
 ·go_enter Tryz.func56,Tryz.ntmps56;go_wp2;go_ret;exact⟨⟨-1,rfl,.inr (by omega),.inl (by omega),fun h=>by omega⟩,X0.o⟩
 go_enter Tryz.func56,Tryz.ntmps56;go_wp2;generalize (w.alloc (.cells #[encStr t.aq,.int .i64 t.var,.slice t.A t.args.length t.cap] 53))=w0 at *
 go_loopw [1,7] (fun v i wr=>∃(k:Nat) (V:Int),k≤t.args.length∧i=.int .i64 k∧v=.int .i64 V∧(V≤L - 1∨V ≤ -1)∧(-1≤V∨L - 1≤V)∧ahg (0≤V→V=L - 1 - aD (t.args.take k)∧((((t.args.take k).map Ty.depth).foldr max 0:Nat):Int)+1≤D)∧ahg (Ext w0 wr)) (fun _ i _=>t.args.length - (intOf i).toNat)
 case atStart=>exact⟨0,L - 1,ahj _,rfl,rfl,by omega,by omega,aa (fun _=>by simp[aD];omega),aa (eR _)⟩
 case round=>
  obtain⟨k,V,hk,rfl,rfl,hV1,hV2,HV,HX⟩:=hrel;have HB:=aa (fj.o.ext HX.o);have hc2:=HB.o.c2
  by_cases hlt:k<t.args.length
  ·have aS:(k:Int)<(t.args.length:Int):=by omega
   have dy:(0:Int)≤(k:Int):=by omega
   by_cases hv0:0≤V
   ·obtain⟨b,o,hA,hb,q0,q1,q2⟩:=(Hk.o.ext (X0.o.trans HX.o)).at_ hlt;have HC:=aa (IH.o _ (ahh hlt) V (D - 1) wr ((Hk.o.args _ (ahh hlt)).ext (X0.o.trans HX.o)) (by omega) (by omega) (by omega) (by omega));have gw:=aa (mi.o k hlt);have AQ:=aa (JA.o k hlt);rw[hA] at hc2;clear hA;generalize t.args[k]'hlt=c at *;generalize aD (t.args.take k)=s at *;generalize ((t.args.take k).map Ty.depth).foldr max 0=d at *;go_wp2_with fail;refine HC.o.mono ?_;rintro e w3 ⟨⟨v,rfl,hv⟩,hx3⟩;have X3:=aa (HX.o.trans hx3);have Hv:=aa hv;clear hx3 hv;go_wp2;go_roundw
    case rel=>
     obtain⟨a1,a2,a3⟩:=Hv.o;have a4:=HV.o;exact⟨k+1,v,hlt,by go_num,rfl,by omega,by omega,aa (fun hv=>by rw[gw.o,AQ.o];obtain⟨b1,b2⟩:=a3 hv;obtain⟨b3,b4⟩:=a4 hv0;omega),X3⟩
    case measure=>simp[intOf];omega
   ·go_wp2;go_ret;exact⟨⟨V,rfl,hV1,hV2,fun h=>absurd h (by omega)⟩,X0.o.trans HX.o⟩
  ·have bU:¬(k:Int)<(t.args.length:Int):=by omega
   have hS:aD (t.args.take k)=aD t.args:=by rw[ahm (by omega)]
   have hT:t.args.take k=t.args:=ahm (by omega);have HF:ahg (tN t.size t.depth L D V):=aa ⟨hV1,hV2,fun h=>by have:=HV.o h;rw[HS.o,HD.o];rw[hT] at this;omega⟩;clear hS hT HV;go_wp2;go_ret;exact⟨⟨V,rfl,HF.o⟩,X0.o.trans HX.o⟩
theorem tP (A:Option Addr) (cap:Nat) (l:List Ty) (w:World) (h:bF w A l) (hle:l.length≤100000) :
  Calls Tryz.prog 34 #[.slice A l.length cap] w fun e w'=>(∃r:Int,e=.returned (.int .i64 r)∧(r=0∨(r=1∧aD l≤20000∧∀t∈l,t.depth≤300)))∧Ext w w':=by
 have HL:=aa h;have mi:=aa (fun k (hk:k<l.length)=>eH l hk);clear h;go_enter Tryz.func34,Tryz.ntmps34;go_wp2
 go_loopw [3,4] (fun v i wr=>∃(k:Nat) (V:Int),k≤l.length∧i=.int .i64 k∧v=.int .i64 V∧V≤20000 ∧ -1 - (k:Int)≤V∧ahg (0≤V→V=20000 - aD (l.take k)∧∀t∈l.take k,t.depth≤300)∧ahg (Ext w wr)) (fun _ i _=>l.length - (intOf i).toNat)
 case atStart=>exact⟨0,20000,ahj _,rfl,rfl,by omega,by omega,aa (fun _=>by simp[aD]),aa (eR _)⟩
 case round=>
  obtain⟨k,V,hk,rfl,rfl,hV1,hV2,HV,HX⟩:=hrel
  by_cases hlt:k<l.length
  ·have aS:(k:Int)<(l.length:Int):=by omega
   have dy:(0:Int)≤(k:Int):=by omega
   obtain⟨b,o,rfl,hb,q0,q1,q2⟩:=(HL.o.ext HX.o).at_ hlt;have HC:=aa (AP (l[k]'hlt) V 300 wr ((HL.o.args _ (ahh hlt)).ext HX.o) (by omega) (by omega) (by omega) (by omega));have gw:=aa (mi.o k hlt);have cS:ahg (l.take (k+1)=l.take k++[l[k]'hlt]):=aa (ahl hlt);generalize l[k]'hlt=c at *;go_wp2_with fail;refine HC.o.mono ?_;rintro e w3 ⟨⟨v,rfl,hv⟩,hx3⟩;have X3:=aa (HX.o.trans hx3);have Hv:=aa hv;clear hx3 hv;go_wp2;go_roundw
   case rel=>
    obtain⟨a1,a2,a3⟩:=Hv.o;have a4:=HV.o;exact⟨k+1,v,hlt,by go_num,rfl,by omega,by omega,aa (fun hv=>by
     obtain⟨b1,b2⟩:=a3 hv;obtain⟨b3,b4⟩:=a4 (by omega);rw[gw.o];refine⟨by omega,fun t ht => ?_⟩;rw[cS.o,List.mem_append,ahx] at ht
     rcases ht with ht|rfl
     ·exact b4 t ht
     ·omega),X3⟩
   case measure=>simp[intOf];omega
  ·have bU:¬(k:Int)<(l.length:Int):=by omega
   have HF:ahg (0≤V→aD l≤20000∧∀t∈l,t.depth≤300):=aa (fun h=>by
    have:=HV.o h;rw[ahm (by omega)] at this;exact⟨by omega,this.2⟩)
   clear HV
   by_cases hv:V<0
   ·go_wp2;go_ret;exact⟨⟨0,rfl,.inl rfl⟩,HX.o⟩
   ·go_wp2;go_ret;exact⟨⟨1,rfl,.inr ⟨rfl,HF.o (by omega)⟩⟩,HX.o⟩
set_option maxRecDepth 512
set_option maxHeartbeats 200000
end Go.Proofs.YtigafbmabjglfaaGreatDoor
