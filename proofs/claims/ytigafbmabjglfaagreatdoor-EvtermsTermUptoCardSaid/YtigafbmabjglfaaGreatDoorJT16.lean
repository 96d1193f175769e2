import Derived.Test.YtigafbmabjglfaaGreatDoorJT15
import Derived.Lib.AppendZerosOnto
import Derived.Lib.Overlaps
import Derived.Laws.Externs
import Derived.Laws.NewBlocks
namespace Go.Proofs.YtigafbmabjglfaaGreatDoor
open Go.RowKit
theorem nx : (Tryz.prog.info? 194).map (fun i=>(i.zero,i.size,i.bytes))=some (some (.agg #[.int .i64 0,.string ⟨#[]⟩,.int .i64 0,.slice none 0 0]),4,56):=by kernel_rfl
theorem kG : (Tryz.prog.info? 194).map (·.size)=some 4:=by kernel_rfl
theorem fB (l:List Pr):∀u∈l.flatMap bJ.f,u.oneCell'=true:=by
 intro u hu;obtain⟨p,-,hp⟩:=List.mem_flatMap.1 hu;have DV:u∈[.int .i64 p.v,encStr p.ty.aq,.int .i64 p.ty.var,.slice p.ty.A p.ty.args.length p.ty.cap]:=hp;simp at DV
 rcases DV with rfl|rfl|rfl|rfl<;>rfl
theorem oK (l:List Pr):(l.flatMap bJ.f).length=l.length*4:=dW _ _ bJ.hf l
theorem EE (l:List Pr) (i:Nat):(l.flatMap bJ.f).take (i*4)=(l.take i).flatMap bJ.f:=by
 by_cases hi:i≤l.length
 ·have e:l.flatMap bJ.f=(l.take i).flatMap bJ.f++(l.drop i).flatMap bJ.f:=by rw[←List.flatMap_append,List.take_append_drop]
  have hl:((l.take i).flatMap bJ.f).length=i*4:=by rw[oK,List.length_take,Nat.min_eq_left hi]
  rw[e,List.take_append_of_le_length (by omega),ahm (by omega)]
 ·rw[ahm (by rw[oK];omega),ahm (by omega)]
theorem EF (l:List Pr) (i:Nat):(l.flatMap bJ.f).drop (i*4)=(l.drop i).flatMap bJ.f:=nh _ _ bJ.hf l i
theorem yg (s:List Pr) (i:Nat) (x:Pr):(s.take i++x :: s.drop i).flatMap bJ.f=(s.flatMap bJ.f).take (i*4)++(bJ.f x++(s.flatMap bJ.f).drop (i*4)):=by
 rw[EE,EF,List.flatMap_append,List.flatMap_cons]
theorem EG {w:World}{vb:Nat}{x:Pr}(h:w.heap[vb]?=some (.cells (bJ.f x).toArray 194 (0,0))):Row w (some ⟨vb,0,none⟩) 4 1 (bJ.f x):=by
 have h1:w.heap[vb]?=some (.cells ([x].flatMap bJ.f).toArray 194 (0,0)):=by simpa using h
 have:=ak.block bJ [x] h1;unfold ak at this;exact(by simpa using this:Row w (some ⟨vb,0,none⟩) bJ.k 1 (bJ.f x))
theorem EH {w:World}{vb:Nat}{x:Pr}(h:w.heap[vb]?=some (.cells (bJ.f x).toArray 194 (0,0))):∀j v,(bJ.f x)[j]?=some v→w.cell? ((⟨vb,0,none⟩:Addr).add j)=some v:=by
 intro j v hj;have e:(⟨vb,0,none⟩:Addr).add j=⟨vb,j,none⟩:=by unfold Addr.add;split<;>simp_all
 rw[e];simp only[World.cell?,h];simpa using hj
set_option maxRecDepth 10000
set_option maxHeartbeats 8000000
theorem Bz (B:Nat) (v:Value) (s:List Pr) (vb:Nat) (x:Pr) (w:World) (hO:w.ownsRow B 194 4 v s.length (s.flatMap bJ.f)) (hx:w.heap[vb]?=some (.cells (bJ.f x).toArray 194 (0,0))) (hB:B≤w.heap.size) (hl:s.length≤100000) :
  Calls Tryz.prog 176 #[v,.int .i64 s.length,.slice (some ⟨vb,0,none⟩) 1 1] w fun e w'=>∃v',e=.returned v'∧w'.ownsRow B 194 4 v' (s.length+1) (s.flatMap bJ.f++bJ.f x)∧Ap w v w' v':=by
 obtain⟨i0,hi,hz0,hz1,hz2⟩:=info_parts nx;have HR:=aa (EG hx);have H1:ahg (∀u∈bJ.f x,u.oneCell'=true):=aa (by have:=fB [x];simpa using this);have HO:=aa hO;clear hx;generalize hcs:s.flatMap bJ.f=cs at *;have PZ:(((s.length:Nat):Int) == ((s.length:Nat):Int))=true:=by simp
 have uZ:((1:Int) == 0)=false:=by decide
 rcases hO.2 with ⟨rfl,h0⟩|⟨g,cap,cur,rfl,hb,hg,hle,oa,hsz,vk⟩
 ·clear hcs;generalize s.length=n at *;subst h0;go_enter Tryz.func176,Tryz.ntmps176;go_wp2_with (at_builtin;refine aH _ rfl _ _ 190 rfl B 194 i0 _ 4 56 Tryz.underlying190 hi hz0 hz1 hz2 rfl (by decide) (.slice none 0 0) 0 cs rfl HO.o (some ⟨vb,0,none⟩) 1 1 (bJ.f x) rfl ?c2 ?c3 ?c4 ?c5 ?c6 ?_)
  case c2=>exact HR.o
  case c3=>exact H1.o
  case c4=>unfold maxLen;omega
  case c5=>omega
  case c6=>exact hB
  intro v' w' h1 h2 h3;have K1:=aa h1;have K2:ahg (Ap w (.slice none 0 0) w' v'):=aa ⟨h2,h3.imp id (fun h k hk=>by rw[h] at hk;injection hk with hk;omega)⟩;clear h1 h2 h3;go_wp2;go_ret;exact⟨v',rfl,K1.o,K2.o⟩
 ·clear hcs vk hsz hg;unfold maxLen at oa;have Dt:cap=s.length∨cap≠s.length:=by omega
  rcases Dt with Dt|Dt
  ·subst Dt;go_enter Tryz.func176,Tryz.ntmps176;go_wp2_with (at_builtin;refine aH _ rfl _ _ 190 rfl B 194 i0 _ 4 56 Tryz.underlying190 hi hz0 hz1 hz2 rfl (by decide) _ s.length cs rfl HO.o (some ⟨vb,0,none⟩) 1 1 (bJ.f x) rfl ?c2 ?c3 ?c4 ?c5 ?c6 ?_)
   case c2=>exact HR.o
   case c3=>exact H1.o
   case c4=>unfold maxLen;omega
   case c5=>omega
   case c6=>exact hB
   intro v' w' h1 h2 h3;have K1:=aa h1;have K2:ahg (Ap w (.slice (some ⟨g,0,none⟩) s.length s.length) w' v'):=aa ⟨h2,h3.imp id (fun h k hk=>by rw[h] at hk;injection hk with hk;omega)⟩;clear h1 h2 h3;go_wp2;go_ret;exact⟨v',rfl,K1.o,K2.o⟩
  ·go_enter Tryz.func176,Tryz.ntmps176;go_wp2_with (at_builtin;refine aH _ rfl _ _ 190 rfl B 194 i0 _ 4 56 Tryz.underlying190 hi hz0 hz1 hz2 rfl (by decide) _ s.length cs rfl HO.o (some ⟨vb,0,none⟩) 1 1 (bJ.f x) rfl ?c2 ?c3 ?c4 ?c5 ?c6 ?_)
   case c2=>exact HR.o
   case c3=>exact H1.o
   case c4=>unfold maxLen;omega
   case c5=>omega
   case c6=>exact hB
   intro v' w' h1 h2 h3;have K1:=aa h1;have K2:ahg (Ap w (.slice (some ⟨g,0,none⟩) s.length cap) w' v'):=aa ⟨h2,h3.imp id (fun h k hk=>by rw[h] at hk;injection hk with hk;omega)⟩;clear h1 h2 h3;go_wp2;go_ret;exact⟨v',rfl,K1.o,K2.o⟩
set_option maxRecDepth 512
set_option maxHeartbeats 200000
theorem pO {w:World}{g:Nat}{cur:List Value}{t:TypeId}(h:w.heap[g]?=some (.cells cur.toArray t (0,0))) (off:Nat) (l:List Value) (hl:∀j v,l[j]?=some v→cur[off+j]?=some v):∀j v,l[j]?=some v→w.cell? ((⟨g,off,none⟩:Addr).add j)=some v:=by
 intro j v hj;have e:(⟨g,off,none⟩:Addr).add j=⟨g,off+j,none⟩:=by unfold Addr.add;split<;>simp_all
 rw[e];simp only[World.cell?,h];simpa using hl j v hj
theorem ln {α:Type}(L cs:List α) (m a:Nat) (h:L.take m=cs):∀j v,(cs.drop a)[j]?=some v→L[a+j]?=some v:=by
 intro j v hj;rw[List.getElem?_drop,←h,List.getElem?_take] at hj
 split at hj
 ·exact hj
 ·cases hj
set_option maxRecDepth 10000
set_option maxHeartbeats 8000000
theorem yh (B g n i:Nat) (cs:List Value) (vb:Nat) (x:Pr) (w:World) (cur:Array Value) (hg:w.heap[g]?=some (.cells cur 194 (0,0))) (oh:cs.length=n*4) (vk:cur.toList.take (n*4)=cs) (h1c:∀u∈cs,u.oneCell'=true) (hi:i<n)
  (hx:w.heap[vb]?=some (.cells (bJ.f x).toArray 194 (0,0))) (hB:B≤w.heap.size) (hl:n≤100000) :
  Calls Tryz.prog 176 #[.slice (some ⟨g,0,none⟩) n n,.int .i64 i,.slice (some ⟨vb,0,none⟩) 1 1] w fun e w'=>∃v',e=.returned v'∧w'.ownsRow B 194 4 v' (n+1) (cs.take (i*4)++(bJ.f x++cs.drop (i*4)))∧Ap w (.slice (some ⟨g,0,none⟩) n n) w' v':=by
 obtain⟨i0,JZ,hz0,hzs,hzb⟩:=info_parts nx;have jd:=ae hg;have nc:=ae hx;have J0:(bJ.f x).length=4:=bJ.hf x;have H1:ahg (∀u∈bJ.f x,u.oneCell'=true):=aa (by have:=fB [x];simpa using this);have BC:w.heap[g]?=some (.cells cur.toList.toArray 194 (0,0)):=by simpa using hg
 have Ms:∀j v,(cs.take (i*4))[j]?=some v→w.cell? ((⟨g,0,none⟩:Addr).add j)=some v:=pO BC 0 _ (fun j v hj=>by
  rw[Nat.zero_add];rw[←vk,List.getElem?_take,List.getElem?_take] at hj
  split at hj
  ·split at hj
   ·exact hj
   ·cases hj
  ·cases hj)
 have sB:∀j v,(cs.drop (i*4))[j]?=some v→w.cell? ((⟨g,i*4,none⟩:Addr).add j)=some v:=pO BC (i*4) _ (ln _ _ _ _ vk);have hold:(Builtin.firstCells i0.size i (.slice (some ⟨g,0,none⟩) i n)).run Tryz.prog w.drew=.ok (cs.take (i*4)).toArray w.drew:=by
  rw[hzs];exact run_firstCells_some w.drew 4 i ⟨g,0,none⟩ i n (cs.take (i*4)) (by rw[List.length_take];omega) Ms
 obtain⟨G,hG⟩:∃G,G=grownCap w (n+1) n 194:=⟨_,rfl⟩;obtain⟨W1,hW1⟩:∃W1,W1=w.drew.alloc (.cells ((cs.take (i*4)).toArray++Builtin.zeroCells (Value.agg #[.int .i64 0,.string ⟨#[]⟩,.int .i64 0,.slice none 0 0]).cells (n+1 - i)++Builtin.zeroCells (Value.agg #[.int .i64 0,.string ⟨#[]⟩,.int .i64 0,.slice none 0 0]).cells (G - (n+1))) 194):=⟨_,rfl⟩;have hGn:n+1≤G:=by rw[hG];exact grownCap_ge w _ _ _
 have Q3:G≤maxLen:=by rw[hG];exact grownCap_le_maxLen w (n+1) n 194 (by unfold maxLen;omega)
 have ZL:ahg (∀ty,(Builtin.append_ #[190,3] ty #[.slice (some ⟨g,0,none⟩) i n,.int .i64 ((n:Int)+1 - (i:Int))]).run Tryz.prog w=.ok (.slice (some ⟨w.heap.size,0,none⟩) (n+1) G) W1):=aa (fun ty=>by
  have hik:i+(n+1 - i)=n+1:=by omega
  have xE:(n:Int)+1 - (i:Int)=((n+1 - i:Nat):Int):=by omega
  have h:=Lib.run_append_grow_zeros w 190 3 ty 194 i0 _ .i64 .i64 Tryz.underlying190 Tryz.underlying3 JZ hz0 (some ⟨g,0,none⟩) i n (cs.take (i*4)) hold (n+1 - i) (by omega) (by omega) (by omega) (by omega) (by rw[hzb];omega) (by rw[hzb,hik];exact growslice_fits (by omega) (by omega));rw[hik] at h;rw[xE,hW1,hG];exact h)
 obtain⟨R,hR⟩:∃R:List Value,R=cs.take (i*4)++(Builtin.zeroCells (Value.agg #[.int .i64 0,.string ⟨#[]⟩,.int .i64 0,.slice none 0 0]).cells (n+1 - i)++Builtin.zeroCells (Value.agg #[.int .i64 0,.string ⟨#[]⟩,.int .i64 0,.slice none 0 0]).cells (G - (n+1))).toList:=⟨_,rfl⟩;have ZM:R.length=G*4:=by
  rw[hR];simp[Builtin.zeroCells,Value.cells];omega
 have Uz:R.take (i*4)=cs.take (i*4):=by
  rw[hR,List.take_append_of_le_length (by rw[List.length_take];omega),ahm (by rw[List.length_take];omega)]
 have hN:ahg (W1.heap[w.heap.size]?=some (.cells R.toArray 194 (0,0))):=aa (by
  rw[hW1,hR];rw[ah w.drew _ w.heap.size rfl]
  congr 2
  apply Array.toList_inj.1
  simp)
 have X1:ahg (Ext w W1):=aa (by rw[hW1];exact(eR w).drew.alloc _);have hs1:W1.heap.size=w.heap.size+1:=by rw[hW1];simp
 have HX:=aa hx;have HGG:=aa BC;have ZN:=aa sB;have UA:=aa ZM;have HRT:=aa Uz;have HCL:=aa oh;have Wp:ahg (∀u∈cs.drop (i*4),u.oneCell'=true):=aa (fun u hu=>h1c u (List.mem_of_mem_drop hu));have NH:ahg ((cs.drop (i*4)).length=(n - i)*4):=aa (by rw[List.length_drop,oh];omega);have hz1:¬(i:Int)=(n:Int):=by omega
 have Wq:((i:Int) == (n:Int))=false:=by rw[beq_eq_false_iff_ne];omega
 have hz2:((1:Int) == 0)=false:=by decide
 have hz3:(n:Int)+1>(n:Int):=by omega
 have hni:¬n=i:=by omega
 have hGi:¬G=i:=by omega
 have acu:¬G=i+1:=by omega
 have hb1:(0:Int)≤(i:Int)+1:=by omega
 have hb2:(i:Int)≤(n:Int)+1:=by omega
 have hb3:(i:Int)+1≤(n:Int)+1:=by omega
 have hb4:(i:Int)≤(n:Int):=by omega
 have Dv:((i:Int)+1).toNat=i+1:=by omega
 have Jc:IntKind.i64.wrap ((i:Int)+1)=(i:Int)+1:=by rw[IntKind.wrap_i64];omega
 have hMx:ahg (G≤maxLen):=aa Q3;obtain⟨N,Ws⟩:∃N,N=w.heap.size:=⟨_,rfl⟩;rw[←Ws] at ZL hN;have Q4:=aa Ws;clear hx hg BC Ms sB hold hG hW1 hR ZM Uz oh vk h1c Q3 JZ hz0 hzs hzb Ws;go_enter Tryz.func176,Tryz.ntmps176;go_wp2_with (first
  |(at_builtin;refine Lib.wpList_append_run _ rfl _ _ _ _ rfl _ _ rfl rfl _ _ (ZL.o _) ?_)
  |(refine ll rfl _ _ 190 190 rfl 194 Tryz.underlying190 4 kG N (i*4) _ _ ⟨vb,0,none⟩ _ _ rfl rfl R 194 hN.o (bJ.f x) 1 ?n1 ?l1 ?s1 ?f1 H1.o ?_))
 case n1=>simp only[Nat.min_def];split<;>omega
 case l1=>rw[J0]
 case s1=>exact EH ((X1.o.heap nc).trans HX.o)
 case f1=>rw[J0,UA.o];omega
 intro w2 ZO Wt hz2;have ZP:∀w3:World,w2.drew=w3→∀j v,(cs.drop (i*4))[j]?=some v→w3.cell? ((⟨g,i*4,none⟩:Addr).add j)=some v:=by
  rintro w3 rfl j v hj;have h1:=ZN.o j v hj;have e:(⟨g,i*4,none⟩:Addr).add j=⟨g,i*4+j,none⟩:=by unfold Addr.add;split<;>simp_all
  rw[e] at h1 ⊢;refine(World.cell?_of_block ?_).trans h1;show w2.heap[g]?=_;rw[Wt.o.block g (by omega) (fun e=>by have:=Q4.o;injection e with e;omega),X1.o.heap jd]
 have UC:=aa (ZP _ rfl);clear ZP;have Q5:ahg (w2.drew.heap[N]?=some (.cells (splice R (i*4) (bJ.f x)).toArray 194 (0,0))):=ZO;have xD:(splice R (i*4) (bJ.f x)).length=R.length:=length_splice _ _ _ (by rw[J0,UA.o];omega);have Hsl:=aa xD;clear xD;go_wp2;have Jd:n - i=Nat.min (n - i) (n+1 - (i+1)):=by simp only[Nat.min_def];split<;>omega
 have hf3:(i+1)*4+(cs.drop (i*4)).length≤(splice R (i*4) (bJ.f x)).length:=by rw[Hsl.o,UA.o,NH.o];omega
 have Wu:=aa Jd;have P5:=aa hf3;clear Jd hf3
 go_region_law (refine nN rfl _ _ 190 190 rfl 194 Tryz.underlying190 4 kG N ((i+1)*4) (n+1 - (i+1)) (G - (i+1)) ⟨g,i*4,none⟩ (n - i) (n - i) (by simp[Act.eval,Act.put]) (by simp[Act.eval,Act.put]) (splice R (i*4) (bJ.f x)) 194 Q5.o (cs.drop (i*4)) (n - i) Wu.o NH.o UC.o P5.o Wp.o ?_;intro w3 Q6 P6 hz3)
 have X3:ahg (Ext w w3):=aa (((X1.o.grown Wt.o (fun k e=>by have:=Q4.o;injection e with e;omega)).drew).grown P6.o (fun k e=>by have:=Q4.o;injection e with e;omega));have hO:ahg (w3.ownsRow B 194 4 (.slice (some ⟨N,0,none⟩) (n+1) G) (n+1) (cs.take (i*4)++(bJ.f x++cs.drop (i*4)))):=aa (by
  have e4:(i+1)*4=i*4+4:=by omega
  have hG:=Q6.o;rw[e4] at hG;have J3:=NH.o;have P7:=UA.o;obtain⟨k1,k2⟩:=Bx R (bJ.f x) (cs.drop (i*4)) (i*4) 4 ((n - i)*4) J0 J3 (by omega);have e5:i*4+4+(n - i)*4=(n+1)*4:=by omega
  rw[e5,HRT.o] at k2;refine⟨?_,.inr ⟨N,G,_,rfl,by have:=Q4.o;omega,hG,hGn,hMx.o,?_,?_⟩⟩
  ·rw[←k2,List.length_take,k1,P7];omega
  ·simpa [P7] using k1
  ·simpa using k2)
 clear ZO Q5 Q6 Wt P6 UC;go_wp2;go_ret;exact⟨_,rfl,hO.o,dN X3.o _,.inr (fun k hk=>by have:=Q4.o;injection hk with hk;have hk:N=k:=hk;omega)⟩
theorem vO (B g n cap i:Nat) (cs:List Value) (vb:Nat) (x:Pr) (w:World) (cur:Array Value) (hg:w.heap[g]?=some (.cells cur 194 (0,0))) (oh:cs.length=n*4) (vk:cur.toList.take (n*4)=cs) (hsz:cur.size=cap*4) (h1c:∀u∈cs,u.oneCell'=true) (hi:i<n) (hroom:n+1≤cap) (oa:cap≤maxLen)
  (hx:w.heap[vb]?=some (.cells (bJ.f x).toArray 194 (0,0))) (hne:vb≠g) (hB:B≤g) (hl:n≤100000) :
  Calls Tryz.prog 176 #[.slice (some ⟨g,0,none⟩) n cap,.int .i64 i,.slice (some ⟨vb,0,none⟩) 1 1] w fun e w'=>∃v',e=.returned v'∧w'.ownsRow B 194 4 v' (n+1) (cs.take (i*4)++(bJ.f x++cs.drop (i*4)))∧Ap w (.slice (some ⟨g,0,none⟩) n cap) w' v':=by
 have jd:=ae hg;have nc:=ae hx;have J0:(bJ.f x).length=4:=bJ.hf x;have H1:ahg (∀u∈bJ.f x,u.oneCell'=true):=aa (by have:=fB [x];simpa using this);have BC:w.heap[g]?=some (.cells cur.toList.toArray 194 (0,0)):=by simpa using hg
 have sB:∀j v,(cs.drop (i*4))[j]?=some v→w.cell? ((⟨g,i*4,none⟩:Addr).add j)=some v:=pO BC (i*4) _ (ln _ _ _ _ vk);have NI:cur.toList.length=cap*4:=by simpa using hsz
 have EI:w.shape? vb=some (194,4):=by simp[World.shape?,hx,J0]
 have Je:w.shape? g=some (194,cap*4):=by simp[World.shape?,hg,hsz]
 have hov:∀lb cb,(callFunc 209 #[.slice (some ⟨vb,0,none⟩) 1 1,.slice (some ⟨g,(i+1)*4,none⟩) lb cb]).run Tryz.prog w=.ok (.value (.bool false)) w:=fun lb cb=>by
  rw[run_callFunc_extern Tryz.func209 (by kernel_rfl) (by kernel_rfl) (by kernel_rfl) (e:=Extern.SlicesOverlaps.overlaps #[190,190] #[4]) (by kernel_rfl),
   Lib.run_overlaps_apart w 190 4 194 Tryz.underlying190 4 Tryz.sizeOf194 ⟨vb,0,none⟩ ⟨g,(i+1)*4,none⟩ 1 1 lb cb hne 194 194 4 (cap*4) EI Je (by omega) (by simp[World.frozen?,hx]) (by simp[World.frozen?,hx])]
  rfl
 have HX:=aa hx;have HGG:=aa BC;have ZN:=aa sB;have HCL:=aa oh;have ZQ:=aa NI;have HTK:=aa vk;have Wp:ahg (∀u∈cs.drop (i*4),u.oneCell'=true):=aa (fun u hu=>h1c u (List.mem_of_mem_drop hu));have NH:ahg ((cs.drop (i*4)).length=(n - i)*4):=aa (by rw[List.length_drop,oh];omega);have Wq:((i:Int) == (n:Int))=false:=by rw[beq_eq_false_iff_ne];omega
 have hz1:¬(i:Int)=(n:Int):=by omega
 have hz2:((1:Int) == 0)=false:=by decide
 have hz3:¬(n:Int)+1>(cap:Int):=by omega
 have hmx:cap≤9223372036854775807:=oa;have hci:¬cap=i:=by omega
 have acz:¬cap=i+1:=by omega
 have hb1:(0:Int)≤(i:Int)+1:=by omega
 have hb0:(0:Int)≤(n:Int)+1:=by omega
 have hb2:(i:Int)≤(n:Int)+1:=by omega
 have hb3:(i:Int)+1≤(n:Int)+1:=by omega
 have hb4:(i:Int)≤(n:Int):=by omega
 have Mr:(n:Int)+1≤(cap:Int):=by omega
 have Dv:((i:Int)+1).toNat=i+1:=by omega
 have acA:((n:Int)+1).toNat=n+1:=by omega
 have Jc:IntKind.i64.wrap ((i:Int)+1)=(i:Int)+1:=by rw[IntKind.wrap_i64];omega
 have Jd:n - i=Nat.min (n+1 - i) (n+1 - (i+1)):=by simp only[Nat.min_def];split<;>omega
 have hf3:(i+1)*4+(cs.drop (i*4)).length≤cur.toList.length:=by rw[NI,NH.o];omega
 have Wu:=aa Jd;have P5:=aa hf3;have HMX:=aa oa;have UD:=aa hroom;have UC:ahg (∀j v,(cs.drop (i*4))[j]?=some v→w.drew.cell? ((⟨g,i*4,none⟩:Addr).add j)=some v):=aa sB;have HGd:ahg (w.drew.heap[g]?=some (.cells cur.toList.toArray 194 (0,0))):=aa BC;clear hx hg BC sB NI EI Je oh vk hsz h1c Jd hf3 oa hroom;go_enter Tryz.func176,Tryz.ntmps176;go_wp2_with (simp only[hov])
 go_region_law (refine nN rfl _ _ 190 190 rfl 194 Tryz.underlying190 4 kG g ((i+1)*4) (n+1 - (i+1)) (cap - (i+1)) ⟨g,i*4,none⟩ (n+1 - i) (cap - i) (by simp[Act.eval,Act.put]) (by simp[Act.eval,Act.put]) cur.toList 194 HGd.o (cs.drop (i*4)) (n - i) Wu.o NH.o UC.o P5.o Wp.o ?_;intro w3 Q6 P6 ZG)
 have Wv:ahg (∀j v,(bJ.f x)[j]?=some v→w3.cell? ((⟨vb,0,none⟩:Addr).add j)=some v):=aa (EH ((P6.o.block vb nc (fun e=>by injection e with e;omega)).trans HX.o));have hs1:(splice cur.toList ((i+1)*4) (cs.drop (i*4))).length=cap*4:=by rw[length_splice _ _ _ P5.o,ZQ.o]
 have HS1:=aa hs1;clear hs1;go_wp2_with (refine ll rfl _ _ 190 190 rfl 194 Tryz.underlying190 4 kG g (i*4) _ _ ⟨vb,0,none⟩ _ _ rfl rfl (splice cur.toList ((i+1)*4) (cs.drop (i*4))) 194 Q6.o (bJ.f x) 1 ?n1 ?l1 Wv.o ?f1 H1.o ?_)
 case n1=>simp only[Nat.min_def];split<;>omega
 case l1=>rw[J0]
 case f1=>rw[J0,HS1.o];have:=UD.o;omega
 intro w5 ZR ZT P2;have hO:ahg (w5.ownsRow B 194 4 (.slice (some ⟨g,0,none⟩) (n+1) cap) (n+1) (cs.take (i*4)++(bJ.f x++cs.drop (i*4)))):=aa (by
  have e4:(i+1)*4=i*4+4:=by omega
  have hG:=ZR.o;rw[e4] at hG;have J3:=NH.o;have ZU:=ZQ.o;have hrm:=UD.o;obtain⟨k1,k2⟩:=tZ cur.toList (bJ.f x) (cs.drop (i*4)) (i*4) 4 ((n - i)*4) J0 J3 (by omega);have e5:i*4+4+(n - i)*4=(n+1)*4:=by omega
  have e6:cur.toList.take (i*4)=cs.take (i*4):=by rw[←HTK.o,List.take_take,Nat.min_eq_left (by omega)]
  rw[e5,e6] at k2;refine⟨?_,.inr ⟨g,cap,_,rfl,hB,hG,hrm,HMX.o,?_,?_⟩⟩
  ·rw[←k2,List.length_take,k1,ZU];omega
  ·simpa [ZU] using k1
  ·simpa using k2)
 have hgr:ahg (w.grownBy w5 (some g)):=aa (aR (aR (⟨rfl,rfl,rfl,ahi _,fun _ _ _=>rfl⟩:w.grownBy w.drew (some g)) P6.o) ZT.o);clear Q6 P6 ZR ZT;go_wp2;go_ret;exact⟨_,rfl,hO.o,hgr.o,.inl rfl⟩
set_option maxRecDepth 512
set_option maxHeartbeats 200000
theorem EJ (B:Nat) (v:Value) (s:List Pr) (i vb:Nat) (x:Pr) (w:World) (hO:w.ownsRow B 194 4 v s.length (s.flatMap bJ.f)) (hi:i≤s.length) (hx:w.heap[vb]?=some (.cells (bJ.f x).toArray 194 (0,0))) (hne:v.ownBlock≠some vb) (hB:B≤w.heap.size) (hl:s.length≤100000) :
  Calls Tryz.prog 176 #[v,.int .i64 i,.slice (some ⟨vb,0,none⟩) 1 1] w fun e w'=>∃v',e=.returned v'∧w'.ownsRow B 194 4 v' (s.length+1) ((s.take i++x :: s.drop i).flatMap bJ.f)∧Ap w v w' v':=by
 rcases Nat.lt_or_ge i s.length with hlt|bU
 ·rw[yg]
  rcases hO.2 with ⟨-,h0⟩|⟨g,cap,cur,rfl,hb,hg,hle,oa,hsz,vk⟩
  ·omega
  ·rcases Nat.lt_or_ge s.length cap with hc|hc
   ·exact vO B g s.length cap i _ vb x w cur hg (oK s) vk hsz (fB s) hlt hc oa hx (fun e=>hne (by rw[e];rfl)) hb hl
   ·obtain rfl:cap=s.length:=by omega
    exact yh B g s.length i _ vb x w cur hg (oK s) vk (fB s) hlt hx hB hl
 ·obtain rfl:i=s.length:=by omega
  have e:(s.take s.length++x :: s.drop s.length).flatMap bJ.f=s.flatMap bJ.f++bJ.f x:=by
   rw[List.take_length,List.drop_length,List.flatMap_append,List.flatMap_cons,List.flatMap_nil,List.append_nil]
  rw[e];exact Bz B v s vb x w hO hx hB hl
set_option maxHeartbeats 1000000 in
theorem J4 (A:Option Addr) (cap:Nat) (l:List Int) (x:Int) (w:World) (h:Ints w A l) (hle:l.length≤9223372036854775807) :
  Calls Tryz.prog 187 #[.slice A l.length cap,.int .i64 x] w fun e w'=>e=.returned (.int .i64 (gV l x))∧w'=w:=by
 have xM:=aa (fun k => @kz _ _ l x 0 k);have qR:=aa (kA l x 0);have Hr:=aa h;clear h;generalize gV l x=R at *;go_enter Tryz.func187,Tryz.ntmps187;go_wp2
 go_loop [8] (fun i=>∃j:Nat,j≤l.length∧i=.int .i64 j∧ahg (∀i,i<j→(l.getD i 0 == x)=false)) (fun i=>l.length - (intOf i).toNat)
 case atStart=>exact⟨0,ahj _,rfl,aa (fun i hi=>absurd hi (by omega))⟩
 case round=>
  obtain⟨j,hj,rfl,Hj⟩:=hrel
  by_cases hlt:j<l.length
  ·obtain⟨b,o,rfl,hb,hc⟩:=Hr.o.at_ hlt;have aS:(j:Int)<(l.length:Int):=by omega
   have Hg:ahg (l.getD j 0=l[j]'hlt):=aa (by simp[hlt]);generalize l[j]'hlt=y at *;cases hs:(x == y)
   ·go_wp2
    go_round
    case rel=>
     refine⟨j+1,hlt,by go_num,aa (fun i hi => ?_)⟩
     by_cases AK:i=j
     ·rw[AK,Hg.o];rw[Bool.eq_false_iff] at hs ⊢;simp at hs ⊢;exact fun e=>hs e.symm
     ·exact Hj.o i (by omega)
    case measure=>simp[intOf];omega
   ·have hR:=xM.o j hlt Hj.o (by rw[Hg.o];simp at hs ⊢;exact hs.symm);subst hR;go_wp2;go_ret;exact⟨rfl,rfl⟩
  ·have bU:(l.length:Int)≤(j:Int):=by omega
   have hR:=qR.o (fun i hi=>Hj.o i (by omega));subst hR;go_wp2;go_ret;exact⟨rfl,rfl⟩
set_option maxHeartbeats 1000000 in
theorem Q7 (A:Option Addr) (cap:Nat) (l:List Int) (x:Int) (w:World) (h:Ints w A l) (hle:l.length≤9223372036854775807) :
  Calls Tryz.prog 139 #[.slice A l.length cap,.int .i64 x] w fun e w'=>e=.returned (.bool (l.any (· == x)))∧w'=w:=by
 have Hi:=aa (J4 A cap l x w h hle);rw[←tL];clear h;generalize gV l x=R at *;go_enter Tryz.func139,Tryz.ntmps139;go_wp2_with fail;refine Hi.o.mono ?_;rintro e w1 ⟨rfl,rfl⟩;go_wp2;go_ret;exact⟨rfl,rfl⟩
def bO (s:aj):aj:=if preB 123 s&&jl 125 (s.drop 1)&&cd ((s.drop 1).take (s.length - 2)) then(s.drop 1).take (s.length - 2) else []
def cN (t:Ty):Bool := !(bO t.aq == [])&&t.args.length == 1&&t.var == 0
theorem EK : cd []=false:=rfl
theorem vP {s:aj}(h1:preB 123 s=true) (h2:jl 125 (eO 123 s)=true):jK 125 (eO 123 s)=(s.drop 1).take (s.length - 2):=by
 have e:eO 123 s=s.drop 1:=by unfold eO;rw[h1];rfl
 rw[e] at h2 ⊢;unfold jK;rw[h2,if_pos rfl]
 congr 1
 simp;omega
theorem yi {s:aj}(h1:preB 123 s=true) (h2:jl 125 (eO 123 s)=true) (h3:cd (jK 125 (eO 123 s))=true):bO s=jK 125 (eO 123 s)∧(bO s == [])=false:=by
 have e:=vP h1 h2;have e1:eO 123 s=s.drop 1:=by unfold eO;rw[h1];rfl
 have h4:=h3;rw[e] at h3;have hc:bO s=(s.drop 1).take (s.length - 2):=by unfold bO;rw[h1,←e1,h2,e1,h3];rfl
 refine⟨hc.trans e.symm,?_⟩;rw[hc];cases hq:(s.drop 1).take (s.length - 2) with
 |nil=>rw[hq] at h3;cases h3
 |cons b d=>rfl
theorem yj {s:aj}(h1:preB 123 s=false):bO s=[]:=by unfold bO;rw[h1];rfl
theorem yl {s:aj}(h1:preB 123 s=true) (h2:jl 125 (eO 123 s)=false):bO s=[]:=by
 have e1:eO 123 s=s.drop 1:=by unfold eO;rw[h1];rfl
 unfold bO;rw[←e1,h2,h1];rfl
theorem ym {s:aj}(h1:preB 123 s=true) (h2:jl 125 (eO 123 s)=true) (h3:cd (jK 125 (eO 123 s))=false):bO s=[]:=by
 rw[vP h1 h2] at h3;unfold bO;rw[h3,Bool.and_false];rfl
theorem pP {t:Ty}(h:bO t.aq=[]):cN t=false:=by unfold cN;rw[h];rfl
theorem vQ (c:UInt8) (s:aj):(eO c s).length≤s.length:=by unfold eO;split<;>simp
theorem EL (c:UInt8) (s:aj):(jK c s).length≤s.length:=by unfold jK;split<;>simp
def eY (c:aj) (u:Ty) (b:Bool):Value:=.tuple #[encStr c,.agg #[encStr u.aq,.int .i64 u.var,.slice u.A u.args.length u.cap],.bool b]
def lp (t:Ty):Ty:=if cN t then t.args.headD Ty.zero else Ty.zero
def lq (t:Ty):aj:=if cN t then bO t.aq else []
theorem sD {α:Type}{d:α}:∀(l:List α) (h:0<l.length),l.headD d=l[0]'h
 |_ :: _,_=>rfl
theorem fI {t:Ty}(h:cN t=false):lp t=Ty.zero:=by unfold lp;rw[h];rfl
theorem fJ {t:Ty}(h:cN t=false):lq t=[]:=by unfold lq;rw[h];rfl
set_option maxRecDepth 10000
set_option maxHeartbeats 8000000
theorem J5 (t:Ty) (w:World) (h:aC w t):Calls Tryz.prog 119 #[bh t] w fun e w'=>e=.returned (eY (lq t) (lp t) (cN t))∧Ext w w':=by
 have uW:=h.txt;have hle:=h.le;have hmx:=h.max;have Hk:=aa (fun w' (e:Ext w w')=>h.all.ext e);have H1:=aa (fun w'=>aa (vq t.aq 123 w' uW));have H2:=aa (fun w'=>aa (vr (eO 123 t.aq) 125 w' (aho (vQ _ _) uW)));have H3:=aa (fun w'=>aa (rZ (jK 125 (eO 123 t.aq)) w' (aho (EL _ _) (aho (vQ _ _) uW))));clear h;cases h1:preB 123 t.aq
 ·rw[h1] at H1;have hd:=pP (yj h1);rw[hd,fI hd,fJ hd];clear hd;unfold bh eY;go_enter Tryz.func119,Tryz.ntmps119;go_wp2_with fail;refine(H1.o _).o.mono ?_;rintro e w2 ⟨rfl,rfl⟩;go_wp2_with fail;refine(H2.o _).o.mono ?_;rintro e w3 ⟨rfl,rfl⟩;go_wp2;refine bodyPost_ret (v:=.tuple #[.string ⟨#[]⟩,.agg #[.string ⟨#[]⟩,.int .i64 0,.slice none 0 0],.bool false]) ?_ rfl ⟨rfl,(by repeat(first|exact eR _|exact eA (by assumption) _|refine eA ?_ _|refine eM ?_ _ _|refine eD ?_|refine eN ?_ _))⟩;simp[results,Tryz.f119,go_sem]
 ·rw[h1] at H1;cases h2:jl 125 (eO 123 t.aq)
  ·rw[h2] at H2;have hd:=pP (yl h1 h2);rw[hd,fI hd,fJ hd];clear hd;unfold bh eY;go_enter Tryz.func119,Tryz.ntmps119;go_wp2_with fail;refine(H1.o _).o.mono ?_;rintro e w2 ⟨rfl,rfl⟩;go_wp2_with fail;refine(H2.o _).o.mono ?_;rintro e w3 ⟨rfl,rfl⟩;go_wp2;refine bodyPost_ret (v:=.tuple #[.string ⟨#[]⟩,.agg #[.string ⟨#[]⟩,.int .i64 0,.slice none 0 0],.bool false]) ?_ rfl ⟨rfl,(by repeat(first|exact eR _|exact eA (by assumption) _|refine eA ?_ _|refine eM ?_ _ _|refine eD ?_|refine eN ?_ _))⟩;simp[results,Tryz.f119,go_sem]
  ·rw[h2] at H2;cases h3:cd (jK 125 (eO 123 t.aq))
   ·rw[h3] at H3;have hd:=pP (ym h1 h2 h3);rw[hd,fI hd,fJ hd];clear hd;unfold bh eY;go_enter Tryz.func119,Tryz.ntmps119;go_wp2_with fail;refine(H1.o _).o.mono ?_;rintro e w2 ⟨rfl,rfl⟩;go_wp2_with fail;refine(H2.o _).o.mono ?_;rintro e w3 ⟨rfl,rfl⟩;go_wp2_with fail;refine(H3.o _).o.mono ?_;rintro e w4 ⟨rfl,rfl⟩;go_wp2;refine bodyPost_ret (v:=.tuple #[.string ⟨#[]⟩,.agg #[.string ⟨#[]⟩,.int .i64 0,.slice none 0 0],.bool false]) ?_ rfl ⟨rfl,(by repeat(first|exact eR _|exact eA (by assumption) _|refine eA ?_ _|refine eM ?_ _ _|refine eD ?_|refine eN ?_ _))⟩;simp[results,Tryz.f119,go_sem]
   ·rw[h3] at H3;obtain⟨gS,iv⟩:=yi h1 h2 h3;have hD:cN t=(!((t.args.length:Int) != 1) && !(t.var != 0)):=by
     unfold cN;rw[iv,←mo];simp[bne]
    cases hn:((t.args.length:Int) != 1)
    rotate_left 1
    ·rw[hn] at hD;have hd:cN t=false:=hD;rw[hd,fI hd,fJ hd];clear hd hD gS iv;unfold bh eY;go_enter Tryz.func119,Tryz.ntmps119;go_wp2_with fail;refine(H1.o _).o.mono ?_;rintro e w2 ⟨rfl,rfl⟩;go_wp2_with fail;refine(H2.o _).o.mono ?_;rintro e w3 ⟨rfl,rfl⟩;go_wp2_with fail;refine(H3.o _).o.mono ?_;rintro e w4 ⟨rfl,rfl⟩;go_wp2;refine bodyPost_ret (v:=.tuple #[.string ⟨#[]⟩,.agg #[.string ⟨#[]⟩,.int .i64 0,.slice none 0 0],.bool false]) ?_ rfl ⟨rfl,(by repeat(first|exact eR _|exact eA (by assumption) _|refine eA ?_ _|refine eM ?_ _ _|refine eD ?_|refine eN ?_ _))⟩;simp[results,Tryz.f119,go_sem]
    ·rw[hn] at hD;cases hv:(t.var != 0)
     rotate_left 1
     ·rw[hv] at hD;have hd:cN t=false:=hD;rw[hd,fI hd,fJ hd];clear hd hD gS iv;unfold bh eY;go_enter Tryz.func119,Tryz.ntmps119;go_wp2_with fail;refine(H1.o _).o.mono ?_;rintro e w2 ⟨rfl,rfl⟩;go_wp2_with fail;refine(H2.o _).o.mono ?_;rintro e w3 ⟨rfl,rfl⟩;go_wp2_with fail;refine(H3.o _).o.mono ?_;rintro e w4 ⟨rfl,rfl⟩;go_wp2;refine bodyPost_ret (v:=.tuple #[.string ⟨#[]⟩,.agg #[.string ⟨#[]⟩,.int .i64 0,.slice none 0 0],.bool false]) ?_ rfl ⟨rfl,(by repeat(first|exact eR _|exact eA (by assumption) _|refine eA ?_ _|refine eM ?_ _ _|refine eD ?_|refine eN ?_ _))⟩;simp[results,Tryz.f119,go_sem]
     ·rw[hv] at hD;have hd:cN t=true:=hD;have qU:t.args.length=1:=by simp at hn;omega
      have hl0:0<t.args.length:=by omega
      have ha:lp t=t.args[0]'hl0:=by unfold lp;rw[hd,if_pos rfl,sD _ hl0]
      have hc:lq t=jK 125 (eO 123 t.aq):=by unfold lq;rw[hd,if_pos rfl,gS]
      rw[hd,ha,hc];obtain⟨b,o,hA,hb,q0,q1,q2⟩:=(Hk.o _ (((eR w).alloc (.cells #[encStr t.aq,.int .i64 t.var,.slice t.A t.args.length t.cap] 53)).alloc (.cells #[.string ⟨#[]⟩,.int .i64 0,.slice none 0 0] 53))).at_ hl0;simp only[Nat.zero_mul,Nat.add_zero] at q0 q1 q2;rw[hA] at q0 q1 q2;clear hd ha hc hD gS iv qU Hk;generalize t.args[0]'hl0=x at *;generalize jK 125 (eO 123 t.aq)=C at *;generalize eO 123 t.aq=D at *;unfold bh eY;go_enter Tryz.func119,Tryz.ntmps119;go_wp2_with fail;refine(H1.o _).o.mono ?_;rintro e w2 ⟨rfl,rfl⟩;go_wp2_with fail;refine(H2.o _).o.mono ?_;rintro e w3 ⟨rfl,rfl⟩;go_wp2_with fail;refine(H3.o _).o.mono ?_;rintro e w4 ⟨rfl,rfl⟩;go_wp2
      go_region
      go_wp2;refine bodyPost_ret (v:=.tuple #[encStr C,.agg #[encStr x.aq,.int .i64 x.var,.slice x.A x.args.length x.cap],.bool true]) ?_ rfl ⟨rfl,(by repeat(first|exact eR _|exact eA (by assumption) _|refine eA ?_ _|refine eM ?_ _ _|refine eD ?_|refine eN ?_ _))⟩;simp[results,Tryz.f119,go_sem]
set_option maxRecDepth 512
set_option maxHeartbeats 200000
theorem zS (b c:UInt8) (n:Int) (h:n=c.toNat):(((b.toNat:Nat):Int) != n) = !(b == c):=by
 subst h;rw[Bool.eq_iff_iff];simp only[bne_iff_ne,ne_eq,Bool.not_eq_true',beq_eq_false_iff_ne]
 constructor
 ·intro h e;subst e;exact h rfl
 ·intro h e;exact h (UInt8.toNat_inj.1 (by omega))
theorem ua {s:aj}(h:s.length<3):bO s=[]:=by
 have:(s.drop 1).take (s.length - 2)=[]:=by rw[show s.length - 2=0 by omega];rfl
 unfold bO;rw[this,EK,Bool.and_false];rfl
theorem EM {c:UInt8}{s:aj}(h:0<s.length):preB c s=(s[0]'h == c):=by cases s with|nil=>cases h|cons b d=>rfl
theorem EN {c:UInt8}{s:aj}(h:2≤s.length):jl c (s.drop 1)=(s[s.length - 1]'(by omega) == c):=by
 have hn:s.drop 1≠[]:=by intro e;have:=congrArg List.length e;simp at this;omega
 unfold jl;rw[show(s.drop 1 == [])=false from by simpa using hn,Bool.not_false,Bool.true_and]
 congr 1
 rw[List.getLastD_eq_getLast?,List.getLast?_eq_some_getLast hn,Option.getD_some,List.getLast_eq_getElem,List.getElem_drop]
 congr 1
 simp;omega
set_option maxRecDepth 10000
set_option maxHeartbeats 8000000
theorem yo (s:aj) (w:World) (hl:s.length≤9223372036854775807):Calls Tryz.prog 236 #[encStr s] w fun e w'=>e=.returned (encStr (bO s))∧w'=w:=by
 by_cases h3:s.length<3
 ·rw[ua h3];have Mt:(s.length:Int)<3:=by omega
  go_enter Tryz.func236,Tryz.ntmps236;go_wp2;go_ret;exact⟨rfl,rfl⟩
 ·have Mt:¬(s.length:Int)<3:=by omega
  have h0:0<s.length:=by omega
  have h0':(0:Int)<(s.length:Int):=by omega
  have Mp:(0:Int)≤(s.length:Int) - 1:=by omega
  have JT:(s.length:Int) - 1<(s.length:Int):=by omega
  have UE:s.length - 1<s.length:=by omega
  have e1:=EM (c:=123) h0;have e2:=EN (c:=125) (show 2≤s.length by omega);have HC:ahg (bO s=if preB 123 s&&jl 125 (s.drop 1)&&cd ((s.drop 1).take (s.length - 2)) then(s.drop 1).take (s.length - 2) else []):=aa rfl;rw[e1,e2] at HC;clear e1 e2;have xD:=fun w'=>JD s 1 (s.length - 1) 1 ((s.length:Int) - 1) (by omega) (by omega) rfl (by omega) w'
  rw[show s.length - 1 - 1=s.length - 2 by omega] at xD;have HN:=aa (fun w'=>aa (kB ((s.drop 1).take (s.length - 2)) w' (aho (List.length_take_le _ _) (by omega))));have Jf:=zS (s[0]'h0) 123 123 rfl;have P8:=zS (s[s.length - 1]'UE) 125 125 rfl;have vw:s[0]'h0=s[0]'h0:=rfl;generalize hb0:s[0]'h0=x at *;have hby:s[s.length - 1]'UE=s[s.length - 1]'UE:=rfl;generalize hb1:s[s.length - 1]'UE=y at *;clear vw hby
  have hz0:(0:Int)≤((x.toNat:Nat):Int):=by omega
  have hz1:(0:Int)≤((y.toNat:Nat):Int):=by omega
  generalize (s.drop 1).take (s.length - 2)=C at *;clear h3;cases hx:(x == 123)
  ·rw[hx] at Jf HC;have hR:bO s=[]:=by rw[HC.o];rfl
   rw[hR];clear hR HC;go_enter Tryz.func236,Tryz.ntmps236;go_wp2;go_ret;exact⟨rfl,rfl⟩
  ·rw[hx] at Jf HC;cases hy:(y == 125)
   ·rw[hy] at P8 HC;have hR:bO s=[]:=by rw[HC.o];rfl
    rw[hR];clear hR HC;go_enter Tryz.func236,Tryz.ntmps236;go_wp2;go_ret;exact⟨rfl,rfl⟩
   ·rw[hy] at P8 HC;cases hc:cd C
    ·rw[hc] at HC HN;have hR:bO s=[]:=by rw[HC.o];rfl
     rw[hR];clear hR HC;go_enter Tryz.func236,Tryz.ntmps236;go_wp2_with fail;refine(HN.o _).o.mono ?_;rintro e w2 ⟨rfl,rfl⟩;go_wp2;go_ret;exact⟨rfl,rfl⟩
    ·rw[hc] at HC HN;have hR:bO s=C:=by rw[HC.o];rfl
     rw[hR];clear hR HC;go_enter Tryz.func236,Tryz.ntmps236;go_wp2_with fail;refine(HN.o _).o.mono ?_;rintro e w2 ⟨rfl,rfl⟩;go_wp2;go_ret;exact⟨rfl,rfl⟩
theorem BD (t:Ty) (w:World) (h:aC w t):Calls Tryz.prog 215 #[bh t] w fun e w'=>e=.returned (eY (lq t) (lp t) (cN t))∧Ext w w':=by
 have uW:=h.txt;have hle:=h.le;have hmx:=h.max;have Hk:=aa (fun w' (e:Ext w w')=>h.all.ext e);have H1:=aa (fun w'=>aa (yo t.aq w' uW));clear h;have hD:cN t=(!(bO t.aq == []) && !((t.args.length:Int) != 1) && !(t.var != 0)):=by
  unfold cN;rw[←mo];simp[bne]
 cases h1:(bO t.aq == [])
 rotate_left 1
 ·rw[h1] at hD;have hd:cN t=false:=hD;clear hD;rw[hd,fI hd,fJ hd];clear hd;unfold bh eY;go_enter Tryz.func215,Tryz.ntmps215;go_wp2_with fail;refine(H1.o _).o.mono ?_;rintro e w2 ⟨rfl,rfl⟩;go_wp2;refine bodyPost_ret (v:=.tuple #[.string ⟨#[]⟩,.agg #[.string ⟨#[]⟩,.int .i64 0,.slice none 0 0],.bool false]) ?_ rfl ⟨rfl,(by repeat(first|exact eR _|exact eA (by assumption) _|refine eA ?_ _|refine eM ?_ _ _|refine eD ?_|refine eN ?_ _))⟩;simp[results,Tryz.f215,go_sem]
 ·rw[h1] at hD;cases hn:((t.args.length:Int) != 1)
  rotate_left 1
  ·rw[hn] at hD;have hd:cN t=false:=hD;clear hD;rw[hd,fI hd,fJ hd];clear hd;unfold bh eY;go_enter Tryz.func215,Tryz.ntmps215;go_wp2_with fail;refine(H1.o _).o.mono ?_;rintro e w2 ⟨rfl,rfl⟩;go_wp2;refine bodyPost_ret (v:=.tuple #[.string ⟨#[]⟩,.agg #[.string ⟨#[]⟩,.int .i64 0,.slice none 0 0],.bool false]) ?_ rfl ⟨rfl,(by repeat(first|exact eR _|exact eA (by assumption) _|refine eA ?_ _|refine eM ?_ _ _|refine eD ?_|refine eN ?_ _))⟩;simp[results,Tryz.f215,go_sem]
  ·rw[hn] at hD;cases hv:(t.var != 0)
   rotate_left 1
   ·rw[hv] at hD;have hd:cN t=false:=hD;clear hD;rw[hd,fI hd,fJ hd];clear hd;unfold bh eY;go_enter Tryz.func215,Tryz.ntmps215;go_wp2_with fail;refine(H1.o _).o.mono ?_;rintro e w2 ⟨rfl,rfl⟩;go_wp2;refine bodyPost_ret (v:=.tuple #[.string ⟨#[]⟩,.agg #[.string ⟨#[]⟩,.int .i64 0,.slice none 0 0],.bool false]) ?_ rfl ⟨rfl,(by repeat(first|exact eR _|exact eA (by assumption) _|refine eA ?_ _|refine eM ?_ _ _|refine eD ?_|refine eN ?_ _))⟩;simp[results,Tryz.f215,go_sem]
   ·rw[hv] at hD;have hd:cN t=true:=hD;have qU:t.args.length=1:=by simp at hn;omega
    have hl0:0<t.args.length:=by omega
    have ha:lp t=t.args[0]'hl0:=by unfold lp;rw[hd,if_pos rfl,sD _ hl0]
    have hc:lq t=bO t.aq:=by unfold lq;rw[hd,if_pos rfl]
    rw[hd,ha,hc];obtain⟨b,o,hA,hb,q0,q1,q2⟩:=(Hk.o _ (((eR w).alloc (.cells #[encStr t.aq,.int .i64 t.var,.slice t.A t.args.length t.cap] 53)).alloc (.cells #[.string ⟨#[]⟩,.int .i64 0,.slice none 0 0] 53))).at_ hl0;simp only[Nat.zero_mul,Nat.add_zero] at q0 q1 q2;rw[hA] at q0 q1 q2;clear hd ha hc hD qU Hk;generalize t.args[0]'hl0=x at *;generalize bO t.aq=C at *;unfold bh eY;go_enter Tryz.func215,Tryz.ntmps215;go_wp2_with fail;refine(H1.o _).o.mono ?_;rintro e w2 ⟨rfl,rfl⟩;go_wp2
    go_region
    go_wp2;refine bodyPost_ret (v:=.tuple #[encStr C,.agg #[encStr x.aq,.int .i64 x.var,.slice x.A x.args.length x.cap],.bool true]) ?_ rfl ⟨rfl,(by repeat(first|exact eR _|exact eA (by assumption) _|refine eA ?_ _|refine eM ?_ _ _|refine eD ?_|refine eN ?_ _))⟩;simp[results,Tryz.f215,go_sem]
set_option maxRecDepth 512
set_option maxHeartbeats 200000
theorem yq {P:Program}(w:World) (dT sT ty elem:TypeId) (k g nv tX:Nat) (a:Addr) (nw tY:Nat) (cur:Array Value) (t:TypeId) (cs:List Value) (n:Nat)
  (hu:P.underlying dT=some (.slice elem)) (hs:(P.info? elem).map (·.size)=some k)
  (hg:w.heap[g]?=some (.cells cur t (0,0))) (hn:n=Nat.min nw nv) (hc:cs.length=n*k)
  (yb:∀j v,cs[j]?=some v→w.cell? (a.add j)=some v) (ye:cs.length≤cur.size) (h1:∀v∈cs,v.oneCell'=true) :
  (Builtin.copy_ #[dT,sT] ty #[.slice (some ⟨g,0,none⟩) nv tX,.slice (some a) nw tY]).run P w =
   .ok (goInt n) (w.setRow g (cs++cur.toList.drop cs.length).toArray):=by
 have hl:=run_loadCells_list (P:=P) w a cs yb;have hst:=run_storeCells_at P g 0 t cs 0 cur w hg (by simpa using ye) h1;cases hq:P.info? elem with
 |none=>simp[hq] at hs
 |some i=>
  have hi:i.size=k:=by simpa [hq] using hs
  rw[hc] at hl;simp[Builtin.copy_,run_underlying hu,Builtin.lenOf,Builtin.firstCells,sizeOf,typeInfo,hq,hi,←hn,hl];rw[hst];simp
end Go.Proofs.YtigafbmabjglfaaGreatDoor
