import Derived.Test.YtigafbmabjglfaaGreatDoorJT16
import Derived.Laws.MakeOwn
namespace Go.Proofs.YtigafbmabjglfaaGreatDoor
open Go.RowKit
def jE (c:aj) (t:Ty) (b:Nat):Ty:=.mk ([123]++c++[125]) 0 (some ⟨b,0,none⟩) 1 [t]
theorem vR {w:World}{c:aj}{t:Ty}{b:Nat}(hc:c.length≤1000000000000000000) (h:aC w t) (hb:w.heap[b]?=some (.cells #[encStr t.aq,.int .i64 t.var,.slice t.A t.args.length t.cap] 53)):aC w (jE c t b):=by
 refine aC.of (by simp) (by decide) (by simp;omega) ?_ (by simpa using h);exact ak.block cA [t] (by simpa [cA,Ty.cells] using hb)
set_option maxRecDepth 10000
set_option maxHeartbeats 8000000
theorem EO (c:aj) (t:Ty) (w:World) (h:aC w t) (hc:c.length≤1000000000000000000):Calls Tryz.prog 33 #[encStr c,bh t] w fun e w'=>(∃b,e=.returned (bh (jE c t b))∧aC w' (jE c t b)∧w.heap.size≤b)∧Ext w w':=by
 have NJ:¬((⟨[(123:UInt8)].toArray⟩:ByteArray).size+(⟨c.toArray⟩:ByteArray).size>9223372036854775807):=by rw[aB,aB];simp;omega
 have e1:=ByteArray.mk_append_mk [(123:UInt8)] c;have Ww:¬((⟨([123]++c).toArray⟩:ByteArray).size+(⟨[(125:UInt8)].toArray⟩:ByteArray).size>9223372036854775807):=by rw[aB,aB];simp;omega
 have e2:=ByteArray.mk_append_mk (123 :: c) [(125:UInt8)];have jF:=aa (fun w' (e:Ext w w')=>h.ext e);clear h;unfold bh;go_enter Tryz.func33,Tryz.ntmps33;go_wp2;refine bodyPost_ret (v:=.agg #[.string ⟨(123 :: (c++[125])).toArray⟩,.int .i64 0,.slice (some ⟨w.heap.size+1+1,0,none⟩) 1 1]) ?_ rfl ⟨⟨w.heap.size+1+1,rfl,vR hc (jF.o _ (by repeat(first|exact eR _|exact eA (by assumption) _|refine eA ?_ _|refine eM ?_ _ _|refine eD ?_|refine eN ?_ _))) (ah _ _ _ (by simp)),by omega⟩,(by repeat(first|exact eR _|exact eA (by assumption) _|refine eA ?_ _|refine eM ?_ _ _|refine eD ?_|refine eN ?_ _))⟩;simp[results,Tryz.f33,go_sem]
set_option maxRecDepth 512
set_option maxHeartbeats 200000
theorem ub : (Tryz.prog.info? 53).map (fun i=>(i.zero,i.size,i.bytes))=some (some (.agg #[.string ⟨#[]⟩,.int .i64 0,.slice none 0 0]),3,48):=by kernel_rfl
theorem EP (W:World):(Instr.makeSlice 31 (.int .i64 1) (.int .i64 1)).run Tryz.prog W=.ok (.slice (some ⟨W.heap.size,0,none⟩) 1 1) (W.alloc (.cells #[.string ⟨#[]⟩,.int .i64 0,.slice none 0 0] 53)):=by
 obtain⟨i1,hj,mM,gS,iv⟩:=info_parts ub;have je:=run_make (P:=Tryz.prog) W 31 53 i1 _ Tryz.underlying31 hj mM .i64 .i64 1 1 (by omega) (Int.le_refl _) (by rw[iv];omega) (by omega);rw[gS] at je;have e:madeCells (Value.agg #[.string ⟨#[]⟩,.int .i64 0,.slice none 0 0]).cells ((1:Int).toNat*3)=#[.string ⟨#[]⟩,.int .i64 0,.slice none 0 0]:=by kernel_rfl
 rw[e] at je;exact je
set_option maxRecDepth 10000
set_option maxHeartbeats 8000000
theorem NK (c:aj) (t:Ty) (w:World) (h:aC w t) (hc:c.length≤1000000000000000000):Calls Tryz.prog 32 #[encStr c,bh t] w fun e w'=>(∃b,e=.returned (bh (jE c t b))∧aC w' (jE c t b)∧w.heap.size≤b)∧Ext w w':=by
 have NJ:¬((⟨[(123:UInt8)].toArray⟩:ByteArray).size+(⟨c.toArray⟩:ByteArray).size>9223372036854775807):=by rw[aB,aB];simp;omega
 have e1:=ByteArray.mk_append_mk [(123:UInt8)] c;have Ww:¬((⟨([123]++c).toArray⟩:ByteArray).size+(⟨[(125:UInt8)].toArray⟩:ByteArray).size>9223372036854775807):=by rw[aB,aB];simp;omega
 have e2:=ByteArray.mk_append_mk (123 :: c) [(125:UInt8)];have je:=fun W=>EP W
 obtain⟨W3,hW3⟩:∃W3,W3=(((w.alloc (.cells #[encStr t.aq,.int .i64 t.var,.slice t.A t.args.length t.cap] 53)).alloc (.cells #[.string ⟨#[]⟩,.int .i64 0,.slice none 0 0] 53)).alloc (.cells #[.string ⟨#[]⟩,.int .i64 0,.slice none 0 0] 53)).alloc (.cells #[encStr t.aq,.int .i64 t.var,.slice t.A t.args.length t.cap] 53):=⟨_,rfl⟩;have X3:Ext w W3:=by rw[hW3];exact((((eR w).alloc _).alloc _).alloc _).alloc _
 have g1:W3.heap[w.heap.size+1]?=some (.cells #[.string ⟨#[]⟩,.int .i64 0,.slice none 0 0] 53 (0,0)):=by
  rw[hW3];exact((((eR _).alloc _).alloc _).heap (by simp)).trans (ah _ _ _ (by simp))
 have g2:W3.heap[w.heap.size+1+1]?=some (.cells #[.string ⟨#[]⟩,.int .i64 0,.slice none 0 0] 53 (0,0)):=by
  rw[hW3];exact(((eR _).alloc _).heap (by simp)).trans (ah _ _ _ (by simp))
 have g3:W3.heap[w.heap.size+1+1+1]?=some (.cells #[encStr t.aq,.int .i64 t.var,.slice t.A t.args.length t.cap] 53):=by
  rw[hW3];exact ah _ _ _ (by simp)
 obtain⟨W4,sF⟩:∃W4,W4=W3.setRow (w.heap.size+1+1) #[encStr t.aq,.int .i64 t.var,.slice t.A t.args.length t.cap]:=⟨_,rfl⟩;have Q8:(Builtin.copy_ #[31,31] 3 #[.slice (some ⟨w.heap.size+1+1,0,none⟩) 1 1,.slice (some ⟨w.heap.size+1+1+1,0,none⟩) 1 1]).run Tryz.prog W3=.ok (goInt 1) W4:=by
  rw[sF];exact yq W3 31 31 3 53 3 _ 1 1 _ 1 1 _ _ [encStr t.aq,.int .i64 t.var,.slice t.A t.args.length t.cap] 1 Tryz.underlying31 (by kernel_rfl) g2 rfl rfl
   (fun j v hj=>by
    have:=af g3 j;rw[show(⟨w.heap.size+1+1+1,0,none⟩:Addr).add j=⟨w.heap.size+1+1+1,j,none⟩ from by unfold Addr.add;split<;>simp_all];rw[this];simpa using hj)
   (ahi 3) (by intro v hv;simp at hv;rcases hv with rfl|rfl|rfl<;>rfl)
 have X4:ahg (Ext w W4):=aa (by rw[sF];exact Ext.cg (below_setRow X3.below (by omega) _) (ahi _));have G1:ahg (W4.heap[w.heap.size+1]?=some (.cells #[.string ⟨#[]⟩,.int .i64 0,.slice none 0 0] 53 (0,0))):=aa (by rw[sF,setRow_other _ _ _ _ (by omega)];exact g1);have G2:ahg (W4.heap[w.heap.size+1+1]?=some (.cells #[encStr t.aq,.int .i64 t.var,.slice t.A t.args.length t.cap] 53)):=aa (by rw[sF];exact setRow_heap _ _ _ _ _ _ g2);rw[hW3] at Q8;clear sF X3 g1 g2 g3 hW3;have k0:=af G1.o 0;have k1:=af G1.o 1;have k2:=af G1.o 2;have f0:=ai G1.o 0;have f1:=ai G1.o 1;have f2:=ai G1.o 2;simp only[ahp,ahq,ahr] at k0 k1 k2;have jF:=aa (fun w' (e:Ext w w')=>h.ext e);clear h;unfold bh;go_enter Tryz.func32,Tryz.ntmps32;go_wp2;have XF:Ext w (((W4.setCell ⟨w.heap.size+1,0,none⟩ (.string ⟨(123 :: (c++[125])).toArray⟩)).setCell ⟨w.heap.size+1,1,none⟩ (.int .i64 0)).setCell ⟨w.heap.size+1,2,none⟩ (.slice (some ⟨w.heap.size+1+1,0,none⟩) 1 1)):=((X4.o.setCell (by simp) _).setCell (by simp) _).setCell (by simp) _;have GF:(((W4.setCell ⟨w.heap.size+1,0,none⟩ (.string ⟨(123 :: (c++[125])).toArray⟩)).setCell ⟨w.heap.size+1,1,none⟩ (.int .i64 0)).setCell ⟨w.heap.size+1,2,none⟩ (.slice (some ⟨w.heap.size+1+1,0,none⟩) 1 1)).heap[w.heap.size+1+1]?=some (.cells #[encStr t.aq,.int .i64 t.var,.slice t.A t.args.length t.cap] 53):=by
  rw[Below.heap_setCell _ _ _ _ (by simp),Below.heap_setCell _ _ _ _ (by simp),Below.heap_setCell _ _ _ _ (by simp)];exact G2.o
 refine bodyPost_ret (v:=.agg #[.string ⟨(123 :: (c++[125])).toArray⟩,.int .i64 0,.slice (some ⟨w.heap.size+1+1,0,none⟩) 1 1]) ?_ rfl ⟨⟨w.heap.size+1+1,rfl,vR hc (jF.o _ XF) GF,by omega⟩,XF⟩;simp[results,Tryz.f32,go_sem,k0,k1,k2]
set_option maxRecDepth 512
set_option maxHeartbeats 200000
open Go.Shelf
def ER : Array Value:=#[.string ⟨#[]⟩,.int .i64 0,.slice none 0 0]
def j6 (m:Nat):Array Value:=((List.replicate m Ty.zero).flatMap cA.f).toArray
theorem BF (m:Nat):madeCells ER (m*3)=j6 m:=by
 unfold madeCells j6
 apply Array.toList_inj.1
 rw[Array.toList_map,Array.toList_range]
 induction m with
 |zero=>rfl
 |succ m ih=>
  rw[List.replicate_succ',List.flatMap_append,show(m+1)*3=m*3+1+1+1 by omega,List.range_succ,List.range_succ,List.range_succ,ahz,ahz,ahz,ih];simp only[List.append_assoc]
  congr 1
  have h0:(m*3) % 3=0:=by omega
  have h1:(m*3+1) % 3=1:=by omega
  have h2:(m*3+1+1) % 3=2:=by omega
  simp only[List.map_cons,List.map_nil,show ER.size=3 from rfl,h0,h1,h2,List.flatMap_cons,List.flatMap_nil];rfl
theorem jo (m:Nat) (hm:m≤100000) (W:World):(Instr.makeSlice 31 (.int .i64 m) (.int .i64 m)).run Tryz.prog W=.ok (.slice (some ⟨W.heap.size,0,none⟩) m m) (W.alloc (.cells (j6 m) 53)):=by
 obtain⟨i1,hj,mM,gS,iv⟩:=info_parts ub;have je:=run_make (P:=Tryz.prog) W 31 53 i1 _ Tryz.underlying31 hj mM .i64 .i64 m m (by omega) (Int.le_refl _) (by rw[iv];omega) (by omega);rw[gS,Int.toNat_natCast,show(Value.agg #[.string ⟨#[]⟩,.int .i64 0,.slice none 0 0]).cells=ER from rfl,BF] at je;exact je
def iI (t:Ty) (b:Nat):Ty:=.mk t.aq t.var (some ⟨b,0,none⟩) (min t.args.length 4095) (List.replicate (min t.args.length 4095) Ty.zero)
theorem J6 {w:World}{t:Ty}{b:Nat}(ht:t.aq.length≤9223372036854775807) (hb:w.heap[b]?=some (.cells (j6 (min t.args.length 4095)) 53 (0,0))):aC w (iI t b):=
 aC.of (by simp) (by omega) ht (ak.block cA _ hb) (fun k hk=>by rw[List.eq_of_mem_replicate hk];exact aC.zero w)
theorem ny : Ty.zero.size=1:=by rw[Ty.size_eq];rfl
theorem yr : Ty.zero.depth=1:=by rw[Ty.aN];rfl
theorem yt : bE Ty.zero=true:=by rw[cL];rfl
theorem BG (t:Ty) (b:Nat):(iI t b).size≤4096:=by
 rw[Ty.size_eq];show((List.replicate (min t.args.length 4095) Ty.zero).map Ty.size).sum+1≤4096;rw[List.map_replicate,List.sum_replicate_nat,ny];omega
theorem pQ (t:Ty) (b:Nat):az (iI t b)=bH t.aq t.var t.args.length:=by
 have h1:(iI t b).size≤4096:=by
  rw[Ty.size_eq];show((List.replicate (min t.args.length 4095) Ty.zero).map Ty.size).sum+1≤4096;rw[List.map_replicate,List.sum_replicate_nat,ny];omega
 have h2:(iI t b).depth≤100:=by
  rw[Ty.aN];show((List.replicate (min t.args.length 4095) Ty.zero).map Ty.depth).foldr max 0+1≤100;have:((List.replicate (min t.args.length 4095) Ty.zero).map Ty.depth).foldr max 0≤1:=(fW _ _).2 (fun x hx=>by
   rw[List.map_replicate] at hx;rw[List.eq_of_mem_replicate hx,yr];exact ahi _)
  omega
 have h3:bE (iI t b)=bH t.aq t.var (min t.args.length 4095):=by
  rw[cL];have:(iI t b).args.all bE=true:=List.all_eq_true.2 (fun x hx=>by rw[List.eq_of_mem_replicate hx];exact yt);rw[this,Bool.and_true];show bH t.aq t.var (List.replicate (min t.args.length 4095) Ty.zero).length=_;rw[List.length_replicate]
 unfold az;rw[decide_eq_true h1,decide_eq_true h2,h3,Bool.true_and,Bool.true_and];have e0:(min t.args.length 4095 == 0)=(t.args.length == 0):=by rw[Bool.eq_iff_iff];simp
 have e2:(min t.args.length 4095 == 2)=(t.args.length == 2):=by rw[Bool.eq_iff_iff];simp;omega
 rw[ni,ni,e0,e2]
noncomputable def cH : Ty→Bool:=Ty.oY fun t=>cN t||bH t.aq t.var t.args.length
noncomputable def aQ (t:Ty):Bool:=decide (t.size≤4096)&&decide (t.depth≤100)&&cH t
theorem iJ (t:Ty):cH t=((cN t||bH t.aq t.var t.args.length)&&t.args.all cH):=fX _ t
def BH (t:Ty) (L D:Int):Prop:=(t.size:Int)≤L∧(t.depth:Int)≤D∧cH t=true
end Go.Proofs.YtigafbmabjglfaaGreatDoor
