import Derived.Test.YtigafbmabjglfaaGreatDoorJA22
import Derived.Lib.Strings
import Derived.Lib.Builder
import Derived.Lib.AppendStr
import Derived.Lib.UnsafeStr
namespace Go.Proofs.YtigafbmabjglfaaGreatDoor
open Go.RowKit
theorem x7 : (Tryz.prog.info? 237).map (·.size)=some 2:=by kernel_rfl
theorem ID : liesAt Tryz.prog Tryz.prog.depth 237 (2 / Tryz.prog.cellsOf 237) 0 237 1=true:=by kernel_rfl
set_option maxRecDepth 100000 in
set_option maxHeartbeats 1000000 in
theorem wh (b:Nat) (w:World) (h0:w.cell? ⟨b,0,none⟩=some (.pointer (some ⟨b,0,none⟩))) :
  Calls Tryz.prog 200 #[.pointer (some ⟨b,0,none⟩)] w fun e w'=>e=.returned (.tuple #[])∧w'=w:=by
 obtain⟨j,hj,_⟩:=Option.map_eq_some_iff.1 x7;go_enter Tryz.func200,Tryz.ntmps200;go_wp2;rw[Lib.run_neq_ptr_same w _ Tryz.underlying235 hj];go_wp2
 go_end0
 exact⟨rfl,rfl⟩
set_option maxRecDepth 100000 in
set_option maxHeartbeats 1000000 in
theorem sZ (b:Nat) (w:World) (h0:w.cell? ⟨b,0,none⟩=some (.pointer none)) (hsh:w.shape? b=some (237,2)) (hfz:w.frozen? ⟨b,0,none⟩=false) :
  Calls Tryz.prog 200 #[.pointer (some ⟨b,0,none⟩)] w fun e w'=>e=.returned (.tuple #[])∧w'=w.setCell ⟨b,0,none⟩ (.pointer (some ⟨b,0,none⟩)):=by
 obtain⟨j,hj,Xg⟩:=Option.map_eq_some_iff.1 x7;go_enter Tryz.func200,Tryz.ntmps200;go_wp2;rw[Lib.run_to_unsafe w ⟨b,0,none⟩ Tryz.underlying235 Tryz.underlying180 hj (by rw[Xg];decide) hsh (Nat.zero_lt_succ 1)];simp only[Result.andThen];rw[Oper.upon_value];go_wp2;rw[run_callFunc_extern Tryz.func226 (by kernel_rfl) (by kernel_rfl) (by kernel_rfl) (e:=Extern.AbiNoEscape.same) (by kernel_rfl)];rw[Lib.run_noEscape];simp only[Result.andThen];rw[Oper.upon_value];go_wp2;rw[Lib.run_from_unsafe w ⟨b,0,none⟩ Tryz.underlying180 Tryz.underlying235 hj hsh ID];simp only[Result.andThen];rw[Oper.upon_value];go_wp2
 go_end0
 exact⟨rfl,rfl⟩
theorem Mp (B b:Nat) (bs:List Value) (w:World) (h:Lib.IsBuilder 237 5 B b bs w) :
  Calls Tryz.prog 200 #[.pointer (some ⟨b,0,none⟩)] w fun e w'=>e=.returned (.tuple #[])∧(Lib.BuilderAt 237 5 B b (.pointer (some ⟨b,0,none⟩)) bs w'∧Below B w w'):=by
 rcases h with h|h
 ·refine(sZ b w h.cell0 h.shape h.frozen0).mono ?_;rintro e w' ⟨rfl,rfl⟩;exact⟨rfl,h.used _,(Below.refl B w).setCell (p:=⟨b,0,none⟩) h.1 _⟩
 ·refine(wh b w h.cell0).mono ?_;rintro e w' ⟨rfl,rfl⟩;exact⟨rfl,h,Below.refl B _⟩
theorem Ee : (Tryz.prog.info? 5).map (fun i=>(i.zero,i.size,i.bytes))=some (some (.int .u8 0),1,1):=by kernel_rfl
set_option maxRecDepth 100000 in
set_option maxHeartbeats 2000000 in
theorem Mq (B b:Nat) (bs:List Value) (s:ByteArray) (w:World) (h:Lib.IsBuilder 237 5 B b bs w) (hlen:bs.length+s.size≤140737488355328) (hBw:B≤w.heap.size) :
  Calls Tryz.prog 160 #[.pointer (some ⟨b,0,none⟩),.string s] w fun e w'=>e=.returned (.tuple #[.int .i64 s.size,.nilIface])∧(Lib.BuilderAt 237 5 B b (.pointer (some ⟨b,0,none⟩)) (bs++Lib.strCells s) w'∧Below B w w'):=by
 obtain⟨i0,hi,hz0,hz1,hz2⟩:=info_parts Ee;have HC:=aa (Mp B b bs w h);clear h;go_enter Tryz.func160,Tryz.ntmps160;go_wp2_with fail;refine HC.o.mono ?_;rintro e w1 ⟨rfl,h1,hb1⟩;obtain⟨hB,v,Sr,hown,hne⟩:=h1;have c0:w1.cell? ⟨b,0,none⟩=some (.pointer (some ⟨b,0,none⟩)):=by rw[Lib.cell_of_heap Sr];rfl
 have c1:w1.cell? ⟨b,1,none⟩=some v:=by rw[Lib.cell_of_heap Sr];rfl
 go_wp2_with (at_builtin;refine Lib.wpList_append_own_string _ rfl _ _ 125 9 rfl B 5 i0 Tryz.underlying125 Tryz.underlying9 hi hz0 hz1 hz2 _ _ _ rfl hown s rfl ?c3 ?c4 ?c5 ?_)
 case c3=>unfold maxLen;omega
 case c4=>omega
 case c5=>have:=hb1.size;omega
 intro v' w2 hown' hgrow _;have hlt:b<w1.heap.size:=ae Sr;have hb2:w2.heap[b]?=some (.cells #[.pointer (some ⟨b,0,none⟩),v] 237 (0,0)):=by
  rw[hgrow.block b hlt (fun e=>hne e.symm)];exact Sr
 have d0:w2.cell? ⟨b,0,none⟩=some (.pointer (some ⟨b,0,none⟩)):=by rw[Lib.cell_of_heap hb2];rfl
 have d1:w2.cell? ⟨b,1,none⟩=some v:=by rw[Lib.cell_of_heap hb2];rfl
 have f1:w2.frozen? ⟨b,1,none⟩=false:=Lib.frozen_of_heap hb2 1;obtain⟨ao,n',cap,rfl⟩:∃ao n' cap,v'=.slice ao n' cap:=by
  rcases hown'.2 with ⟨hv,_⟩|⟨g,cap,cur,hv,_⟩
  ·exact⟨_,_,_,hv⟩
  ·exact⟨_,_,_,hv⟩
 go_wp2;go_ret2;refine⟨rfl,?_,?_⟩
 ·exact Lib.BuilderAt.put (T:=237) (e:=5) hB hb2 (bs':=bs++Lib.strCells s) (by simpa [Lib.strCells_length] using hown') (by decide)
 ·exact(hb1.grown hgrow (by have:=hb1.size;omega) (fun k hk=>(hown.lt k hk).1)).setCell (p:=⟨b,1,none⟩) hB _
set_option maxRecDepth 100000 in
set_option maxHeartbeats 2000000 in
theorem IE (B b:Nat) (l:List UInt8) (w:World) (h:Lib.IsBuilder 237 5 B b (Lib.byteCells l) w) (h0:l≠[]) :
  Calls Tryz.prog 161 #[.pointer (some ⟨b,0,none⟩)] w fun e w'=>e=.returned (.string ⟨l.toArray⟩)∧Below B w w':=by
 obtain⟨p,hB,v,Sr,hown,hne⟩:∃p,Lib.BuilderAt 237 5 B b p (Lib.byteCells l) w:=by
  rcases h with h|h
  ·exact⟨_,h⟩
  ·exact⟨_,h⟩
 have hl0:l.length≠0:=by simpa using h0
 rw[Lib.byteCells_length] at hown;obtain⟨g,cap,cur,rfl,hbg,hg,hnc,hcm,hcs,ack⟩:∃g cap cur,v=.slice (some ⟨g,0,none⟩) l.length cap∧B≤g∧w.heap[g]?=some (.cells cur 5 (0,0))∧l.length≤cap∧cap≤maxLen∧cur.size=cap*1∧cur.toList.take (l.length*1)=Lib.byteCells l:=by
  rcases hown.2 with ⟨_,hz⟩|⟨g,cap,cur,hv,r⟩
  ·exact absurd hz hl0
  ·exact⟨g,cap,cur,hv,r⟩
 have c1:w.drew.cell? ⟨b,1,none⟩=some (.slice (some ⟨g,0,none⟩) l.length cap):=by
  have:w.drew.heap[b]?=some (.cells #[p,.slice (some ⟨g,0,none⟩) l.length cap] 237 (0,0)):=Sr;rw[Lib.cell_of_heap this];rfl
 have hSD:(Builtin.unsafeSliceData_ #[125] 279 #[.slice (some ⟨g,0,none⟩) l.length cap]).run Tryz.prog w.drew=.ok (.pointer (some ⟨g,0,none⟩)) w.drew:=
  Lib.run_unsafeSliceData_row _ _ _ _ _ _ (by omega)
 have hUS:(Builtin.unsafeString_ #[279,3] 9 #[.pointer (some ⟨g,0,none⟩),.int .i64 l.length]).run Tryz.prog w.drew=.ok (.string ⟨l.toArray⟩) (w.drew.freeze ⟨g,0,none⟩ l.length):=by
  refine Lib.run_unsafeString_row w.drew 279 3 9 5 Tryz.underlying279 (by kernel_rfl) g cur.size (by have Dr:w.drew.heap[g]?=some (.cells cur 5 (0,0)):=hg;simp[World.shape?,Dr]) l h0 (by omega) (by unfold maxLen at hcm;omega) ?_;intro j x hx;have:=hown.cells (g:=g) rfl j (.int .u8 x.toNat) (by simp[Lib.byteCells,hx]);exact this
 go_enter Tryz.func161,Tryz.ntmps161;go_wp2
 go_region
 all_goals (go_wp2;go_ret;exact⟨rfl,Lib.below_freeze (Below.drew (Below.refl B w)) (p:=⟨g,0,none⟩) hbg _⟩)
theorem Ao {v:Int}(h1:v≤9223372036854775807):(letter v).length≤30:=by
 unfold letter
 split
 ·simp
 ·rw[aiW]
  split
  ·simp
  ·have:=pU (show v.toNat / 26≤9223372036854775807 by omega);omega
theorem IG {v:Int}(h0 : -9223372036854775808≤v) (h1:v≤9223372036854775807):(iF v).length≤30:=by
 unfold iF
 split
 ·exact Ao h1
 ·have:=pU (show(-1 - v).toNat≤9223372036854775807 by omega);rw[aiW];omega
theorem Mr (v:Int):iF v≠[]:=by
 unfold iF
 split
 ·unfold letter;rw[if_neg (by omega)];simp
 ·simp
theorem Ms {v:Int}(h:0≤v):iF v=letter v:=by unfold iF;rw[if_pos h]
theorem II {v:Int}(h:v<0):iF v=[63]++cj (-1 - v).toNat:=by unfold iF;rw[if_neg (by omega)];rfl
def wj (v:Int):Ty:=.mk [] v none 0 []
theorem Mt (w:World) (v:Int):aH w (wj v):=aH.of (aiH _) (by omega) (by decide) (ak.nil _ _ _) (by simp)
theorem uA (v:Int):(wj v).size=1:=by rw[Ty.size_eq];rfl
theorem Aq (v:Int):ax (wj v)=true:=by
 have h1:=uA v;have h2:(wj v).depth=1:=by rw[Ty.aT];rfl
 have h3:bK (wj v)=true:=by unfold bK;rw[gR];rfl
 unfold ax;rw[h1,h2,h3];rfl
set_option maxRecDepth 10000
set_option maxHeartbeats 8000000
theorem Qs (v:Int) (n:Nat) (h0 : -9223372036854775808≤v) (h1:v≤9223372036854775807) (w:World):Calls Tryz.prog 206 #[.agg #[.string ⟨#[]⟩,.int .i64 v,.int .i64 n]] w fun e w'=>e=.returned (encStr (iF v))∧Ext w w':=by
 have X0:aiE (Ext w (w.alloc (.cells #[.string ⟨#[]⟩,.int .i64 v,.int .i64 n] 246))):=aa ((eR w).alloc _);obtain⟨c0,c1,c2⟩:=SP (w.alloc (.cells #[encStr [],.int .i64 v,.int .i64 n] 246)) w.heap.size [] v n (ah _ _ _ rfl);unfold encStr at c0
 by_cases hv:0≤v
 ·have hv':decide (v≥0)=true:=decide_eq_true hv;have HN:=aa (fun w'=>IC v h1 w');rw[Ms hv];generalize letter v=s at *;go_enter Tryz.func206,Tryz.ntmps206;go_wp2_with fail;refine(HN.o _).mono ?_;rintro e w2 ⟨rfl,hx⟩;go_wp2;go_ret;exact⟨rfl,X0.o.trans hx⟩
 ·have hv':decide (v≥0)=false:=decide_eq_false hv;obtain⟨m,hm⟩:∃m:Nat,-1 - v=m:=⟨(-1 - v).toNat,by omega⟩;have HT:=aa (fun w'=>qy m (by omega) w');have NN:=aa (pU (show m≤9223372036854775807 by omega));have e1:(-1 - v).toNat=m:=by omega
  rw[II (by omega),e1];generalize cj m=s at *;go_enter Tryz.func206,Tryz.ntmps206;go_wp2_with fail;refine(HT.o _).mono ?_;rintro e w2 ⟨rfl,hx⟩;have hsz:¬((⟨#[63]⟩:ByteArray).size+(⟨s.toArray⟩:ByteArray).size>9223372036854775807):=by have:=NN.o;rw[aB s];show ¬(1+s.length>_);omega
  go_wp2;go_ret;refine⟨?_,X0.o.trans hx⟩;exact congrArg (fun b=>Ending.returned (Value.string b)) (ByteArray.mk_append_mk [63] s)
theorem Mu (v:Int) (h0 : -9223372036854775808≤v) (h1:v≤9223372036854775807) (w:World):Calls Tryz.prog 169 #[.agg #[.string ⟨#[]⟩,.int .i64 v,.slice none 0 0]] w fun e w'=>e=.returned (encStr (iF v))∧Ext w w':=by
 obtain⟨W,hW⟩:∃W,W=(w.alloc (.cells #[.string ⟨#[]⟩,.int .i64 v,.slice none 0 0] 53)).alloc (.cells #[.pointer none,.slice none 0 0] 237):=⟨_,rfl⟩;have X0:aiE (Ext w W):=aa (by rw[hW];exact((eR w).alloc _).alloc _);have hsz:W.heap.size=w.heap.size+2:=by rw[hW];simp
 have XB:aiE (W.heap[w.heap.size]?=some (.cells #[.string ⟨#[]⟩,.int .i64 v,.slice none 0 0] 53 (0,0))):=aa (by rw[hW];exact((eR _).alloc _).heap (by simp)|>.trans (ah _ _ _ rfl));have BB:aiE (W.heap[w.heap.size+1]?=some (.cells #[.pointer none,.slice none 0 0] 237 (0,0))):=aa (by rw[hW];exact ah _ _ _ (by simp));have HO:=aa (fun w'=>Lm (wj v) w');have HN:=aa (fun w'=>Qs v 0 h0 h1 w');unfold tK wj bl at HO;simp only[Ty.aq,Ty.var,Ty.A,Ty.cap,Ty.args,List.length_nil,encStr] at HO;have HL:=aa (IG h0 h1);have HE:=aa (Mr v);generalize iF v=s at *;have b0:(w.alloc (.cells #[.string ⟨#[]⟩,.int .i64 v,.slice none 0 0] 53)).cell? ⟨w.heap.size,0,none⟩=some (.string ⟨#[]⟩):=ag (ah _ _ _ rfl) 0;have c0:=ag XB.o 0;have c1:=ag XB.o 1;have c2:=ag XB.o 2;simp only[aiN,aiO,aiP] at c0 c1 c2;go_enter Tryz.func169,Tryz.ntmps169;go_wp2_with fail;rw[←hW];clear b0 hW;refine(HO.o _).mono ?_;rintro e w2 ⟨rfl,hx2⟩;have X2:=aa hx2;clear hx2;go_wp2_with fail;refine(HN.o _).mono ?_;rintro e w3 ⟨rfl,hx3⟩;have X3:=aa (X2.o.trans hx3);have IB:Lib.IsBuilder 237 5 (w.heap.size+1) (w.heap.size+1) [] w3:=.inl ⟨aiG _,_,(X3.o.heap (by omega)).trans BB.o,World.ownsRow_nil _ _ _ _,fun e=>by cases e⟩;have hs3:=X3.o.size;have HW:=aa (Mq (w.heap.size+1) (w.heap.size+1) [] ⟨s.toArray⟩ w3 IB (by have:=HL.o;rw[aB];show 0+s.length≤_;omega) (by omega));clear IB hx3;go_wp2_with fail;refine HW.o.mono ?_;rintro e w4 ⟨rfl,hb4,eJ⟩;rw[List.nil_append,Lib.strCells_eq] at hb4;have XB4:aiE (w4.heap[w.heap.size]?=some (.cells #[.string ⟨#[]⟩,.int .i64 v,.slice none 0 0] 53 (0,0))):=aa ((eJ.block _ (by omega)).trans ((X3.o.heap (by omega)).trans XB.o));have HS:=aa (IE (w.heap.size+1) (w.heap.size+1) s w4 (.inr hb4) HE.o);have X4:aiE (Below w.heap.size w w4):=aa ((X0.o.trans X3.o).below.trans (eJ.mono (by omega)));clear hb4 eJ c0 c1 c2;have c2:=ag XB4.o 2;simp only[aiN,aiO,aiP] at c2;go_wp2
 go_loopw [34] (fun i wr=>i=.int .i64 0∧wr=w4) (fun _ _=>0)
 case atStart=>exact⟨rfl,rfl⟩
 case round=>
  obtain⟨rfl,rfl⟩:=hrel;go_wp2_with fail;refine HS.o.mono ?_;rintro e w5 ⟨rfl,jA⟩;go_wp2;go_ret;exact⟨rfl,Ext.cw (X4.o.trans (jA.mono (by omega))) (aiG _)⟩
theorem Mv (v:Int) (h0 : -9223372036854775808≤v) (h1:v≤9223372036854775807) (w:World):Calls Tryz.prog 121 #[.agg #[.string ⟨#[]⟩,.int .i64 v,.slice none 0 0]] w fun e w'=>e=.returned (encStr (iF v))∧Ext w w':=by
 have X0:aiE (Ext w (w.alloc (.cells #[.string ⟨#[]⟩,.int .i64 v,.slice none 0 0] 53))):=aa ((eR w).alloc _);have HB:aiE (∀w',Ext (w.alloc (.cells #[.string ⟨#[]⟩,.int .i64 v,.slice none 0 0] 53)) w'→w'.cell? ⟨w.heap.size,0,none⟩=some (.string ⟨#[]⟩)∧w'.cell? ⟨w.heap.size,1,none⟩=some (.int .i64 v)∧w'.cell? ⟨w.heap.size,2,none⟩=some (.slice none 0 0)):=aa (fun w' e=>⟨e.cell (ag (ah _ _ _ rfl) 0),e.cell (ag (ah _ _ _ rfl) 1),e.cell (ag (ah _ _ _ rfl) 2)⟩);obtain⟨c0,c1,c2⟩:=HB.o _ (eR _);have HL:=aa (fun w'=>nd (wj v) w' (Mt w' v) (by rw[uA];omega));have HT:=aa (fun w'=>Mu v h0 h1 w');rw[Aq] at HL;unfold wj bl at HL;simp only[Ty.aq,Ty.var,Ty.A,Ty.cap,Ty.args,List.length_nil,encStr] at HL;go_enter Tryz.func121,Tryz.ntmps121;go_wp2_with fail;refine(HL.o _).mono ?_;rintro e w2 ⟨rfl,hx2⟩;have X2:=aa hx2;obtain⟨d0,d1,d2⟩:=HB.o _ X2.o;clear hx2 c0 c1 c2;go_wp2_with fail;refine(HT.o _).mono ?_;rintro e w3 ⟨rfl,hx3⟩;go_wp2;go_ret;exact⟨rfl,X0.o.trans (X2.o.trans hx3)⟩
set_option maxRecDepth 512
set_option maxHeartbeats 200000
noncomputable def nK : Ty→Bool:=Ty.qg fun t=>decide (-9223372036854775808≤t.var∧t.var≤9223372036854775807∧t.aq.length≤140737488351232)
theorem rj (t:Ty):nK t=(decide (-9223372036854775808≤t.var∧t.var≤9223372036854775807∧t.aq.length≤140737488351232)&&t.args.all nK):=gR _ t
theorem IJ {s:aj}{v:Int}{A:Option Addr}{c:Nat}{l:List Ty}(h1 : -9223372036854775808≤v) (h2:v≤9223372036854775807) (h3:s.length≤140737488351232) (h:∀k∈l,nK k=true):nK (.mk s v A c l)=true:=by
 rw[rj,aiT];exact⟨decide_eq_true ⟨h1,h2,h3⟩,List.all_eq_true.2 h⟩
theorem IK {t:Ty}(h:nK t=true) : -9223372036854775808≤t.var:=by
 rw[rj,aiT] at h;exact(of_decide_eq_true h.1).1
theorem IL {t:Ty}(h:nK t=true):t.var≤9223372036854775807:=by
 rw[rj,aiT] at h;exact(of_decide_eq_true h.1).2.1
theorem Mw {t:Ty}(h:nK t=true):t.aq.length≤140737488351232:=by
 rw[rj,aiT] at h;exact(of_decide_eq_true h.1).2.2
theorem k9 {t:Ty}(h:nK t=true){k:Ty}(hk:k∈t.args):nK k=true:=by
 rw[rj,aiT] at h;exact List.all_eq_true.1 h.2 k hk
def dW (t:Ty):aj:=if t.aq=[] then iF t.var else t.aq
theorem x8 {n:Nat}(h:n≤9223372036854775807):(cj n).length≤20:=iY 19 n (Nat.lt_of_le_of_lt h (by decide))
theorem Ar {v:Int}(h0 : -9223372036854775808≤v) (h1:v≤9223372036854775807):(iF v).length≤30:=by
 unfold iF
 split
 ·unfold letter
  split
  ·simp
  ·rw[aiW]
   split
   ·simp
   ·have:=x8 (show v.toNat / 26≤9223372036854775807 by omega);omega
 ·have:=x8 (show(-1 - v).toNat≤9223372036854775807 by omega);rw[aiW];omega
theorem uB {t:Ty}(h:nK t=true):(dW t).length≤140737488351232:=by
 unfold dW
 split
 ·exact aiM (Ar (IK h) (IL h)) (by decide)
 ·exact Mw h
theorem uC (b:Bool) (s:aj):(im b s).length≤s.length+2:=by
 unfold im
 split
 ·simp
 ·omega
theorem uD (l:List Ty) (h:∀k∈l,(cq k).length+3≤140737488351272*k.size):(cO l).length≤140737488351272*(l.map Ty.size).sum:=by
 unfold cO
 induction l with
 |nil=>simp
 |cons k l ih=>
  have h1:=h k (List.mem_cons_self);have h2:=ih (fun x hx=>h x (List.mem_cons_of_mem _ hx));have h3:=uC (decide (0<k.args.length)) (cq k);rw[List.map_cons,List.flatten_cons,aiL,aiL,List.map_cons,List.sum_cons,Nat.mul_add];simp only[aiW,List.length_nil];omega
theorem uF (t:Ty):nK t=true→(cq t).length+3≤140737488351272*t.size:=by
 induction t using Ty.ind with
 |h t ih=>
 intro ok;have hk:∀k∈t.args,(cq k).length+3≤140737488351272*k.size:=fun k hk=>ih k hk (k9 ok hk)
 by_cases h:t.aq=[45,62]∧t.args.length=2
 ·obtain⟨hc,hl⟩:=h;rw[tJ hc (by omega) (by omega) hl,Ty.size_eq];obtain⟨a,b,hab⟩:∃a b,t.args=[a,b]:=by
   match t.args,hl with
   | [a,b],_=>exact⟨a,b,rfl⟩
  simp only[hab,List.getElem_cons_zero,List.getElem_cons_succ] at hk ⊢;have h1:=hk a (by simp);have h2:=hk b (by simp);have h3:=uC (decide (a.aq=[45,62])) (cq a);simp only[aiL,aiW,List.length_nil,List.map_cons,List.map_nil,List.sum_cons,List.sum_nil];omega
 ·rw[mh h,Ty.size_eq,aiL];have h1:=uD t.args hk;have h2:=uB ok;unfold dW at h2;omega
theorem oD {t:Ty}(h:nK t=true) (hs:t.size≤20000):(cq t).length≤3000000000000000000:=by
 have:=uF t h;omega
theorem Ef {t:Ty}(h:nK t=true) (hs:t.size≤20000) (k:Nat):(dW t++cO (t.args.take k)).length≤3000000000000000000:=by
 have h1:=uD (t.args.take k) (fun x hx=>uF x (k9 h (List.mem_of_mem_take hx)));have h2:=uB h;have h3:((t.args.take k).map Ty.size).sum≤(t.args.map Ty.size).sum:=by
  have e:(t.args.map Ty.size).sum=((t.args.take k).map Ty.size).sum+((t.args.drop k).map Ty.size).sum:=by
   rw[←List.sum_append_nat,←aiX,List.take_append_drop]
  omega
 have h4:=Ty.size_eq t;rw[aiL];omega
set_option maxRecDepth 10000
set_option maxHeartbeats 8000000
theorem Qt (t:Ty) (w:World) (ok:nK t=true):Calls Tryz.prog 74 #[bl t] w fun e w'=>e=.returned (encStr (dW t))∧Ext w w':=by
 have HB:=aa (aU.new w t);have X0:aiE (Ext w (w.alloc (.cells #[encStr t.aq,.int .i64 t.var,.slice t.A t.args.length t.cap] 53))):=aa ((eR w).alloc _);have c0:=HB.o.c0;have c1:=HB.o.c1;have HT:=aa (fun w'=>Mv t.var (IK ok) (IL ok) w');have HH:aiE (dW t=if t.aq=[] then iF t.var else t.aq):=aa rfl;clear ok;generalize dW t=R at *;unfold bl at *;cases hc:(t.aq == [])
 ·have hc2:(t.aq != [])=true:=by unfold bne;rw[hc];rfl
  have hR:R=t.aq:=by rw[HH.o,if_neg (by simpa using hc)]
  clear HH;subst hR;go_enter Tryz.func74,Tryz.ntmps74;go_wp2;go_ret;exact⟨rfl,X0.o⟩
 ·have hc2:(t.aq != [])=false:=by unfold bne;rw[hc];rfl
  have hR:R=iF t.var:=by rw[HH.o,if_pos (by simpa using hc)]
  clear HH;subst hR;generalize iF t.var=R at *;go_enter Tryz.func74,Tryz.ntmps74;go_wp2_with fail;refine(HT.o _).mono ?_;rintro e w2 ⟨rfl,hx⟩;go_wp2;go_ret;exact⟨rfl,X0.o.trans hx⟩
theorem Au (t:Ty) (hl:(cq t).length≤3000000000000000000) (HT0:∀w,aH w t→Calls Tryz.prog 45 #[bl t] w fun e w'=>e=.returned (encStr (cq t))∧Ext w w') (b:Bool) (w:World) (h:aH w t) :
  Calls Tryz.prog 73 #[bl t,.bool b] w fun e w'=>e=.returned (encStr (im b (cq t)))∧Ext w w':=by
 have X0:aiE (Ext w (w.alloc (.cells #[encStr t.aq,.int .i64 t.var,.slice t.A t.args.length t.cap] 53))):=aa ((eR w).alloc _);have HT:=aa (HT0 _ (h.ext X0.o));have HL:=aa hl;clear HT0 h hl;unfold bl at *;generalize cq t=s at *;cases b
 ·go_enter Tryz.func73,Tryz.ntmps73;go_wp2_with fail;refine HT.o.mono ?_;rintro e w2 ⟨rfl,hx⟩;go_wp2;go_ret;exact⟨rfl,X0.o.trans hx⟩
 ·have h1:¬((⟨#[40]⟩:ByteArray).size+(⟨s.toArray⟩:ByteArray).size>9223372036854775807):=by have:=HL.o;rw[aB s];show ¬(1+s.length>_);omega
  have e1:(ByteArray.mk #[40]++ByteArray.mk s.toArray)=ByteArray.mk ([40]++s:aj).toArray:=ByteArray.mk_append_mk [40] s;have h2:¬((⟨([40]++s:aj).toArray⟩:ByteArray).size+(⟨#[41]⟩:ByteArray).size>9223372036854775807):=by
   have:=HL.o;rw[aB ([40]++s)];show ¬(([40]++s).length+1>_);rw[aiL];simp only[aiW,List.length_nil];omega
  have e2:(ByteArray.mk ([40]++s:aj).toArray++ByteArray.mk #[41])=ByteArray.mk ([40]++s++[41]:aj).toArray:=ByteArray.mk_append_mk ([40]++s) [41];have hb:im true s=[40]++s++[41]:=rfl;rw[hb];generalize ([40]++s++[41]:aj)=s2 at *;generalize ([40]++s:aj)=s1 at *;go_enter Tryz.func73,Tryz.ntmps73;go_wp2_with fail;refine HT.o.mono ?_;rintro e w2 ⟨rfl,hx⟩;go_wp2;go_ret;exact⟨rfl,X0.o.trans hx⟩
theorem Qu (t:Ty):∀(w:World),aH w t→nK t=true→t.size≤20000 →
  Calls Tryz.prog 45 #[bl t] w fun e w'=>e=.returned (encStr (cq t))∧Ext w w':=by
 induction t using Ty.ind with
 |h t ih=>
 intro w h ok hsz;have IH:=aa ih;have Hk:=aa h.all;have hle:=h.le;have hmx:=h.max;have fI:=aa (aU.new w t);have X0:aiE (Ext w (w.alloc (.cells #[encStr t.aq,.int .i64 t.var,.slice t.A t.args.length t.cap] 53))):=aa ((eR w).alloc _);have ub:=aa (fun(k:Ty) (hk:k∈t.args) (b:Bool) (w':World) (e:Ext w w')=>aa (Au k (oD (k9 ok hk) (by have:=Ty.bo hk;omega)) (fun v hv=>ih k hk v hv (k9 ok hk) (by have:=Ty.bo hk;omega)) b w' ((h.all.args k hk).ext e)));have Zx:=aa (fun(k:Ty) (hk:k∈t.args) (w':World) (e:Ext w w')=>aa (ih k hk w' ((h.all.args k hk).ext e) (k9 ok hk) (by have:=Ty.bo hk;omega)));have Ss:=aa (fun w'=>aa (Qt t w' ok));have Zy:=aa (fun k=>Ef ok hsz k);have HL:=aa (oD ok hsz);have c0:=fI.o.c0;have c1:=fI.o.c1;have c2:=fI.o.c2
 by_cases hf:t.aq=[45,62]∧t.args.length=2
 ·obtain⟨Mx,hf2⟩:=hf;have h0:0<t.args.length:=by omega
  have h1:1<t.args.length:=by omega
  have HE:=aa (tJ Mx h0 h1 hf2);have g1:(t.aq == [45,62])=true:=by rw[Mx];rfl
  have g2:((t.args.length:Int) == 2)=true:=by rw[hf2];rfl
  have i0:(0:Int)<(t.args.length:Int):=by omega
  have i1:(1:Int)<(t.args.length:Int):=by omega
  obtain⟨b,o,hA,hb,q0,q1,q2⟩:=(Hk.o.ext X0.o).at_ h0;obtain⟨b',o',hA',hb',r0,r1,r2⟩:=(Hk.o.ext X0.o).at_ h1;have Zz:(⟨b',o',none⟩:Addr)=⟨b,o,none⟩:=Option.some.inj (hA'.symm.trans hA);cases Zz;clear hA' hb';have HA:=aa (ub.o _ (aiF h0) (decide ((t.args[0]'h0).aq=[45,62])));have gS:=aa (Zx.o _ (aiF h1));have LA:=aa (oD (k9 ok (aiF h0)) (by have:=Ty.bo (aiF h0);omega));have LT:aiE ((im (decide ((t.args[0]'h0).aq=[45,62])) (cq (t.args[0]'h0))++([32,45,62,32]:aj)++cq (t.args[1]'h1)).length≤3000000000000000000):=aa (by rw[←HE.o];exact HL.o);rw[HE.o];clear HE ub Zx Ss Zy HL LA ih ok hsz IH Hk;clear h;have hdec:decide ((t.args[0]'h0).aq=[45,62])=((t.args[0]'h0).aq == [45,62]):=by rw[Bool.eq_iff_iff];simp
  rw[hdec] at HA LT ⊢;clear hdec;obtain⟨bb,xc⟩:∃bb,bb=((t.args[0]'h0).aq == [45,62]):=⟨_,rfl⟩;rw[←xc] at HA LT ⊢;unfold bl at HA gS ⊢;rw[hA] at c2 ⊢;generalize cq (t.args[0]'h0)=ta at *;generalize cq (t.args[1]'h1)=tb at *;generalize t.args[0]'h0=ka at *;generalize t.args[1]'h1=kb at *;generalize im bb ta=sa at *;have hs1:¬((⟨sa.toArray⟩:ByteArray).size+(⟨#[32,45,62,32]⟩:ByteArray).size>9223372036854775807):=by
   have:=LT.o;rw[aB sa];show ¬(sa.length+4>_);simp only[aiL,aiW,List.length_nil] at this;omega
  have e1:(ByteArray.mk sa.toArray++ByteArray.mk #[32,45,62,32])=ByteArray.mk (sa++([32,45,62,32]:aj):aj).toArray:=ByteArray.mk_append_mk sa ([32,45,62,32]:aj);have hs2:¬((⟨(sa++([32,45,62,32]:aj):aj).toArray⟩:ByteArray).size+(⟨tb.toArray⟩:ByteArray).size>9223372036854775807):=by
   have:=LT.o;rw[aB (sa++([32,45,62,32]:aj)),aB tb];simp only[aiL,aiW,List.length_nil] at this ⊢;omega
  have e2:(ByteArray.mk (sa++([32,45,62,32]:aj):aj).toArray++ByteArray.mk tb.toArray)=ByteArray.mk (sa++([32,45,62,32]:aj)++tb:aj).toArray:=ByteArray.mk_append_mk (sa++([32,45,62,32]:aj)) tb;have R8:¬(9223372036854775807<sa.length+4):=by rw[aB sa] at hs1;exact hs1
  have Lb:¬(9223372036854775807<(sa++([32,45,62,32]:aj)).length+tb.length):=by rw[aB (sa++([32,45,62,32]:aj)),aB tb] at hs2;exact hs2
  clear LT;generalize (sa++([32,45,62,32]:aj)++tb:aj)=s2 at *;generalize (sa++([32,45,62,32]:aj):aj)=s1 at *;clear fI;have HS:aiE (∀w',Ext (w.alloc (.cells #[encStr t.aq,.int .i64 t.var,.slice (some ⟨b,o,none⟩) t.args.length t.cap] 53)) w'→(w'.cell? ⟨w.heap.size,2,none⟩=some (.slice (some ⟨b,o,none⟩) t.args.length t.cap)∧w'.cell? ⟨b,o,none⟩=some (.string ⟨ka.aq.toArray⟩)∧w'.cell? ⟨b,o+1,none⟩=some (.int .i64 ka.var)∧w'.cell? ⟨b,o+2,none⟩=some (.slice ka.A ka.args.length ka.cap)∧w'.cell? ⟨b,o+3,none⟩=some (.string ⟨kb.aq.toArray⟩)∧w'.cell? ⟨b,o+3+1,none⟩=some (.int .i64 kb.var)∧w'.cell? ⟨b,o+3+2,none⟩=some (.slice kb.A kb.args.length kb.cap))):=aa (by
   rw[hA] at q0 q1 q2 r0 r1 r2;exact fun w' e=>⟨e.cell c2,e.cell q0,e.cell q1,e.cell q2,e.cell r0,e.cell r1,e.cell r2⟩)
  rw[hA] at c0 c1 X0;clear q0 q1 q2 r0 r1 r2 c1 hb h1 hle hmx Mx hA g2 i0 i1 h0;generalize t.args.length=n at *;subst hf2;go_enter Tryz.func45,Tryz.ntmps45;go_wp2;generalize (w.alloc (.cells #[encStr t.aq,.int .i64 t.var,.slice (some ⟨b,o,none⟩) 2 t.cap] 53))=w0 at *;obtain⟨p0,p1,p2,p3,p4,p5,p6⟩:=HS.o _ (eR w0);clear c0 c2
  go_region_held3 (fun w':World=>(w'.cell? ⟨w.heap.size,2,none⟩=some (.slice (some ⟨b,o,none⟩) 2 t.cap)∧w'.cell? ⟨b,o,none⟩=some (.string ⟨ka.aq.toArray⟩)∧w'.cell? ⟨b,o+1,none⟩=some (.int .i64 ka.var)∧w'.cell? ⟨b,o+2,none⟩=some (.slice ka.A ka.args.length ka.cap)∧w'.cell? ⟨b,o+3,none⟩=some (.string ⟨kb.aq.toArray⟩)∧w'.cell? ⟨b,o+3+1,none⟩=some (.int .i64 kb.var)∧w'.cell? ⟨b,o+3+2,none⟩=some (.slice kb.A kb.args.length kb.cap))) (first|assumption|(exact HS.o _ (eR w0).drew)) (first
   |(
    go_at_call 73
    rw[←xc];refine Calls.mono (HA.o _ ?e).o ?_
    case e=>first|(refine Ext.trans X0.o ?_;(repeat(first|exact eR _|exact eA (by assumption) _|refine eA ?_ _|refine eM ?_ _ _|refine eD ?_|refine eN ?_ _));done)|(refine Ext.trans (X0.o.trans X8.o) ?_;(repeat(first|exact eR _|exact eA (by assumption) _|refine eA ?_ _|refine eM ?_ _ _|refine eD ?_|refine eN ?_ _));done)
    rintro e w7 ⟨rfl,uG⟩;have X7:aiE (Ext w0 w7):=aa (by
     refine Ext.trans ?_ uG
     first|(refine Ext.trans (eR w0) ?_;(repeat(first|exact eR _|exact eA (by assumption) _|refine eA ?_ _|refine eM ?_ _ _|refine eD ?_|refine eN ?_ _));done)|(refine Ext.trans X8.o ?_;(repeat(first|exact eR _|exact eA (by assumption) _|refine eA ?_ _|refine eM ?_ _ _|refine eD ?_|refine eN ?_ _));done))
    have K7:=HS.o _ X7.o;clear uG)
   |(
    go_at_call 45
    refine Calls.mono (gS.o _ ?e).o ?_
    case e=>first|(refine Ext.trans X0.o ?_;(repeat(first|exact eR _|exact eA (by assumption) _|refine eA ?_ _|refine eM ?_ _ _|refine eD ?_|refine eN ?_ _));done)|(refine Ext.trans (X0.o.trans X7.o) ?_;(repeat(first|exact eR _|exact eA (by assumption) _|refine eA ?_ _|refine eM ?_ _ _|refine eD ?_|refine eN ?_ _));done)
    rintro e w8 ⟨rfl,rk⟩;have X8:aiE (Ext w0 w8):=aa (by
     refine Ext.trans ?_ rk
     first|(refine Ext.trans (eR w0) ?_;(repeat(first|exact eR _|exact eA (by assumption) _|refine eA ?_ _|refine eM ?_ _ _|refine eD ?_|refine eN ?_ _));done)|(refine Ext.trans X7.o ?_;(repeat(first|exact eR _|exact eA (by assumption) _|refine eA ?_ _|refine eM ?_ _ _|refine eD ?_|refine eN ?_ _));done))
    have K8:=HS.o _ X8.o;clear rk))
  all_goals
   go_wp2;go_ret
   first
    |exact⟨rfl,X0.o.trans X7.o⟩
    |exact⟨rfl,X0.o.trans X8.o⟩
    |exact⟨rfl,X0.o.trans (X7.o.trans (by repeat(first|exact eR _|exact eA (by assumption) _|refine eA ?_ _|refine eM ?_ _ _|refine eD ?_|refine eN ?_ _)))⟩
    |exact⟨rfl,X0.o.trans (X8.o.trans (by repeat(first|exact eR _|exact eA (by assumption) _|refine eA ?_ _|refine eM ?_ _ _|refine eD ?_|refine eN ?_ _)))⟩
 ·have HE:=aa (mh hf);have zg:aiE (cq t=dW t++cO t.args):=aa HE.o;rw[zg.o];clear HE zg Zx HL ih ok hsz IH;have x9:=aa h.all;clear h;have h3:(t.aq == [45,62])=false∨((t.aq == [45,62])=true∧((t.args.length:Int) == 2)=false):=by
   cases g:(t.aq == [45,62])
   ·exact .inl rfl
   ·refine .inr ⟨rfl,?_⟩;have g1:t.aq=[45,62]:=by simpa using g
    rw[←Bool.not_eq_true];intro g2;exact hf ⟨g1,by have:=eq_of_beq g2;omega⟩
  clear hf;unfold bl at Ss ⊢
  rcases h3 with h3|⟨h3,h4⟩
  ·go_enter Tryz.func45,Tryz.ntmps45;go_wp2_with fail;refine(Ss.o _).o.mono ?_;rintro e w1 ⟨rfl,hx1⟩;have X1:=aa (X0.o.trans hx1);have c2':=(fI.o.ext hx1).c2;clear hx1 c0 c1 c2 Ss;go_wp2
   go_loopw [3,38] (fun s i wr=>∃k:Nat,k≤t.args.length∧i=.int .i64 k∧s=encStr (dW t++cO (t.args.take k))∧aiE (Ext w1 wr)) (fun _ i _=>t.args.length - (intOf i).toNat)
   case atStart=>exact⟨0,aiH _,rfl,by simp[cO],aa (eR _)⟩
   case round=>
    obtain⟨k,hk,rfl,rfl,HX⟩:=hrel
    by_cases hlt:k<t.args.length
    ·have aN:(k:Int)<(t.args.length:Int):=by omega
     have cV:(0:Int)≤(k:Int):=by omega
     obtain⟨b,o,hA,hb,q0,q1,q2⟩:=(x9.o.ext (X1.o.trans HX.o)).at_ hlt;have hcm:=aiF hlt;have HC:=aa (ub.o _ hcm (decide (0<(t.args[k]'hlt).args.length)) (wr.alloc (.cells #[encStr (t.args[k]'hlt).aq,.int .i64 (t.args[k]'hlt).var,.slice (t.args[k]'hlt).A (t.args[k]'hlt).args.length (t.args[k]'hlt).cap] 53)) ((X1.o.trans HX.o).alloc _));have wk:dW t++cO (t.args.take (k+1))=(dW t++cO (t.args.take k))++(([32]:aj)++im (decide (0<(t.args[k]'hlt).args.length)) (cq (t.args[k]'hlt))):=by rw[qp _ hlt,List.append_assoc]
     have hlen:=Zy.o (k+1);rw[wk] at hlen;rw[hA];clear hA hcm;generalize t.args[k]'hlt=c at *;obtain⟨bb,xc⟩:∃bb,bb=decide (0<c.args.length):=⟨_,rfl⟩;have hd:decide (0<c.args.length)=bb:=xc.symm;rw[←xc] at HC wk hlen;clear xc;unfold bl at HC;generalize im bb (cq c)=sc at *;have HR:aiE (encStr (dW t++cO (t.args.take k)++(([32]:aj)++sc))=encStr (dW t++cO (t.args.take (k+1)))):=aa (by rw[wk]);clear wk
     generalize dW t++cO (t.args.take k)=S0 at *;have BM:=aa hlen;have hs1:¬((⟨#[32]⟩:ByteArray).size+(⟨sc.toArray⟩:ByteArray).size>9223372036854775807):=by
      rw[aiL,aiL] at hlen;rw[aB sc];show ¬(1+sc.length>_);omega
     have e1:(ByteArray.mk #[32]++ByteArray.mk sc.toArray)=ByteArray.mk (([32]:aj)++sc).toArray:=ByteArray.mk_append_mk [32] sc;have hs2:¬((⟨S0.toArray⟩:ByteArray).size+(⟨(([32]:aj)++sc).toArray⟩:ByteArray).size>9223372036854775807):=by
      rw[aiL] at hlen;rw[aB S0,aB (([32]:aj)++sc)];omega
     have e2:(ByteArray.mk S0.toArray++ByteArray.mk (([32]:aj)++sc).toArray)=ByteArray.mk (S0++(([32]:aj)++sc)).toArray:=ByteArray.mk_append_mk S0 (([32]:aj)++sc);clear hlen BM;generalize S0++(([32]:aj)++sc)=S2 at *;generalize ([32]:aj)++sc=S1 at *;go_wp2_with fail;refine HC.o.o.mono ?_;rintro e w3 ⟨rfl,hx3⟩;have X3:aiE (Ext w1 w3):=aa ((HX.o.alloc _).trans hx3);clear hx3;go_wp2;go_roundw
     case rel=>exact⟨k+1,hlt,by go_num,HR.o,X3⟩
     case measure=>simp[intOf];omega
    ·have bS:¬(k:Int)<(t.args.length:Int):=by omega
     have HR:aiE (dW t++cO (t.args.take k)=dW t++cO t.args):=aa (by rw[aiK (by omega)]);rw[HR.o];go_wp2;go_ret;exact⟨rfl,X1.o.trans HX.o⟩
  ·go_enter Tryz.func45,Tryz.ntmps45;go_wp2_with fail;refine(Ss.o _).o.mono ?_;rintro e w1 ⟨rfl,hx1⟩;have X1:=aa (X0.o.trans hx1);have c2':=(fI.o.ext hx1).c2;clear hx1 c0 c1 c2 Ss;go_wp2
   go_loopw [3,38] (fun s i wr=>∃k:Nat,k≤t.args.length∧i=.int .i64 k∧s=encStr (dW t++cO (t.args.take k))∧aiE (Ext w1 wr)) (fun _ i _=>t.args.length - (intOf i).toNat)
   case atStart=>exact⟨0,aiH _,rfl,by simp[cO],aa (eR _)⟩
   case round=>
    obtain⟨k,hk,rfl,rfl,HX⟩:=hrel
    by_cases hlt:k<t.args.length
    ·have aN:(k:Int)<(t.args.length:Int):=by omega
     have cV:(0:Int)≤(k:Int):=by omega
     obtain⟨b,o,hA,hb,q0,q1,q2⟩:=(x9.o.ext (X1.o.trans HX.o)).at_ hlt;have hcm:=aiF hlt;have HC:=aa (ub.o _ hcm (decide (0<(t.args[k]'hlt).args.length)) (wr.alloc (.cells #[encStr (t.args[k]'hlt).aq,.int .i64 (t.args[k]'hlt).var,.slice (t.args[k]'hlt).A (t.args[k]'hlt).args.length (t.args[k]'hlt).cap] 53)) ((X1.o.trans HX.o).alloc _));have wk:dW t++cO (t.args.take (k+1))=(dW t++cO (t.args.take k))++(([32]:aj)++im (decide (0<(t.args[k]'hlt).args.length)) (cq (t.args[k]'hlt))):=by rw[qp _ hlt,List.append_assoc]
     have hlen:=Zy.o (k+1);rw[wk] at hlen;rw[hA];clear hA hcm;generalize t.args[k]'hlt=c at *;obtain⟨bb,xc⟩:∃bb,bb=decide (0<c.args.length):=⟨_,rfl⟩;have hd:decide (0<c.args.length)=bb:=xc.symm;rw[←xc] at HC wk hlen;clear xc;unfold bl at HC;generalize im bb (cq c)=sc at *;have HR:aiE (encStr (dW t++cO (t.args.take k)++(([32]:aj)++sc))=encStr (dW t++cO (t.args.take (k+1)))):=aa (by rw[wk]);clear wk
     generalize dW t++cO (t.args.take k)=S0 at *;have BM:=aa hlen;have hs1:¬((⟨#[32]⟩:ByteArray).size+(⟨sc.toArray⟩:ByteArray).size>9223372036854775807):=by
      rw[aiL,aiL] at hlen;rw[aB sc];show ¬(1+sc.length>_);omega
     have e1:(ByteArray.mk #[32]++ByteArray.mk sc.toArray)=ByteArray.mk (([32]:aj)++sc).toArray:=ByteArray.mk_append_mk [32] sc;have hs2:¬((⟨S0.toArray⟩:ByteArray).size+(⟨(([32]:aj)++sc).toArray⟩:ByteArray).size>9223372036854775807):=by
      rw[aiL] at hlen;rw[aB S0,aB (([32]:aj)++sc)];omega
     have e2:(ByteArray.mk S0.toArray++ByteArray.mk (([32]:aj)++sc).toArray)=ByteArray.mk (S0++(([32]:aj)++sc)).toArray:=ByteArray.mk_append_mk S0 (([32]:aj)++sc);clear hlen BM;generalize S0++(([32]:aj)++sc)=S2 at *;generalize ([32]:aj)++sc=S1 at *;go_wp2_with fail;refine HC.o.o.mono ?_;rintro e w3 ⟨rfl,hx3⟩;have X3:aiE (Ext w1 w3):=aa ((HX.o.alloc _).trans hx3);clear hx3;go_wp2;go_roundw
     case rel=>exact⟨k+1,hlt,by go_num,HR.o,X3⟩
     case measure=>simp[intOf];omega
    ·have bS:¬(k:Int)<(t.args.length:Int):=by omega
     have HR:aiE (dW t++cO (t.args.take k)=dW t++cO t.args):=aa (by rw[aiK (by omega)]);rw[HR.o];go_wp2;go_ret;exact⟨rfl,X1.o.trans HX.o⟩
set_option maxRecDepth 512
set_option maxHeartbeats 200000
open Go.Shelf
def ZA (t:Ty):Prop:=∀(w0 w:World) (c:Nat) (L D:Int),aH w0 t→Below w0.heap.size w0 w→w0.heap.size≤c→w.heap[c]?=some (.cells #[.int .i64 L] 134 (0,0)) →
 -1000000≤L→L≤1000000 → -1000000≤D→D≤1000000→t.size≤90000 →
 Calls Tryz.prog 72 #[.pointer (some ⟨c,0,none⟩),bl t,.int .i64 D] w fun e w'=>Tr c w (.bool false) w' (.bool false) ∧
  ((e=.returned (.bool true)∧Dv t L D∧w'.heap[c]?=some (.cells #[.int .i64 (L - t.size)] 134 (0,0)))∨(e=.returned (.bool false)∧¬Dv t L D))
set_option maxRecDepth 10000
set_option maxHeartbeats 8000000
theorem IM (t:Ty):ZA t:=by
 induction t using Ty.ind with
 |h t ih=>
 intro w0 w c L D ht hB hc0 hc Y0 hL hD0 hD hsz;have IH:=aa ih;have hlt:=ae hc;have hcell:w.cell? ⟨c,0,none⟩=some (.int .i64 L):=ag hc 0;have iI:w.frozen? ⟨c,0,none⟩=false:=ai hc 0;have hs1:(w.setCell ⟨c,0,none⟩ (.int .i64 (L - 1))).heap.size=w.heap.size:=by simp[World.setCell]
 obtain⟨W,hW⟩:∃W,W=(w.setCell ⟨c,0,none⟩ (.int .i64 (L - 1))).alloc (.cells #[encStr t.aq,.int .i64 t.var,.slice t.A t.args.length t.cap] 53):=⟨_,rfl⟩;have HC:aiE (W.heap[c]?=some (.cells #[.int .i64 (L - 1)] 134 (0,0))):=aa (by
  have h1:=aw hc 0 (.int .i64 (L - 1));rw[hW];exact(((eR _).alloc _).heap (by rw[hs1];exact hlt)).trans h1)
 have HT:aiE (Tr c w (.bool false) W (.bool false)):=aa (by
  have h1:Tr c w (.bool false) (w.setCell ⟨c,0,none⟩ (.int .i64 (L - 1))) (.bool false):=⟨rfl,rfl,rfl,by rw[hs1];exact aiG _,fun k _ hk _=>Below.heap_setCell _ ⟨c,0,none⟩ _ k hk,.inl rfl⟩;rw[hW];exact h1.trans (Tr.dQ ((eR _).alloc _)))
 have HB:aiE (aU W w.heap.size t):=aa (by
  have:=aU.new (w.setCell ⟨c,0,none⟩ (.int .i64 (L - 1))) t;rw[hs1] at this;rw[hW];exact this)
 have Uo:aiE (Below w0.heap.size w0 W):=aa (hB.trans (HT.o.below hB.size hc0 (fun k e=>by cases e)));have sq:=aa (show W.cell? ⟨c,0,none⟩=some (.int .i64 (L - 1)) from ag HC.o 0);have HW:=aa hW;clear hW;have Ht:=aa ht;have wY:=ht.txt;have hle:=ht.le;have hmx:=ht.max;have hS:=Ty.size_eq t;have Qv:=Ty.aT t;have afi:=t.size_pos;have HF:=aa (fun w' (e:Ext W w')=>aa (LS t w' ((ht.old Uo.o).ext e)));have Qw:=aa (jd t);have ZB:=Ty.fy t;clear ih hc ht hB;unfold bl fB at *
 by_cases hl:L - 1<0
 ·have hno:aiE (¬Dv t L D):=aa (fun h=>by have:=h.1;omega);go_enter Tryz.func72,Tryz.ntmps72;go_upto_region 2 with fail;rw[←HW.o];clear hcell iI;have NS:=sq.o;go_wp2;go_ret;exact⟨HT.o,.inr ⟨rfl,hno.o⟩⟩
 by_cases hd:D<1
 ·have hno:aiE (¬Dv t L D):=aa (fun h=>by have:=h.2.1;omega);go_enter Tryz.func72,Tryz.ntmps72;go_upto_region 2 with fail;rw[←HW.o];clear hcell iI;have NS:=sq.o;go_wp2;go_ret;exact⟨HT.o,.inr ⟨rfl,hno.o⟩⟩
 generalize lL t=au at *;generalize lM t=cu at *;cases Uq:cX t
 ·rw[Uq] at HF Qw;obtain⟨m,Hm⟩:∃m,aiE (m=min t.args.length 4095):=⟨_,aa rfl⟩;have Ur:(if (4095:Int)<(t.args.length:Int) then(4095:Int) else(t.args.length:Int))=(m:Int):=by have:=Hm.o;split<;>omega
  have acn:min (t.args.length:Int) 4095=(m:Int):=by have:=Hm.o;omega
  have jt:=jF m (by have:=Hm.o;omega);go_enter Tryz.func72,Tryz.ntmps72;go_upto_region 2 with fail;rw[←HW.o];clear hcell iI;have NS:=sq.o;have b0:=HB.o.c0;have b1:=HB.o.c1;have b2:=HB.o.c2;go_wp2_with fail;refine(HF.o _ (eR W)).o.mono ?_;rintro e w2 ⟨rfl,hx2⟩;have X2:=aa hx2;have B2:=aa (HB.o.ext hx2);have d0:=B2.o.c0;have d1:=B2.o.c1;have d2:=B2.o.c2;have dC:w.heap.size<w2.heap.size:=B2.o.lt;clear hx2 b0 b1 b2 NS;go_upto_region 6 with fail
  go_cut [10] (fun PN wx=>∃p b:Nat,PN=.pointer (some ⟨p,0,none⟩)∧aiE (Ext w2 wx)∧aiE (wx.heap[p]?=some (.cells #[encStr t.aq,.int .i64 t.var,.slice (some ⟨b,0,none⟩) m m] 53 (0,0)))∧aiE (wx.heap[b]?=some (.cells (kt m) 53 (0,0))))
  case first=>
   go_region
   all_goals (go_wp2_with fail;go_meet;first
    |exact⟨w2.heap.size+1,w2.heap.size+1+1,rfl,aa (by repeat(first|exact eR _|exact eA (by assumption) _|refine eA ?_ _|refine eM ?_ _ _|refine eD ?_|refine eN ?_ _)),aa ((((eR _).alloc _).drew.heap (by simp)).trans (ah _ _ _ (by simp))),aa (ah _ _ _ (by simp))⟩
    |exact⟨w2.heap.size+1+1,w2.heap.size+1,rfl,aa (by repeat(first|exact eR _|exact eA (by assumption) _|refine eA ?_ _|refine eM ?_ _ _|refine eD ?_|refine eN ?_ _)),aa (ah _ _ _ (by simp)),aa ((((eR _).alloc _).drew.heap (by simp)).trans (ah _ _ _ (by simp)))⟩)
  case rest=>
   obtain⟨p,b,rfl,HX,HP,HZ⟩:=hcut;have HL:aiE (∀w',Ext wc w'→Calls Tryz.prog 120 #[.agg #[encStr t.aq,.int .i64 t.var,.slice (some ⟨b,0,none⟩) m m]] w' fun e w''=>e=.returned (.bool (bO t.aq t.var t.args.length))∧Ext w' w''):=aa (fun w' e=>by
    have hm:=Hm.o;have h1:=nd (jc t b) w' (LV wY (by rw[←hm];exact(e.heap (ae HZ.o)).trans HZ.o)) (by have:=Du t b;omega);rw[qO] at h1;have e1:bl (jc t b)=.agg #[encStr t.aq,.int .i64 t.var,.slice (some ⟨b,0,none⟩) m m]:=by
     unfold bl jc;simp only[Ty.aq,Ty.var,Ty.A,Ty.args,Ty.cap,List.length_replicate,hm]
    rwa [e1] at h1)
   have p0:=ag HP.o 0;have p1:=ag HP.o 1;have p2:=ag HP.o 2;simp only[aiN,aiO,aiP] at p0 p1 p2;cases hq:bO t.aq t.var t.args.length
   ·rw[hq] at HL Qw;have HN:aiE (¬Dv t L D):=aa (fun h=>by have:=h.2.2;rw[Qw.o] at this;cases this);go_wp2_with fail;refine(HL.o _ (eR _)).mono ?_;rintro e w5 ⟨rfl,jA⟩;have X5:=aa (X2.o.trans (HX.o.trans jA));clear jA;go_wp2;go_ret;exact⟨HT.o.trans (Tr.dQ X5.o),.inr ⟨rfl,HN.o⟩⟩
   ·rw[hq] at HL Qw;have IP:aiE (cM t=t.args.all cM):=aa (by rw[Qw.o];rfl);go_wp2_with fail;refine(HL.o _ (eR _)).mono ?_;rintro e wz ⟨rfl,jA⟩;have My:=aa (X2.o.trans (HX.o.trans jA));clear jA p0 p1 p2;have ZC:=aa (HB.o.ext My.o);have CZ:aiE (Below w0.heap.size w0 wz):=aa (Uo.o.trans (My.o.below.mono (by have:=Uo.o.size;omega)));have Us:aiE (wz.heap[c]?=some (.cells #[.int .i64 (L - 1)] 134 (0,0))):=aa ((My.o.heap (ae HC.o)).trans HC.o);have Ut:aiE (Tr c w (.bool false) wz (.bool false)):=aa (HT.o.trans (Tr.dQ My.o));have z2:=ZC.o.c2;have hcz:=ae Us.o;have S0:aiE (∀x∈t.args.take 0,(x.depth:Int)≤D - 1∧cM x=true):=aa (by simp);have C0:aiE (wz.heap[c]?=some (.cells #[.int .i64 (L - 1 - aF (t.args.take 0))] 134 (0,0))):=aa (by have:=Us.o;simpa [aF] using this);have L0:aiE ((0:Int)≤L - 1 - aF (t.args.take 0)):=aa (by simp[aF];omega);have T0:aiE (Tr c wz (.bool false) wz (.bool false)):=aa (Tr.refl _ _ _);have pD:=aa (fun k (hk:k<t.args.length)=>fp t.args hk);have CS:=aa (fun k=>kP t.args k);have ki:=aa (fun k (hk:k∈t.args)=>Ty.bo hk);have Qx:aiE (t.size=aF t.args+1):=aa hS;have P8:=aa (fun k (hk:k∈t.args)=>mg hk);have Ol:=aa Qv;clear hS Qv;generalize xn:t.A=A0 at *;have BC:=aa xn;clear xn;go_wp2
    go_loopw [53] (fun i wr=>∃k:Nat,k≤t.args.length∧i=.int .i64 k∧aiE (wr.heap[c]?=some (.cells #[.int .i64 (L - 1 - aF (t.args.take k))] 134 (0,0)))∧aiE ((0:Int)≤L - 1 - aF (t.args.take k))∧aiE (∀x∈t.args.take k,(x.depth:Int)≤D - 1∧cM x=true)∧aiE (Tr c wz (.bool false) wr (.bool false))) (fun i _=>t.args.length - (intOf i).toNat)
    case atStart=>exact⟨0,aiH _,rfl,C0,L0,S0,T0⟩
    case round=>
     obtain⟨k,hk,rfl,su,Eg,IQ,KI⟩:=hrel
     by_cases hlt:k<t.args.length
     ·have aN:(k:Int)<(t.args.length:Int):=by omega
      have cV:(0:Int)≤(k:Int):=by omega
      have Qy:aiE (Below w0.heap.size w0 wr):=aa (CZ.o.trans (KI.o.below CZ.o.size hc0 (fun k e=>by cases e)));obtain⟨b9,o9,Mz,Yw,q0,q1,q2⟩:=(Ht.o.all.old Qy.o).at_ hlt;rw[BC.o] at Mz;subst Mz;have mP:=aiF hlt;have hcs:=ki.o _ mP;have hdd:=P8.o _ mP;have iC:=aa (pD.o k hlt);have hs1:=CS.o (k+1);rw[iC.o] at hs1;have ZE:=Qx.o;have hl0:=Eg.o;have Qz:=ae su.o;have ZF:=aa (IH.o _ mP w0 (wr.alloc (.cells #[encStr (t.args[k]'hlt).aq,.int .i64 (t.args[k]'hlt).var,.slice (t.args[k]'hlt).A (t.args[k]'hlt).args.length (t.args[k]'hlt).cap] 53)) c (L - 1 - aF (t.args.take k)) (D - 1) (Ht.o.all.args _ mP) (Qy.o.alloc (by have:=Qy.o.size;omega) _) hc0 ((((eR wr).alloc _).heap Qz).trans su.o) (by omega) (by omega) (by omega) (by omega) (by omega));have dh:aiE (t.args.take (k+1)=t.args.take k++[t.args[k]'hlt]):=aa (aiJ hlt);have kZ:aiE (¬Dv (t.args[k]'hlt) (L - 1 - aF (t.args.take k)) (D - 1)→¬Dv t L D):=aa (fun hn ho=>hn ⟨by have:=ho.1;omega,by have:=ho.2.1;omega,List.all_eq_true.1 (by have:=ho.2.2;rw[IP.o] at this;exact this) _ mP⟩);have T9:aiE (Tr c wz (.bool false) (wr.alloc (.cells #[encStr (t.args[k]'hlt).aq,.int .i64 (t.args[k]'hlt).var,.slice (t.args[k]'hlt).A (t.args[k]'hlt).args.length (t.args[k]'hlt).cap] 53)) (.bool false)):=aa (KI.o.trans (Tr.dQ ((eR _).alloc _)));clear mP hcs hdd hs1 ZE hl0;generalize t.args[k]'hlt=x at *;generalize aF (t.args.take k)=sk at *;go_wp2_with fail;refine ZF.o.mono ?_;rintro e w7 ⟨FL,(⟨rfl,bT,Uu⟩|⟨rfl,hno⟩)⟩
      ·have T7:=aa (T9.o.trans FL);have C7:=aa Uu;have K7:=aa bT;clear FL Uu bT;go_wp2;go_roundw
       case rel=>
        have bT:=K7.o;refine⟨k+1,hlt,by go_num,aa ?_,aa ?_,aa (fun y hy => ?_),T7⟩
        ·rw[iC.o,show L - 1 - ((sk+x.size:Nat):Int)=L - 1 - sk - x.size by omega];exact C7.o
        ·rw[iC.o];have:=bT.1;omega
        ·rw[dh.o,List.mem_append,aiV] at hy
         rcases hy with hy|rfl
         ·exact IQ.o y hy
         ·exact⟨bT.2.1,bT.2.2⟩
       case measure=>simp[intOf];omega
      ·have T7:=aa (T9.o.trans FL);have N7:=aa (kZ.o hno);clear FL hno;go_wp2;go_ret;exact⟨Ut.o.trans T7.o,.inr ⟨rfl,N7.o⟩⟩
     ·have bS:¬(k:Int)<(t.args.length:Int):=by omega
      have wZ:t.args.take k=t.args:=aiK (by omega);rw[wZ] at su Eg IQ;have TQ:aiE (Dv t L D):=aa ⟨by have:=Qx.o;have:=Eg.o;omega,by
        rw[Ol.o];have h1:(t.args.map Ty.depth).foldr max 0≤(D - 1).toNat:=(gQ _ _).2 (fun y hy=>by
         obtain⟨z,hz,rfl⟩:=List.mem_map.1 hy;have:=(IQ.o z hz).1;omega)
        omega,by rw[IP.o];exact List.all_eq_true.2 (fun y hy=>(IQ.o y hy).2)⟩
      have IU:aiE (wr.heap[c]?=some (.cells #[.int .i64 (L - t.size)] 134 (0,0))):=aa (by
       have:=su.o
       rwa [show L - 1 - (aF t.args:Int)=L - t.size by have:=Qx.o;omega] at this)
      clear wZ su Eg IQ;go_wp2;go_ret;exact⟨Ut.o.trans KI.o,.inl ⟨rfl,TQ.o,IU.o⟩⟩
 ·rw[Uq] at HF Qw;have IP:aiE (cM t=t.args.all cM):=aa (by rw[Qw.o];rfl);go_enter Tryz.func72,Tryz.ntmps72;go_upto_region 2 with fail;rw[←HW.o];clear hcell iI;have NS:=sq.o;have b0:=HB.o.c0;have b1:=HB.o.c1;have b2:=HB.o.c2;go_wp2_with fail;refine(HF.o _ (eR W)).o.mono ?_;rintro e w2 ⟨rfl,hx2⟩;have X2:=aa hx2;have B2:=aa (HB.o.ext hx2);have d0:=B2.o.c0;have d1:=B2.o.c1;have d2:=B2.o.c2;have dC:w.heap.size<w2.heap.size:=B2.o.lt;clear hx2 b0 b1 b2 NS;go_upto_region 9 with fail;obtain⟨wz,ZG⟩:∃wz,wz=w2.alloc (.cells #[encStr au.aq,.int .i64 au.var,.slice au.A au.args.length au.cap] 53):=⟨_,rfl⟩;have My:aiE (Ext W wz):=aa (by rw[ZG];exact X2.o.alloc _);have Uv:w2.alloc (.cells #[.string ⟨au.aq.toArray⟩,.int .i64 au.var,.slice au.A au.args.length au.cap] 53)=wz:=ZG.symm;rw[Uv];clear ZG Uv d0 d1 d2 dC;have ZC:=aa (HB.o.ext My.o);have CZ:aiE (Below w0.heap.size w0 wz):=aa (Uo.o.trans (My.o.below.mono (by have:=Uo.o.size;omega)));have Us:aiE (wz.heap[c]?=some (.cells #[.int .i64 (L - 1)] 134 (0,0))):=aa ((My.o.heap (ae HC.o)).trans HC.o);have Ut:aiE (Tr c w (.bool false) wz (.bool false)):=aa (HT.o.trans (Tr.dQ My.o));have z2:=ZC.o.c2;have hcz:=ae Us.o;have S0:aiE (∀x∈t.args.take 0,(x.depth:Int)≤D - 1∧cM x=true):=aa (by simp);have C0:aiE (wz.heap[c]?=some (.cells #[.int .i64 (L - 1 - aF (t.args.take 0))] 134 (0,0))):=aa (by have:=Us.o;simpa [aF] using this);have L0:aiE ((0:Int)≤L - 1 - aF (t.args.take 0)):=aa (by simp[aF];omega);have T0:aiE (Tr c wz (.bool false) wz (.bool false)):=aa (Tr.refl _ _ _);have pD:=aa (fun k (hk:k<t.args.length)=>fp t.args hk);have CS:=aa (fun k=>kP t.args k);have ki:=aa (fun k (hk:k∈t.args)=>Ty.bo hk);have Qx:aiE (t.size=aF t.args+1):=aa hS;have P8:=aa (fun k (hk:k∈t.args)=>mg hk);have Ol:=aa Qv;clear hS Qv;generalize xn:t.A=A0 at *;have BC:=aa xn;clear xn;go_wp2
  go_loopw [53] (fun i wr=>∃k:Nat,k≤t.args.length∧i=.int .i64 k∧aiE (wr.heap[c]?=some (.cells #[.int .i64 (L - 1 - aF (t.args.take k))] 134 (0,0)))∧aiE ((0:Int)≤L - 1 - aF (t.args.take k))∧aiE (∀x∈t.args.take k,(x.depth:Int)≤D - 1∧cM x=true)∧aiE (Tr c wz (.bool false) wr (.bool false))) (fun i _=>t.args.length - (intOf i).toNat)
  case atStart=>exact⟨0,aiH _,rfl,C0,L0,S0,T0⟩
  case round=>
   obtain⟨k,hk,rfl,su,Eg,IQ,KI⟩:=hrel
   by_cases hlt:k<t.args.length
   ·have aN:(k:Int)<(t.args.length:Int):=by omega
    have cV:(0:Int)≤(k:Int):=by omega
    have Qy:aiE (Below w0.heap.size w0 wr):=aa (CZ.o.trans (KI.o.below CZ.o.size hc0 (fun k e=>by cases e)));obtain⟨b9,o9,Mz,Yw,q0,q1,q2⟩:=(Ht.o.all.old Qy.o).at_ hlt;rw[BC.o] at Mz;subst Mz;have mP:=aiF hlt;have hcs:=ki.o _ mP;have hdd:=P8.o _ mP;have iC:=aa (pD.o k hlt);have hs1:=CS.o (k+1);rw[iC.o] at hs1;have ZE:=Qx.o;have hl0:=Eg.o;have Qz:=ae su.o;have ZF:=aa (IH.o _ mP w0 (wr.alloc (.cells #[encStr (t.args[k]'hlt).aq,.int .i64 (t.args[k]'hlt).var,.slice (t.args[k]'hlt).A (t.args[k]'hlt).args.length (t.args[k]'hlt).cap] 53)) c (L - 1 - aF (t.args.take k)) (D - 1) (Ht.o.all.args _ mP) (Qy.o.alloc (by have:=Qy.o.size;omega) _) hc0 ((((eR wr).alloc _).heap Qz).trans su.o) (by omega) (by omega) (by omega) (by omega) (by omega));have dh:aiE (t.args.take (k+1)=t.args.take k++[t.args[k]'hlt]):=aa (aiJ hlt);have kZ:aiE (¬Dv (t.args[k]'hlt) (L - 1 - aF (t.args.take k)) (D - 1)→¬Dv t L D):=aa (fun hn ho=>hn ⟨by have:=ho.1;omega,by have:=ho.2.1;omega,List.all_eq_true.1 (by have:=ho.2.2;rw[IP.o] at this;exact this) _ mP⟩);have T9:aiE (Tr c wz (.bool false) (wr.alloc (.cells #[encStr (t.args[k]'hlt).aq,.int .i64 (t.args[k]'hlt).var,.slice (t.args[k]'hlt).A (t.args[k]'hlt).args.length (t.args[k]'hlt).cap] 53)) (.bool false)):=aa (KI.o.trans (Tr.dQ ((eR _).alloc _)));clear mP hcs hdd hs1 ZE hl0;generalize t.args[k]'hlt=x at *;generalize aF (t.args.take k)=sk at *;go_wp2_with fail;refine ZF.o.mono ?_;rintro e w7 ⟨FL,(⟨rfl,bT,Uu⟩|⟨rfl,hno⟩)⟩
    ·have T7:=aa (T9.o.trans FL);have C7:=aa Uu;have K7:=aa bT;clear FL Uu bT;go_wp2;go_roundw
     case rel=>
      have bT:=K7.o;refine⟨k+1,hlt,by go_num,aa ?_,aa ?_,aa (fun y hy => ?_),T7⟩
      ·rw[iC.o,show L - 1 - ((sk+x.size:Nat):Int)=L - 1 - sk - x.size by omega];exact C7.o
      ·rw[iC.o];have:=bT.1;omega
      ·rw[dh.o,List.mem_append,aiV] at hy
       rcases hy with hy|rfl
       ·exact IQ.o y hy
       ·exact⟨bT.2.1,bT.2.2⟩
     case measure=>simp[intOf];omega
    ·have T7:=aa (T9.o.trans FL);have N7:=aa (kZ.o hno);clear FL hno;go_wp2;go_ret;exact⟨Ut.o.trans T7.o,.inr ⟨rfl,N7.o⟩⟩
   ·have bS:¬(k:Int)<(t.args.length:Int):=by omega
    have wZ:t.args.take k=t.args:=aiK (by omega);rw[wZ] at su Eg IQ;have TQ:aiE (Dv t L D):=aa ⟨by have:=Qx.o;have:=Eg.o;omega,by
      rw[Ol.o];have h1:(t.args.map Ty.depth).foldr max 0≤(D - 1).toNat:=(gQ _ _).2 (fun y hy=>by
       obtain⟨z,hz,rfl⟩:=List.mem_map.1 hy;have:=(IQ.o z hz).1;omega)
      omega,by rw[IP.o];exact List.all_eq_true.2 (fun y hy=>(IQ.o y hy).2)⟩
    have IU:aiE (wr.heap[c]?=some (.cells #[.int .i64 (L - t.size)] 134 (0,0))):=aa (by
     have:=su.o
     rwa [show L - 1 - (aF t.args:Int)=L - t.size by have:=Qx.o;omega] at this)
    clear wZ su Eg IQ;go_wp2;go_ret;exact⟨Ut.o.trans KI.o,.inl ⟨rfl,TQ.o,IU.o⟩⟩
set_option maxRecDepth 512
set_option maxHeartbeats 200000
theorem Av (t:Ty):aV t=true↔Dv t 4096 100:=by
 unfold aV Dv;simp only[aiT,decide_eq_true_eq]
 constructor
 ·rintro⟨⟨h1,h2⟩,h3⟩;exact⟨by omega,by omega,h3⟩
 ·rintro⟨h1,h2,h3⟩;exact⟨⟨by omega,by omega⟩,h3⟩
set_option maxRecDepth 10000
set_option maxHeartbeats 8000000
theorem Cc (t:Ty) (w:World) (h:aH w t) (hsz:t.size≤90000):Calls Tryz.prog 44 #[bl t] w fun e w'=>e=.returned (.bool (aV t))∧Ext w w':=by
 have X1:Ext w ((w.alloc (.cells #[encStr t.aq,.int .i64 t.var,.slice t.A t.args.length t.cap] 53)).alloc (.cells #[.int .i64 4096] 134)):=((eR w).alloc _).alloc _;have hc:((w.alloc (.cells #[encStr t.aq,.int .i64 t.var,.slice t.A t.args.length t.cap] 53)).alloc (.cells #[.int .i64 4096] 134)).heap[w.heap.size+1]?=some (.cells #[.int .i64 4096] 134 (0,0)):=ah _ _ _ (by simp);have HW:=aa (IM t w _ (w.heap.size+1) 4096 100 h X1.below (by omega) hc (by omega) (by omega) (by omega) (by omega) hsz);have HL:=aa (Av t);have HX:=aa X1;clear h hc X1;generalize aV t=R at *;unfold bl at *;go_enter Tryz.func44,Tryz.ntmps44;go_wp2_with fail;refine HW.o.mono ?_;rintro e w2 ⟨hT,(⟨rfl,bT,-⟩|⟨rfl,hno⟩)⟩
 ·have HE:=aa (Ext.cw (HX.o.below.trans (hT.below HX.o.size (by omega) (fun k e=>by cases e))) (aiG _));have HR:=aa (HL.o.2 bT);clear hT bT;go_wp2;go_ret;exact⟨by rw[HR.o];rfl,HE.o⟩
 ·have HE:=aa (Ext.cw (HX.o.below.trans (hT.below HX.o.size (by omega) (fun k e=>by cases e))) (aiG _));have HR:aiE (R=false):=aa (by rw[←Bool.not_eq_true];exact fun h=>hno (HL.o.1 h));clear hT hno;go_wp2;go_ret;exact⟨by rw[HR.o];rfl,HE.o⟩
set_option maxRecDepth 512
set_option maxHeartbeats 200000
structure Po where
 vars:List Int
 A:Option Addr
 cap:Nat
 ty:Ty
def ZH (p:Po):Value:=.agg #[.slice p.A p.vars.length p.cap,encStr p.ty.aq,.int .i64 p.ty.var,.slice p.ty.A p.ty.args.length p.ty.cap]
structure IV (w:World) (p:Po):Prop where
 le:p.vars.length≤p.cap
 max:p.cap≤9223372036854775807
 row:Ints w p.A p.vars
 ty:aH w p.ty
theorem IV.ext {w w':World}{p:Po}(h:IV w p) (e:Ext w w'):IV w' p:=⟨h.le,h.max,ak.ext qb h.row e,h.ty.ext e⟩
def td (w:World) (b:Nat) (p:Po):Prop:=w.heap[b]?=some (.cells #[.slice p.A p.vars.length p.cap,encStr p.ty.aq,.int .i64 p.ty.var,.slice p.ty.A p.ty.args.length p.ty.cap] 75 (0,0))
section
variable {w w':World}{b:Nat}{p:Po}
theorem td.new (w:World) (p:Po):td (w.alloc (.cells #[.slice p.A p.vars.length p.cap,encStr p.ty.aq,.int .i64 p.ty.var,.slice p.ty.A p.ty.args.length p.ty.cap] 75)) w.heap.size p:=ah _ _ _ rfl
theorem td.lt (h:td w b p):b<w.heap.size:=ae h
theorem td.ext (h:td w b p) (e:Ext w w'):td w' b p:=(e.heap h.lt).trans h
theorem td.cells (h:td w b p):w.cell? ⟨b,0,none⟩=some (.slice p.A p.vars.length p.cap)∧w.cell? ⟨b,1,none⟩=some (encStr p.ty.aq)∧w.cell? ⟨b,2,none⟩=some (.int .i64 p.ty.var)∧w.cell? ⟨b,3,none⟩=some (.slice p.ty.A p.ty.args.length p.ty.cap):=
 ⟨ag h 0,ag h 1,ag h 2,ag h 3⟩
end
def Uw (l:List Int):aj:=(l.map fun v=>([32]:aj)++iF v).flatten
noncomputable def oY (p:Po):aj:=
 if aV p.ty then(if p.vars=[] then cq p.ty else([102,111,114,97,108,108]:aj)++Uw p.vars++([46,32]:aj)++cq p.ty) else []
set_option maxRecDepth 10000
set_option maxHeartbeats 8000000
theorem Ce (p:Po) (w:World) (h:IV w p) (ok:nK p.ty=true) (hsz:p.ty.size≤20000) (h0:p.vars=[]):Calls Tryz.prog 25 #[ZH p] w fun e w'=>e=.returned (encStr (oY p))∧Ext w w':=by
 have X0:aiE (Ext w (w.alloc (.cells #[.slice p.A p.vars.length p.cap,encStr p.ty.aq,.int .i64 p.ty.var,.slice p.ty.A p.ty.args.length p.ty.cap] 75))):=aa ((eR w).alloc _);have HB:=aa (td.new w p);obtain⟨c0,c1,c2,c3⟩:=HB.o.cells;have HL:=aa (fun w' (e:Ext w w')=>aa (Cc p.ty w' (h.ty.ext e) (by omega)));have HT:=aa (fun w' (e:Ext w w')=>aa (Qu p.ty w' (h.ty.ext e) ok hsz));have HP:aiE (oY p=if aV p.ty then cq p.ty else []):=aa (by unfold oY;rw[if_pos h0]);have HV:aiE (p.vars.length=0):=aa (by rw[h0];rfl);rw[HP.o];clear HP h ok hsz h0;unfold ZH bl at *;generalize cq p.ty=s at *;rw[HV.o] at X0 HB c0 c1 c2 c3 ⊢;cases hl:aV p.ty
 ·rw[hl] at HL;go_enter Tryz.func25,Tryz.ntmps25;go_wp2_with fail;refine(HL.o _ X0.o).o.mono ?_;rintro e w2 ⟨rfl,hx⟩;go_wp2;go_ret;exact⟨rfl,X0.o.trans hx⟩
 ·rw[hl] at HL;go_enter Tryz.func25,Tryz.ntmps25;go_wp2_with fail;refine(HL.o _ X0.o).o.mono ?_;rintro e w2 ⟨rfl,hx⟩;have X2:=aa (X0.o.trans hx);obtain⟨d0,d1,d2,d3⟩:=(HB.o.ext hx).cells;rw[HV.o] at d0;clear hx c0 c1 c2 c3;go_wp2_with fail;refine(HT.o _ X2.o).o.mono ?_;rintro e w3 ⟨rfl,hx⟩;go_wp2;go_ret;exact⟨rfl,X2.o.trans hx⟩
set_option maxRecDepth 512
set_option maxHeartbeats 200000
def rp (c:aj) (p:Ty.Pure):Ty.Pure:=.mk ([123]++c++[125]) 0 [p]
theorem Aw (c:aj) (t:Ty) (b:Nat):(kr c t b).pure=rp c t.pure:=by rw[Ty.aG];rfl
theorem rq {c:aj}{t:Ty}{b k:Nat}(hb:b≠k) (ht:aC k t=true):aC k (kr c t b)=true:=
 dG (fun _ a e=>by injection e with e;subst e;exact hb) (by intro x hx;simp at hx;subst hx;exact ht)
structure wm (w0 wB w:World) (row:Option Nat) (l:List Pd) (ds:List Ty):Prop where
 len:ds.length=l.length
 ty:∀d∈ds,aH w d
 is:ds.map Ty.pure=l.map fun p=>rp p.cls p.ty.pure
 row:∀d∈ds,∀c,row=some c→aC c d=true
 away:∀d∈ds,∀c,c<wB.heap.size→(∀p∈l,aC c p.ty=true)→aC c d=true
theorem wm.nil (w0 wB w:World) (row:Option Nat):wm w0 wB w row [] []:=⟨rfl,by simp,rfl,by simp,by simp⟩
theorem wm.snoc {w0 wB w w' w4:World}{row row':Option Nat}{l:List Pd}{ds:List Ty}{p:Pd}{b:Nat}(h:wm w0 wB w row l ds) (e:Ext w w') (hd:aH w' (kr p.cls p.ty b)) (hb:w.heap.size≤b) (hp:aH w0 p.ty) (h0:w0.heap.size≤wB.heap.size) (hB:wB.heap.size≤w.heap.size)
  (hr:∀c,row=some c→wB.heap.size≤c∧c<w.heap.size) (hg:w'.grownBy w4 row) (IW:row'=row∨∀c,row'=some c→w'.heap.size≤c):wm w0 wB w4 row' (l++[p]) (ds++[kr p.cls p.ty b]):=by
 have hall:∀d∈ds++[kr p.cls p.ty b],aH w' d∧(∀c,row=some c→aC c d=true)∧∀c,c<wB.heap.size→(∀x∈l++[p],aC c x.ty=true)→aC c d=true:=by
  intro d xa
  rcases List.mem_append.1 xa with xa|xa
  ·exact⟨(h.ty d xa).ext e,h.row d xa,fun c h1 h2=>h.away d xa c h1 (fun x hx=>h2 x (List.mem_append.2 (.inl hx)))⟩
  ·rw[aiV] at xa;subst xa;exact⟨hd,fun c hc=>rq (by have:=hr c hc;omega) (aP hp (by have:=hr c hc;omega)),fun c h1 h2=>rq (by omega) (h2 p (by simp))⟩
 refine⟨by simp[h.len],fun d xa=>(hall d xa).1.grown hg (hall d xa).2.1,by rw[aiX,aiX,h.is];simp[Aw],fun d xa c hc => ?_,fun d xa=>(hall d xa).2.2⟩
 rcases IW with rfl|IW
 ·exact(hall d xa).2.1 c hc
 ·exact aP (hall d xa).1 (IW c hc)
open Go.Sort
def Ux (d:pF):Prop:=d.n≤100∧d.cons.length≤30∧∀c∈d.cons,c.types.length≤30∧(c.types.map Ty.size).sum≤20000
set_option maxRecDepth 10000
set_option maxHeartbeats 8000000
theorem IX (c t:aj) (w:World) (hc:c.length≤1000000000000000000) (ht:t.length≤1000000000000000000) :
  Calls Tryz.prog 51 #[encStr c,encStr t] w fun e w'=>e=.returned (encStr (iv c t))∧w'=w:=by
 have hs1:¬((⟨[(64:UInt8)].toArray⟩:ByteArray).size+(⟨c.toArray⟩:ByteArray).size>9223372036854775807):=by rw[aB,aB];simp;omega
 have e1:=ByteArray.mk_append_mk [(64:UInt8)] c;have hs2:¬((⟨(64 :: c).toArray⟩:ByteArray).size+(⟨[(64:UInt8)].toArray⟩:ByteArray).size>9223372036854775807):=by rw[aB,aB];simp;omega
 have e2:=ByteArray.mk_append_mk (64 :: c) [(64:UInt8)];have hs3:¬((⟨(64 :: (c++[64])).toArray⟩:ByteArray).size+(⟨t.toArray⟩:ByteArray).size>9223372036854775807):=by rw[aB,aB];simp;omega
 have e3:=ByteArray.mk_append_mk (64 :: (c++[64])) t;go_enter Tryz.func51,Tryz.ntmps51;go_wp2;go_ret;exact⟨by simp[iv],rfl⟩
theorem IY (A:Option Addr) (cap:Nat) (l:List Tm) (t:Tm) (w:World) (h:bm w A l) (ht:aQ w t) (hl:l.length≤1000000) :
  Calls Tryz.prog 52 #[bz t,.slice A l.length cap] w fun e w'=>(∃u,e=.returned (bz u)∧aQ w' u∧u.pure=ny t.pure l∧∀c,c<w.heap.size→az c t→(∀x∈l,az c x)→az c u)∧Ext w w':=by
 obtain⟨W,hW⟩:∃W,W=(w.alloc (.cells #[.int .i64 t.kind,.int .i64 t.n,encStr t.name,.slice t.V t.vars.length t.vc,.slice t.T t.types.length t.tc,.slice t.A t.kids.length t.cap] 40)).alloc (.cells #[.int .i64 0,.int .i64 0,.string ⟨#[]⟩,.slice none 0 0,.slice none 0 0,.slice none 0 0] 40):=⟨_,rfl⟩;have HW:=aa hW.symm;have X0:aiE (Ext w W):=aa (by rw[hW];exact((eR _).alloc _).alloc _);have sK:W.heap.size=w.heap.size+2:=by rw[hW];simp
 have B1:aiE (av W w.heap.size t):=aa (by rw[hW];exact(av.new w t).ext ((eR _).alloc _));have B2:aiE (W.heap[w.heap.size+1]?=some (.cells #[.int .i64 0,.int .i64 0,.string ⟨#[]⟩,.slice none 0 0,.slice none 0 0,.slice none 0 0] 40 (0,0))):=aa (by rw[hW];exact ah _ _ _ (by simp));have H:=aa h;have Ht:=aa ht;have BC:aiE (∀c,c<w.heap.size+2→(c<w.heap.size→az c t∧∀x∈l,az c x)→az c t):=aa (fun c _ h=>(Nat.lt_or_ge c w.heap.size).elim (fun h1=>(h h1).1) (fun h1=>bA ht h1));clear h ht hW;unfold bz at *;go_enter Tryz.func52,Tryz.ntmps52;go_upto_region 1 with fail;rw[HW.o];go_wp2
 go_loopw [5] (fun i wr=>∃(k:Nat) (u:Tm),k≤l.length∧i=.int .i64 k∧aiE (Ext w wr)∧aiE (av wr w.heap.size u)∧aiE (wr.heap[w.heap.size+1]?=some (.cells #[.int .i64 0,.int .i64 0,.string ⟨#[]⟩,.slice none 0 0,.slice none 0 0,.slice none 0 0] 40 (0,0)))∧aiE (aQ wr u∧u.pure=ny t.pure (l.take k)∧∀c,c<w.heap.size+2→(c<w.heap.size→az c t∧∀x∈l,az c x)→az c u)) (fun i _=>l.length - (intOf i).toNat)
 case atStart=>exact⟨0,t,aiH _,rfl,X0,B1,B2,aa ⟨Ht.o.ext X0.o,rfl,BC.o⟩⟩
 case round=>
  obtain⟨k,u,hk,rfl,HX,HB,HZ,HU⟩:=hrel;have hz2:=ae HZ.o;have hbl:=HB.o.lt
  by_cases hlt:k<l.length
  ·have aN:(k:Int)<(l.length:Int):=by omega
   have cV:(0:Int)≤(k:Int):=by omega
   obtain⟨b,o,hA,hb,r0,r1,r2,r3,r4,r5⟩:=(H.o.ext HX.o).at_ hlt;have dh:=aa (qK t.pure l hlt);have Hm:=aa (aiF hlt);have Hx:=aa (H.o.kids _ (aiF hlt));rw[hA];generalize l[k]'hlt=x at *;have G8:aiE (∀c,c<w.heap.size+2→(c<w.heap.size→az c t∧∀x∈l,az c x)→az c x):=aa (fun c _ h=>(Nat.lt_or_ge c w.heap.size).elim (fun h1=>(h h1).2 _ Hm.o) (fun h1=>bA Hx.o h1));have FE:aiE (∀g,wr.heap.size≤g→∀c,c<w.heap.size+2→(c<w.heap.size→az c t∧∀x∈l,az c x)→az c (gT u x g)):=aa (fun g hg c hc h2=>tZ (by omega) (HU.o.2.2 c hc h2) (G8.o c hc h2));have HP:aiE (∀g,(gT u x g).pure=ny t.pure (l.take (k+1))):=aa (fun g=>by rw[tY,HU.o.2.1,dh.o]);clear hA;obtain⟨c0,c1,c2,c3,c4,c5⟩:=HB.o.cells;obtain⟨f0,f1,f2,f3,f4,f5⟩:=HB.o.Gn;have HL:=aa (DM HX.o HB.o HZ.o HU.o.1 (HU.o.2.2 _ (by omega) (fun h=>by omega)) (Hx.o.ext HX.o) (G8.o _ (by omega) (fun h=>by omega)) (aiG _));go_wp2
   go_region
   all_goals (go_wp2;go_roundw)
   case measure=>simp[intOf];omega
   case rel=>exact⟨k+1,gT u x _,hlt,by go_num,aa HL.o.1.drew,aa (HL.o.2.1.ext (eR _).drew),aa HL.o.2.2.1,aa ⟨HL.o.2.2.2.ext (eR _).drew,HP.o _,FE.o _ (by omega)⟩⟩
  ·have bS:¬(k:Int)<(l.length:Int):=by omega
   obtain⟨c0,c1,c2,c3,c4,c5⟩:=HB.o.cells;obtain⟨hu,hp,ha⟩:=HU.o;rw[aiK (by omega)] at hp;obtain⟨WF,iM⟩:∃WF,WF=cC wr (w.heap.size+1) u:=⟨_,rfl⟩;have hgr:=bh wr (w.heap.size+1) u;have xr:=gX u HZ.o;rw[←iM] at hgr xr;have XF:=aa (HX.o.grown hgr (fun c e=>by injection e with e;omega));have Ze:=aa (hu.grown hgr (fun c e=>by injection e with e;subst e;exact ha _ (by omega) (fun h=>by omega)));have HP:=aa hp;have HA:=aa ha;have g0:=ai HZ.o 0;have g1:=ai HZ.o 1;have g2:=ai HZ.o 2;have g3:=ai HZ.o 3;have g4:=ai HZ.o 4;have g5:=ai HZ.o 5;have z0:=ag HZ.o 0;have z1:=ag HZ.o 1;have z2:=ag HZ.o 2;have z3:=ag HZ.o 3;have z4:=ag HZ.o 4;have z5:=ag HZ.o 5;simp only[aiN,aiO,aiP] at z0 z1 z2 z3 z4 z5;obtain⟨m0,m1,m2,m3,m4,m5⟩:=xr.cells;clear hu hp ha hgr xr;unfold cC at iM;go_wp2;rw[←iM];refine bodyPost_ret (v:=.agg #[.int .i64 u.kind,.int .i64 u.n,.string ⟨u.name.toArray⟩,.slice u.V u.vars.length u.vc,.slice u.T u.types.length u.tc,.slice u.A u.kids.length u.cap]) ?_ rfl ⟨⟨u,rfl,Ze.o,HP.o,fun c hc h1 h2=>HA.o c (by omega) (fun _=>⟨h1,h2⟩)⟩,XF.o⟩;simp[results,Tryz.f52,go_sem,m0,m1,m2,m3,m4,m5]
set_option maxRecDepth 512
set_option maxHeartbeats 200000
noncomputable def oZ (q:Tm.Pure) (types:List Ty):Tm.Pure:=if types.map Ty.pure=[] then q else .mk 6 0 [] [] (types.map Ty.pure) [q]
set_option maxRecDepth 10000
set_option maxHeartbeats 8000000
theorem IZ (t:Tm) (T:Option Addr) (tc:Nat) (types:List Ty) (w:World) (ht:aQ w t) (hT:bH w T types) (hl:types.length≤tc) (hm:tc≤9223372036854775807) :
  Calls Tryz.prog 50 #[bz t,.slice T types.length tc] w fun e w'=>(∃u,e=.returned (bz u)∧aQ w' u∧u.pure=oZ t.pure types∧∀c,c<w.heap.size→az c t→jZ c T types.length→(∀x∈types,aC c x=true)→az c u)∧Ext w w':=by
 obtain⟨W,hW⟩:∃W,W=(w.alloc (.cells #[.int .i64 t.kind,.int .i64 t.n,encStr t.name,.slice t.V t.vars.length t.vc,.slice t.T t.types.length t.tc,.slice t.A t.kids.length t.cap] 40)).alloc (.cells #[.int .i64 0,.int .i64 0,.string ⟨#[]⟩,.slice none 0 0,.slice none 0 0,.slice none 0 0] 40):=⟨_,rfl⟩;have HW:=aa hW.symm;have X0:aiE (Ext w W):=aa (by rw[hW];exact((eR _).alloc _).alloc _);have B1:aiE (av W w.heap.size t):=aa (by rw[hW];exact(av.new w t).ext ((eR _).alloc _));have B2:aiE (W.heap[w.heap.size+1]?=some (.cells #[.int .i64 0,.int .i64 0,.string ⟨#[]⟩,.slice none 0 0,.slice none 0 0,.slice none 0 0] 40)):=aa (by rw[hW];exact ah _ _ _ (by simp));have sK:W.heap.size=w.heap.size+2:=by rw[hW];simp
 obtain⟨c0,c1,c2,c3,c4,c5⟩:=B1.o.cells;have n1:=B1.o.lt;obtain⟨z0,z1,z2,z3,z4,z5,gC,gD,gF,gH,vV,vW⟩:=bB B2.o;have hz:=ae B2.o
 by_cases ke:types=[]
 ·subst ke;have h0:((([]:List Ty).length:Int) == 0)=true:=rfl;have HA:=aa (bA ht (by omega):az (w.heap.size+1) t);have HF:aiE (aQ (cC W (w.heap.size+1) t) t):=aa ((ht.ext X0.o).grown (bh _ _ _) (fun c e=>by injection e with e;subst e;exact HA.o));have XF:=aa (bk X0.o (by omega:w.heap.size≤w.heap.size+1) t);have HP:aiE (t.pure=oZ t.pure []):=aa rfl;clear hW ht hT hl hm;unfold bz;go_enter Tryz.func50,Tryz.ntmps50;go_upto_region 1 with fail;rw[HW.o];clear HW;go_wp2;refine bodyPost_ret (v:=bz t) ?_ rfl ⟨⟨t,rfl,HF.o,HP.o,fun c _ h _ _=>h⟩,XF.o⟩;simp[results,Tryz.f50,go_sem,z0,z1,z2,z3,z4,z5]
 ·have hlp:types.length≠0:=fun h=>ke (List.length_eq_zero_iff.1 h)
  have h0:((types.length:Int) == 0)=false:=by simp[hlp]
  obtain⟨F,hF⟩:∃F,F=Uk T tc types W.heap.size t:=⟨_,rfl⟩;obtain⟨WF,iM⟩:∃WF,WF=(cC W (w.heap.size+1) F).alloc (.cells #[.int .i64 t.kind,.int .i64 t.n,encStr t.name,.slice t.V t.vars.length t.vc,.slice t.T t.types.length t.tc,.slice t.A t.kids.length t.cap] 40):=⟨_,rfl⟩;have sx:=fP W (w.heap.size+1) F;have n9:=aa (bA ht (by omega):az (w.heap.size+1) t);have XF:aiE (Ext w WF):=aa (by rw[iM];exact(bk X0.o (by omega) F).alloc _);have Iw:aiE (aQ WF F):=aa (by
   rw[hF];refine Iq (hT.ext XF.o) hl hm (ht.ext XF.o) ?_;have:=av.new (cC W (w.heap.size+1) F) t;rw[sx] at this;rw[iM];exact this)
  have Qp:aiE (F.pure=oZ t.pure types):=aa (by
   unfold oZ;rw[hF,x6,if_neg (fun h=>ke (List.map_eq_nil_iff.1 h))])
  have La:aiE (∀c,c<w.heap.size→az c t→jZ c T types.length→(∀x∈types,aC c x=true)→az c F):=aa (fun c hc h1 h2 h3=>by rw[hF];exact xZ h2 h3 (by omega) h1);have HVf:aiE (bz F=.agg #[.int .i64 6,.int .i64 0,.string ⟨#[]⟩,.slice none 0 0,.slice T types.length tc,.slice (some ⟨W.heap.size,0,none⟩) 1 1]):=aa (by rw[hF];rfl);have Un:aiE (((((((W.setCell ⟨w.heap.size+1,0,none⟩ (.int .i64 6)).setCell ⟨w.heap.size+1,1,none⟩ (.int .i64 0)).setCell ⟨w.heap.size+1,2,none⟩ (.string ⟨#[]⟩)).setCell ⟨w.heap.size+1,3,none⟩ (.slice none 0 0)).setCell ⟨w.heap.size+1,4,none⟩ (.slice T types.length tc)).setCell ⟨w.heap.size+1,5,none⟩ (.slice (some ⟨W.heap.size,0,none⟩) 1 1)).alloc (.cells #[.int .i64 t.kind,.int .i64 t.n,.string ⟨t.name.toArray⟩,.slice t.V t.vars.length t.vc,.slice t.T t.types.length t.tc,.slice t.A t.kids.length t.cap] 40)=WF):=aa (by rw[iM,hF];rfl);clear hW hF iM sx ht hT sK;unfold bz at *;go_enter Tryz.func50,Tryz.ntmps50;go_upto_region 1 with fail;rw[HW.o];clear HW;go_wp2;rw[Un.o];refine bodyPost_ret (v:=bz F) ?_ rfl ⟨⟨F,rfl,Iw.o,Qp.o,La.o⟩,XF.o⟩;unfold bz;rw[HVf.o,←Un.o];simp[results,Tryz.f50,go_sem,z0,z1,z2,z3,z4,z5,hz]
set_option maxRecDepth 512
set_option maxHeartbeats 200000
structure ya (wr wx:World) (b:Nat) (F:Tm):Prop where
 x:Ext wr wx
 box:av wx b F
 ge:wr.heap.size≤b
 gZ:aQ wx F
theorem ya.behind {wr y:World}{F:Tm}(e:Ext wr y) (h:aQ y F):ya wr (y.alloc (.cells #[.int .i64 F.kind,.int .i64 F.n,encStr F.name,.slice F.V F.vars.length F.vc,.slice F.T F.types.length F.tc,.slice F.A F.kids.length F.cap] 40)) y.heap.size F:=
 ⟨e.alloc _,av.new y F,e.size,h.ext ((eR _).alloc _)⟩
theorem ya.ahead {wr y:World}{b:Nat}{F:Tm}(e:Ext wr y) (hb:wr.heap.size≤b) (hB:y.heap[b]?=some (.cells #[.int .i64 0,.int .i64 0,.string ⟨#[]⟩,.slice none 0 0,.slice none 0 0,.slice none 0 0] 40)) (h:aQ y F) (ha:az b F):ya wr (cC y b F) b F:=
 ⟨bk e hb F,gX F hB,hb,h.grown (bh y b F) (fun c e=>by injection e with e;subst e;exact ha)⟩
set_option maxRecDepth 10000
set_option maxHeartbeats 8000000
theorem th (x:di) (P:Option Addr) (pc:Nat) (preds:List Pd) (L:Option Addr) (lc:Nat) (given:List Tm) (hpl:∀y∈x.insts,y.preds.length≤40000) (p:Pf) (hk:p.kind=3) (ih:∀k∈p.kids,Qj x P pc preds L lc given k):Qj x P pc preds L lc given p:=by
 intro w he hP hL hp hq hlen;obtain⟨q,hq⟩:=Option.isSome_iff_exists.1 hq
 rcases eB hq with ⟨h,-⟩|⟨h,-⟩|⟨-,y,hy,nX,js⟩
 ·omega
 ·omega
 rw[pT hk hy];obtain⟨h0,-,xW,DY⟩:=nv hy;obtain⟨n,hn⟩:∃n:Nat,p.n=(n:Int):=⟨p.n.toNat,by omega⟩;rw[hn,Int.toNat_natCast] at xW;have DY:x.insts[n]'xW=y:=by rw[←DY];congr 1;omega
 obtain⟨W,hW⟩:∃W,W=((w.alloc (.cells #[.slice x.D x.aA.length x.dc,.slice x.C x.af.length x.cc,.slice x.I x.insts.length x.ic] 26)).alloc (.cells #[.int .i64 p.kind,.int .i64 p.n,.slice p.T p.types.length p.tc,.slice p.A p.kids.length p.cap] 34)).alloc (.cells #[.int .i64 0,.int .i64 0,.string ⟨#[]⟩,.slice none 0 0,.slice none 0 0,.slice none 0 0] 40):=⟨_,rfl⟩;have HW:=aa hW.symm;have X0:aiE (Ext w W):=aa (by rw[hW];exact(((eR _).alloc _).alloc _).alloc _);have B1:aiE (aI W w.heap.size x):=aa (by rw[hW];exact(aI.new w x).ext (((eR _).alloc _).alloc _));have B2:aiE (aO W (w.heap.size+1) p):=aa (by rw[hW];exact aO.ext (ah _ _ _ (by simp)) ((eR _).alloc _));have B3:aiE (W.heap[w.heap.size+1+1]?=some (.cells #[.int .i64 0,.int .i64 0,.string ⟨#[]⟩,.slice none 0 0,.slice none 0 0,.slice none 0 0] 40)):=aa (by rw[hW];exact ah _ _ _ (by simp));have bR:aiE (W.heap.size=w.heap.size+3):=aa (by rw[hW];simp);obtain⟨bi,oi,FJ,hbi,r0,r1,r2,r3⟩:=(he.insts.ext X0.o).at_ xW;rw[DY] at r0 r1 r2 r3;have oC:=he.insts.all _ (aiF xW);rw[DY] at oC;have Ae:=hpl _ (aiF xW);rw[DY] at Ae;have HN:=aa (fun w'=>IX y.cls y.aq w' oC.txt oC.ctxt);have Sn:aiE ((iv y.cls y.aq).length≤9223372036854775807):=aa (by have:=oC.txt;have:=oC.ctxt;unfold iv;simp;omega);have hall:=aa hp.all;have Ir:=aa hp.hd.types;have Qm:=hp.hd.FV;have Iu:=hp.hd.qj;have HT:=aa (fun j (hj:j<p.kids.length) w' (e:Ext W w')=>aa (ih _ (aiF hj) w' (he.ext (X0.o.trans e)) (hP.ext (X0.o.trans e)) (hL.ext (X0.o.trans e)) ((hp.all.kids _ (aiF hj)).ext (X0.o.trans e)) (by obtain⟨b,hb⟩:=js _ (aiF hj);rw[hb];rfl) hlen));have sR:aiE (∀c,w.heap.size≤c→(∀g∈given,az c g)∧aJ c p):=aa (fun c hc=>⟨fun g hg=>bA (hL.kids g hg) hc,dO hp hc⟩);have nG:aiE (∀c,aJ c p→∀k∈p.kids,aJ c k):=aa (fun c h=>h.kids);have HTo:aiE (∀c,w.heap.size≤c→jZ c p.T p.types.length∧∀x∈p.types,aC c x=true):=aa (fun c hc=>⟨(dO hp hc).ty,(dO hp hc).ja⟩);have HTp:aiE (∀c,aJ c p→jZ c p.T p.types.length∧∀x∈p.types,aC c x=true):=aa (fun c h=>⟨h.ty,h.ja⟩);have Zv:p.kids.length≤40000:=by omega
 obtain⟨j0,hj,nB,gI,gM⟩:=info_parts nJ;obtain⟨c0,c1,c2,c3⟩:=B2.o.cells;obtain⟨e0,e1,e2⟩:=B1.o.cells;rw[hk] at c0;rw[hn] at c1;rw[FJ] at e2;have n1:=B1.o.lt;have n2:=B2.o.lt;have n3:=ae B3.o;have zr:(0:Int)≤(n:Int):=by omega
 have sD:(n:Int)<(x.insts.length:Int):=by omega
 have sq:=aa (aiI c2 c3);have HV:aiE (bM p=.agg #[.int .i64 3,.int .i64 (n:Int),.slice p.T p.types.length p.tc,.slice p.A p.kids.length p.cap]):=aa (by unfold bM;rw[hk,hn]);have HEn:=aa (fun w' (e:Ext W w')=>(B1.o.ext e).cells);rw[HV.o];have HW:aiE (((w.alloc (.cells #[.slice x.D x.aA.length x.dc,.slice x.C x.af.length x.cc,.slice (some ⟨bi,oi,none⟩) x.insts.length x.ic] 26)).alloc (.cells #[.int .i64 3,.int .i64 (n:Int),.slice p.T p.types.length p.tc,.slice p.A p.kids.length p.cap] 34)).alloc (.cells #[.int .i64 0,.int .i64 0,.string ⟨#[]⟩,.slice none 0 0,.slice none 0 0,.slice none 0 0] 40)=W):=aa (by have h:=HW.o;rw[hk,hn,FJ] at h;exact h);unfold eu at HT ⊢;rw[FJ] at HT ⊢;rw[FJ] at HEn;generalize Qo:kR x.af x.insts preds (given.map Tm.pure)=EV at *;generalize hN:iv y.cls y.aq=nm at *;have Xf:aiE ((p.kids.map EV).foldl ou (if p.types.map Ty.pure=[] then .mk 1 0 nm [] [] [] else .mk 6 0 [] [] (p.types.map Ty.pure) [.mk 1 0 nm [] [] []])=(p.kids.map EV).foldl ou (oZ (.mk 1 0 nm [] [] []) p.types)):=aa rfl;generalize (p.kids.map EV).foldl ou (if p.types.map Ty.pure=[] then .mk 1 0 nm [] [] [] else .mk 6 0 [] [] (p.types.map Ty.pure) [.mk 1 0 nm [] [] []])=QQ at *;have HI:aiE (∀w',Ext W w'→aiE (Calls Tryz.prog 50 #[.agg #[.int .i64 1,.int .i64 0,.string ⟨nm.toArray⟩,.slice none 0 0,.slice none 0 0,.slice none 0 0],.slice p.T p.types.length p.tc] w' fun e w''=>(∃F,e=.returned (bz F)∧aQ w'' F∧F.pure=oZ (.mk 1 0 nm [] [] []) p.types∧∀c,c<w'.heap.size→jZ c p.T p.types.length→(∀x∈p.types,aC c x=true)→az c F)∧Ext w' w'')):=aa (fun w' e=>aa ((IZ (pK nm) p.T p.tc p.types w' (Al w' Sn.o) (Ir.o.ext (X0.o.trans e)) Qm Iu).mono (by
  rintro e2 w'' ⟨⟨F,NQ,h1,h2,h3⟩,hx⟩;exact⟨⟨F,NQ,h1,by rw[h2,rh],fun c hc k1 k2=>h3 c hc (rf c nm) k1 k2⟩,hx⟩)))
 unfold bM at HT;clear hW he hP hL hp hq hlen ih js FJ HV hk hn h0 nX hy DY hpl oC Ir;generalize p.A=PA at *;go_enter Tryz.func29,Tryz.ntmps29;go_upto_region 1 with fail;rw[HW.o];clear HW;go_upto_region 8 with fail;refine bJ ?_;intro W8 ui;have X8:aiE (Ext W W8):=aa (by rw[ui];exact(eR _).alloc _);have D8:aiE (W8.heap[W.heap.size]?=some (.cells #[.string ⟨y.cls.toArray⟩,.string ⟨y.aq.toArray⟩,.int .i64 y.n,.slice y.A y.preds.length y.cap] 70 (0,0))):=aa (by rw[ui];exact ah _ _ _ rfl);have G0:W.heap.size<W8.heap.size:=ae D8.o;have sK:w.heap.size+3≤W.heap.size:=by have:=bR.o;omega
 clear ui c0 c1 c2 c3 e0 e1 e2 r0 r1 r2 r3 n1 n2 n3;go_wp2
 go_loopw [12,13] (fun v i wr=>∃(j:Nat) (ts:List Tm),j≤p.kids.length∧i=.int .i64 j∧aiE (ts.length=j)∧aiE (pJ w W8 wr W8.heap.size (w.heap.size+1+1) given p ((p.kids.take j).map EV) ts v)) (fun _ i _=>p.kids.length - (intOf i).toNat)
 case atStart=>exact⟨0,[],aiH _,rfl,aa rfl,aa ⟨World.ownsRow_nil _ _ _ _,by simp,by simp,by simp,by simp,rfl,eR _⟩⟩
 case round=>
  obtain⟨j,ts,zU,rfl,pQ,HK⟩:=hrel;have XR:=aa (X8.o.trans HK.o.ext);have hwr:=HK.o.ext.size;have c3:=XR.o.cell sq.o.2;have n1:=(B1.o.ext XR.o).lt;have n2:=(B2.o.ext XR.o).lt
  by_cases hlt:j<p.kids.length
  ·have aN:(j:Int)<(p.kids.length:Int):=by omega
   have qx:(0:Int)≤(j:Int):=by omega
   obtain⟨bq,oq,rfl,Cb,q0,q1,q2,q3⟩:=(hall.o.ext (X0.o.trans X8.o)).at_ hlt;have HC:aiE (∀w',Ext wr w'→aiE (Calls Tryz.prog 29 #[.agg #[.slice x.D x.aA.length x.dc,.slice x.C x.af.length x.cc,.slice (some ⟨bi,oi,none⟩) x.insts.length x.ic],.slice P preds.length pc,.slice L given.length lc,.agg #[.int .i64 (p.kids[j]'hlt).kind,.int .i64 (p.kids[j]'hlt).n,.slice (p.kids[j]'hlt).T (p.kids[j]'hlt).types.length (p.kids[j]'hlt).tc,.slice (p.kids[j]'hlt).A (p.kids[j]'hlt).kids.length (p.kids[j]'hlt).cap]] w' fun e w''=>(∃t,e=.returned (bz t)∧sO wr w'' given (p.kids[j]'hlt) (EV (p.kids[j]'hlt)) t)∧Ext wr w'')):=aa (fun w' e=>aa ((HT.o j hlt w' (XR.o.trans e)).o.mono (by
    rintro e2 w'' ⟨⟨t,NQ,ht⟩,hx⟩;exact⟨⟨t,NQ,⟨ht.gZ,ht.is,fun c hc=>ht.away c (Nat.lt_of_lt_of_le hc e.size)⟩⟩,e.trans hx⟩)))
   have dh:aiE (p.kids.take (j+1)=p.kids.take j++[p.kids[j]'hlt]):=aa (aiJ hlt);have DZ:=aa (aiF hlt);have ei:aiE (∀w',Ext W8 w'→w'.cell? ⟨w.heap.size,0,none⟩=some (.slice x.D x.aA.length x.dc)∧w'.cell? ⟨w.heap.size,1,none⟩=some (.slice x.C x.af.length x.cc)∧w'.cell? ⟨w.heap.size,2,none⟩=some (.slice (some ⟨bi,oi,none⟩) x.insts.length x.ic)∧w'.cell? ⟨w.heap.size+1,3,none⟩=some (.slice (some ⟨bq,oq,none⟩) p.kids.length p.cap)∧w'.cell? ⟨bq,oq+j*4,none⟩=some (.int .i64 (p.kids[j]'hlt).kind)∧w'.cell? ⟨bq,oq+j*4+1,none⟩=some (.int .i64 (p.kids[j]'hlt).n)∧w'.cell? ⟨bq,oq+j*4+2,none⟩=some (.slice (p.kids[j]'hlt).T (p.kids[j]'hlt).types.length (p.kids[j]'hlt).tc)∧w'.cell? ⟨bq,oq+j*4+3,none⟩=some (.slice (p.kids[j]'hlt).A (p.kids[j]'hlt).kids.length (p.kids[j]'hlt).cap)):=aa (fun w' e=>by
    obtain⟨a0,a1,a2⟩:=HEn.o w' (X8.o.trans e);exact⟨a0,a1,a2,(X8.o.trans e).cell sq.o.2,e.cell q0,e.cell q1,e.cell q2,e.cell q3⟩)
   have hbr:bq<wr.heap.size:=by omega
   clear q0 q1 q2 q3 c3 Cb HT;generalize p.kids[j]'hlt=k at *;obtain⟨A6,c6,hv,-,-,-,-⟩:=ak.own eY (l:=ts) HK.o.own;subst hv;obtain⟨s0,s1,s2,s3,s4,s5,s6,s7⟩:=ei.o wr HK.o.ext;have Sq:ts.length≤40000:=by have:=pQ.o;omega
   go_upto_region 12 with fail
   go_region_held3 (fun w'=>w'.cell? ⟨w.heap.size,0,none⟩=some (.slice x.D x.aA.length x.dc)∧w'.cell? ⟨w.heap.size,1,none⟩=some (.slice x.C x.af.length x.cc)∧w'.cell? ⟨w.heap.size,2,none⟩=some (.slice (some ⟨bi,oi,none⟩) x.insts.length x.ic)∧w'.cell? ⟨w.heap.size+1,3,none⟩=some (.slice (some ⟨bq,oq,none⟩) p.kids.length p.cap)∧w'.cell? ⟨bq,oq+j*4,none⟩=some (.int .i64 k.kind)∧w'.cell? ⟨bq,oq+j*4+1,none⟩=some (.int .i64 k.n)∧w'.cell? ⟨bq,oq+j*4+2,none⟩=some (.slice k.T k.types.length k.tc)∧w'.cell? ⟨bq,oq+j*4+3,none⟩=some (.slice k.A k.kids.length k.cap)) (first|assumption|go_keep) (first
    |(
     go_at_call 29
     refine Calls.mono (HC.o _ (by repeat(first|exact eR _|exact eA (by assumption) _|refine eA ?_ _|refine eM ?_ _ _|refine eD ?_|refine eN ?_ _))).o ?_;rintro e w6 ⟨⟨t,rfl,ht⟩,uz⟩;have X6:=aa uz;have kS:=ei.o w6 (HK.o.ext.trans uz);have D6:aiE (∀c,(Value.slice A6 ts.length c6).ownBlock=some c→az c t):=aa (fun c hc=>by
      have:=HK.o.own.lt c hc;have h9:=sR.o c (by omega);exact ht.away c (by omega) h9.1 (nG.o c h9.2 k DZ.o))
     have Qq:aiE (az (w.heap.size+1+1) t):=aa (by
      have h9:=sR.o (w.heap.size+1+1) (by omega);exact ht.away _ (by omega) h9.1 (nG.o _ h9.2 k DZ.o))
     have Qr:aiE (∀c,c<w.heap.size→(∀g∈given,az c g)→aJ c p→az c t):=aa (fun c hc h1 h2=>ht.away c (by omega) h1 (nG.o c h2 k DZ.o));have Hq:aiE (t.pure=EV k):=aa ht.is;have lH:=aa ht.gZ;have h6s:=uz.size;clear ht uz)
    |(
     refine aK _ rfl (.tmp 63) (.tmp 73) 28 rfl W8.heap.size 40 j0 _ 6 104 Tryz.underlying28 hj nB gI gM rfl (by decide) (.slice A6 ts.length c6) ts.length (ts.flatMap eY.f) rfl (aZ HK.o.own (X6.o.trans (by repeat(first|exact eR _|exact eA (by assumption) _|refine eA ?_ _|refine eM ?_ _ _|refine eD ?_|refine eN ?_ _)))) (some ⟨_,0,none⟩) 1 1 [.int .i64 t.kind,.int .i64 t.n,.string ⟨t.name.toArray⟩,.slice t.V t.vars.length t.vc,.slice t.T t.types.length t.tc,.slice t.A t.kids.length t.cap] rfl (by first|exact Row.zX _ _ _ _ _ _ (heap_alloc_new _ _)|exact Row.zX _ _ _ _ _ _ (ah _ _ _ (by simp))|exact Row.zX _ _ _ _ _ _ (bI _ _)) (by intro z hz;simp at hz;rcases hz with rfl|rfl|rfl|rfl|rfl|rfl<;>rfl) (by unfold maxLen;omega) (by omega) (aiM (aiM hwr h6s) (Ext.size (by repeat(first|exact eR _|exact eA (by assumption) _|refine eA ?_ _|refine eM ?_ _ _|refine eD ?_|refine eN ?_ _)))) ?_;intro v7 w7 uH Og MA;have lQ:=aa (HK.o.snoc (aiG _) (X6.o.trans (by repeat(first|exact eR _|exact eA (by assumption) _|refine eA ?_ _|refine eM ?_ _ _|refine eD ?_|refine eN ?_ _))) (lH.o.ext (by repeat(first|exact eR _|exact eA (by assumption) _|refine eA ?_ _|refine eM ?_ _ _|refine eD ?_|refine eN ?_ _))) Hq.o D6.o Qq.o Qr.o (by rw[gu,aiL];exact uH) Og (by
      rcases MA with e|e
      ·exact .inl e
      ·exact .inr (fun c hc=>by rw[e] at hc;injection hc with hc;omega)))
     have Mn:aiE (pJ w W8 w7 W8.heap.size (w.heap.size+1+1) given p ((p.kids.take (j+1)).map EV) (ts++[t]) v7):=aa (by rw[dh.o,aiX];exact lQ.o);have IA:aiE ((ts++[t]).length=j+1):=aa (by have:=pQ.o;simp[this]);have kS:=ei.o w7 Mn.o.ext;clear uH Og MA lQ))
   go_wp2;go_roundw
   case rel=>exact⟨j+1,ts++[t],hlt,by go_num,IA,Mn⟩
   case measure=>simp[intOf];omega
  ·have bS:¬(j:Int)<(p.kids.length:Int):=by omega
   have pL:aiE (pJ w W8 wr W8.heap.size (w.heap.size+1+1) given p (p.kids.map EV) ts u12):=aa (by have:=HK.o;rwa [aiK (by omega)] at this);have Uy:aiE (∀w',Ext W8 w'→w'.cell? ⟨W.heap.size,0,none⟩=some (.string ⟨y.cls.toArray⟩)∧w'.cell? ⟨W.heap.size,1,none⟩=some (.string ⟨y.aq.toArray⟩)∧w'.cell? ⟨w.heap.size+1,2,none⟩=some (.slice p.T p.types.length p.tc)):=aa (fun w' e=>⟨e.cell (ag D8.o 0),e.cell (ag D8.o 1),(X8.o.trans e).cell sq.o.1⟩);have HIr:aiE (∀w',Ext wr w'→aiE (Calls Tryz.prog 50 #[.agg #[.int .i64 1,.int .i64 0,.string ⟨nm.toArray⟩,.slice none 0 0,.slice none 0 0,.slice none 0 0],.slice p.T p.types.length p.tc] w' fun e w''=>(∃F,e=.returned (bz F)∧aQ w'' F∧F.pure=oZ (.mk 1 0 nm [] [] []) p.types∧(∀c,c<wr.heap.size→jZ c p.T p.types.length→(∀x∈p.types,aC c x=true)→az c F)∧(wr.heap.size<w'.heap.size→az wr.heap.size F))∧Ext w' w''∧Ext wr w'')):=aa (fun w' e=>aa ((HI.o w' (XR.o.trans e)).o.mono (by
    rintro e2 w'' ⟨⟨F,NQ,h1,h2,h3⟩,hx⟩;have h4:=HTo.o wr.heap.size (by have:=X0.o.size;omega);exact⟨⟨F,NQ,h1,h2,fun c hc k1 k2=>h3 c (Nat.lt_of_lt_of_le hc e.size) k1 k2,fun hl=>h3 _ hl h4.1 h4.2⟩,hx,e.trans hx⟩)))
   obtain⟨s0,s1,s2⟩:=Uy.o wr pL.o.ext;have KP:W.heap.size<wr.heap.size:=by omega
   have Xh:W.heap.size≠wr.heap.size:=by omega
   have ki1:w.heap.size+1≠wr.heap.size:=by omega
   clear HK HT;go_upto_region 13 with fail
   go_cut [14] (fun Su wx=>∃(QA:Nat) (F:Tm),Su=.pointer (some ⟨QA,0,none⟩)∧aiE (ya wr wx QA F)∧aiE (F.pure=oZ (.mk 1 0 nm [] [] []) p.types)∧aiE (∀c,c<wr.heap.size→jZ c p.T p.types.length→(∀x∈p.types,aC c x=true)→az c F))
   case first=>
    go_region_held3 (fun w'=>w'.cell? ⟨W.heap.size,0,none⟩=some (.string ⟨y.cls.toArray⟩)∧w'.cell? ⟨W.heap.size,1,none⟩=some (.string ⟨y.aq.toArray⟩)∧w'.cell? ⟨w.heap.size+1,2,none⟩=some (.slice p.T p.types.length p.tc)) (first|with_reducible assumption|(obtain⟨g0,g1,g2⟩:=kS;first|with_reducible exact⟨dR Xh _ _ _ _ _ _ g0,dR Xh _ _ _ _ _ _ g1,dR ki1 _ _ _ _ _ _ g2⟩|with_reducible exact⟨jG Xh _ _ _ _ _ _ g0,jG Xh _ _ _ _ _ _ g1,jG ki1 _ _ _ _ _ _ g2⟩)|go_keep) (first
     |(
      go_at_call 51
      refine Calls.mono (HN.o _) ?_;rintro e y1 ⟨rfl,rfl⟩)
     |(
      go_at_call 50
      refine Calls.mono (HIr.o _ (by repeat(first|exact eR _|exact eA (by assumption) _|refine eA ?_ _|refine eM ?_ _ _|refine eD ?_|refine eN ?_ _))).o ?_;rintro e y2 ⟨⟨F,rfl,ZI,hF2,hF3,hF4⟩,hx,ha⟩;have EA:=aa ha;have kS:=Uy.o y2 (pL.o.ext.trans EA.o)
      first
       |(have hz:=aa ((hx.heap (ae (bI wr _))).trans (bI wr _));obtain⟨z0,z1,z2,z3,z4,z5,gC,gD,gF,gH,vV,vW⟩:=bB hz.o;have hzl:=ae hz.o)
       |(have hz:=aa ((hx.heap (ae (ah wr _ _ rfl))).trans (ah wr _ _ rfl));obtain⟨z0,z1,z2,z3,z4,z5,gC,gD,gF,gH,vV,vW⟩:=bB hz.o;have hzl:=ae hz.o)
       |skip))
    all_goals (go_wp2_with fail;go_meet;first|refine⟨y2.heap.size,F,rfl,?_,aa hF2,aa hF3⟩|refine⟨wr.heap.size,F,rfl,?_,aa hF2,aa hF3⟩)
    ·have hA:=ya.behind EA.o ZI;exact aa hA
    ·have ha:=hF4 (by simp);have hA:=ya.ahead EA.o (aiG _) hz.o ZI ha;exact aa hA
    ·have ha:=hF4 (by simp);have hA:=ya.ahead EA.o (aiG _) hz.o ZI ha;exact aa hA
   case rest=>
    obtain⟨QA,F,rfl,Sv,Qp,La⟩:=hcut;have ZJ:=aa Sv.o.x;obtain⟨A6,c6,hv,l1,l2,hrow,-⟩:=ak.own eY (l:=ts) (aZ pL.o.own Sv.o.x);subst hv;have ZK:=aa (fun t ht=>(pL.o.gZ t ht).ext Sv.o.x);have HC:=aa (IY A6 c6 ts F wc ⟨hrow,ZK.o⟩ Sv.o.gZ (by have:=pQ.o;omega));obtain⟨d0,d1,d2,d3,d4,d5⟩:=Sv.o.box.cells;have d6:=Sv.o.box.lt;unfold bz at HC;clear hrow s0 s1 s2 HI HIr HN;go_wp2_with fail;refine HC.o.mono ?_;rintro e w9 ⟨⟨u,rfl,Ea,zi,FK⟩,hx⟩;have X9:=aa (X0.o.trans (XR.o.trans (ZJ.o.trans hx)));have B9:aiE (w9.heap[w.heap.size+1+1]?=some (.cells #[.int .i64 0,.int .i64 0,.string ⟨#[]⟩,.slice none 0 0,.slice none 0 0,.slice none 0 0] 40)):=aa (((XR.o.trans (ZJ.o.trans hx)).heap (ae B3.o)).trans B3.o);have Ov:=sR.o (w.heap.size+1+1) (by omega);have hxs:=ZJ.o.size;have HFb:aiE (∀c,c<w.heap.size+3→aJ c p→az c F):=aa (fun c hc h=>La.o c (by omega) (HTp.o c h).1 (HTp.o c h).2);have FE:=aa (FK (w.heap.size+1+1) (by omega) (HFb.o _ (by omega) Ov.2) (fun t ht=>pL.o.res t ht));have HE:aiE (sO w (cC w9 (w.heap.size+1+1) u) given p QQ u):=aa ⟨Ea.grown (bh _ _ _) (fun c e=>by injection e with e;subst e;exact FE.o),by rw[zi,Xf.o,←pL.o.is,←Qp.o,List.foldl_map];rfl,fun c hc h1 h2=>FK c (by omega) (HFb.o c (by omega) h2) (fun t ht=>pL.o.away t ht c hc h1 h2)⟩;have XG:=aa (bk X9.o (by omega:w.heap.size≤w.heap.size+1+1) u);obtain⟨z0,z1,z2,z3,z4,z5,gC,gD,gF,gH,vV,vW⟩:=bB B9.o;have hz:=ae B9.o;clear Ea zi FK hx HC d0 d1 d2 d3 d4 d5 d6 FE Ov;go_wp2;refine bodyPost_ret (v:=bz u) ?_ rfl ⟨⟨u,rfl,HE.o⟩,XG.o⟩;simp[results,Tryz.f29,go_sem,z0,z1,z2,z3,z4,z5]
set_option maxRecDepth 512
set_option maxHeartbeats 200000
theorem Eh (x:di) (P:Option Addr) (pc:Nat) (preds:List Pd) (L:Option Addr) (lc:Nat) (given:List Tm) (hpl:∀y∈x.insts,y.preds.length≤40000) (zh:∀d∈preds,d.ty.size≤900000) (p:Pf):p.size≤1000000→jX p=true→fR p=true→Qj x P pc preds L lc given p:=by
 induction p using Pf.ind with
 |h p ih=>
 intro hsz hwd hsm w he hP hL hp hq;have IH:∀k∈p.kids,Qj x P pc preds L lc given k:=fun k hk=>ih k hk (by have:=Pf.cF hk;omega) ((kv hwd).2.2 k hk) ((gV hsm).2 k hk)
 obtain⟨q,Lb⟩:=Option.isSome_iff_exists.1 hq
 rcases eB Lb with ⟨h,-⟩|⟨h,-⟩|⟨h,-⟩
 ·exact q8 x P pc preds L lc given p h w he hP hL hp hq
 ·exact ra x P pc preds L lc given p h hpl zh hsz hwd hsm IH w he hP hL hp hq
 ·exact th x P pc preds L lc given hpl p h IH w he hP hL hp hq
namespace Tm.Pure
end Tm.Pure
end Go.Proofs.YtigafbmabjglfaaGreatDoor
