import Derived.Test.YtigafbmabjglfaaGreatDoorJT22
import Derived.Lib.Strings
import Derived.Lib.Builder
import Derived.Lib.AppendStr
import Derived.Lib.UnsafeStr
namespace Go.Proofs.YtigafbmabjglfaaGreatDoor
open Go.RowKit
theorem wG : (Tryz.prog.info? 237).map (·.size)=some 2:=by kernel_rfl
theorem FQ : liesAt Tryz.prog Tryz.prog.depth 237 (2 / Tryz.prog.cellsOf 237) 0 237 1=true:=by kernel_rfl
set_option maxRecDepth 100000 in
set_option maxHeartbeats 1000000 in
theorem uy (b:Nat) (w:World) (h0:w.cell? ⟨b,0,none⟩=some (.pointer (some ⟨b,0,none⟩))) :
  Calls Tryz.prog 200 #[.pointer (some ⟨b,0,none⟩)] w fun e w'=>e=.returned (.tuple #[])∧w'=w:=by
 obtain⟨j,hj,_⟩:=Option.map_eq_some_iff.1 wG;go_enter Tryz.func200,Tryz.ntmps200;go_wp2;rw[Lib.run_neq_ptr_same w _ Tryz.underlying235 hj];go_wp2
 go_end0
 exact⟨rfl,rfl⟩
set_option maxRecDepth 100000 in
set_option maxHeartbeats 1000000 in
theorem rE (b:Nat) (w:World) (h0:w.cell? ⟨b,0,none⟩=some (.pointer none)) (hsh:w.shape? b=some (237,2)) (hfz:w.frozen? ⟨b,0,none⟩=false) :
  Calls Tryz.prog 200 #[.pointer (some ⟨b,0,none⟩)] w fun e w'=>e=.returned (.tuple #[])∧w'=w.setCell ⟨b,0,none⟩ (.pointer (some ⟨b,0,none⟩)):=by
 obtain⟨j,hj,Vf⟩:=Option.map_eq_some_iff.1 wG;go_enter Tryz.func200,Tryz.ntmps200;go_wp2;rw[Lib.run_to_unsafe w ⟨b,0,none⟩ Tryz.underlying235 Tryz.underlying180 hj (by rw[Vf];decide) hsh (Nat.zero_lt_succ 1)];simp only[Result.andThen];rw[Oper.upon_value];go_wp2;rw[run_callFunc_extern Tryz.func226 (by kernel_rfl) (by kernel_rfl) (by kernel_rfl) (e:=Extern.AbiNoEscape.same) (by kernel_rfl)];rw[Lib.run_noEscape];simp only[Result.andThen];rw[Oper.upon_value];go_wp2;rw[Lib.run_from_unsafe w ⟨b,0,none⟩ Tryz.underlying180 Tryz.underlying235 hj hsh FQ];simp only[Result.andThen];rw[Oper.upon_value];go_wp2
 go_end0
 exact⟨rfl,rfl⟩
theorem KD (B b:Nat) (bs:List Value) (w:World) (h:Lib.IsBuilder 237 5 B b bs w) :
  Calls Tryz.prog 200 #[.pointer (some ⟨b,0,none⟩)] w fun e w'=>e=.returned (.tuple #[])∧(Lib.BuilderAt 237 5 B b (.pointer (some ⟨b,0,none⟩)) bs w'∧Below B w w'):=by
 rcases h with h|h
 ·refine(rE b w h.cell0 h.shape h.frozen0).mono ?_;rintro e w' ⟨rfl,rfl⟩;exact⟨rfl,h.used _,(Below.refl B w).setCell (p:=⟨b,0,none⟩) h.1 _⟩
 ·refine(uy b w h.cell0).mono ?_;rintro e w' ⟨rfl,rfl⟩;exact⟨rfl,h,Below.refl B _⟩
theorem Cq : (Tryz.prog.info? 5).map (fun i=>(i.zero,i.size,i.bytes))=some (some (.int .u8 0),1,1):=by kernel_rfl
set_option maxRecDepth 100000 in
set_option maxHeartbeats 2000000 in
theorem KE (B b:Nat) (bs:List Value) (s:ByteArray) (w:World) (h:Lib.IsBuilder 237 5 B b bs w) (hlen:bs.length+s.size≤140737488355328) (hBw:B≤w.heap.size) :
  Calls Tryz.prog 160 #[.pointer (some ⟨b,0,none⟩),.string s] w fun e w'=>e=.returned (.tuple #[.int .i64 s.size,.nilIface])∧(Lib.BuilderAt 237 5 B b (.pointer (some ⟨b,0,none⟩)) (bs++Lib.strCells s) w'∧Below B w w'):=by
 obtain⟨i0,hi,hz0,hz1,hz2⟩:=info_parts Cq;have HC:=aa (KD B b bs w h);clear h;go_enter Tryz.func160,Tryz.ntmps160;go_wp2_with fail;refine HC.o.mono ?_;rintro e w1 ⟨rfl,h1,hb1⟩;obtain⟨hB,v,KF,hown,hne⟩:=h1;have c0:w1.cell? ⟨b,0,none⟩=some (.pointer (some ⟨b,0,none⟩)):=by rw[Lib.cell_of_heap KF];rfl
 have c1:w1.cell? ⟨b,1,none⟩=some v:=by rw[Lib.cell_of_heap KF];rfl
 go_wp2_with (at_builtin;refine Lib.wpList_append_own_string _ rfl _ _ 125 9 rfl B 5 i0 Tryz.underlying125 Tryz.underlying9 hi hz0 hz1 hz2 _ _ _ rfl hown s rfl ?c3 ?c4 ?c5 ?_)
 case c3=>unfold maxLen;omega
 case c4=>omega
 case c5=>have:=hb1.size;omega
 intro v' w2 hown' hgrow _;have hlt:b<w1.heap.size:=ae KF;have hb2:w2.heap[b]?=some (.cells #[.pointer (some ⟨b,0,none⟩),v] 237 (0,0)):=by
  rw[hgrow.block b hlt (fun e=>hne e.symm)];exact KF
 have d0:w2.cell? ⟨b,0,none⟩=some (.pointer (some ⟨b,0,none⟩)):=by rw[Lib.cell_of_heap hb2];rfl
 have d1:w2.cell? ⟨b,1,none⟩=some v:=by rw[Lib.cell_of_heap hb2];rfl
 have f1:w2.frozen? ⟨b,1,none⟩=false:=Lib.frozen_of_heap hb2 1;obtain⟨ao,n',cap,rfl⟩:∃ao n' cap,v'=.slice ao n' cap:=by
  rcases hown'.2 with ⟨hv,_⟩|⟨g,cap,cur,hv,_⟩
  ·exact⟨_,_,_,hv⟩
  ·exact⟨_,_,_,hv⟩
 go_wp2;go_ret2;refine⟨rfl,?_,?_⟩
 ·exact Lib.BuilderAt.put (T:=237) (e:=5) hB hb2 (bs':=bs++Lib.strCells s) (by simpa [Lib.strCells_length] using hown') (by decide)
 ·exact(hb1.grown hgrow (by have:=hb1.size;omega) (fun k hk=>(hown.lt k hk).1)).setCell (p:=⟨b,1,none⟩) hB _
set_option maxRecDepth 100000 in
set_option maxHeartbeats 2000000 in
theorem FR (B b:Nat) (l:List UInt8) (w:World) (h:Lib.IsBuilder 237 5 B b (Lib.byteCells l) w) (h0:l≠[]) :
  Calls Tryz.prog 161 #[.pointer (some ⟨b,0,none⟩)] w fun e w'=>e=.returned (.string ⟨l.toArray⟩)∧Below B w w':=by
 obtain⟨p,hB,v,KF,hown,hne⟩:∃p,Lib.BuilderAt 237 5 B b p (Lib.byteCells l) w:=by
  rcases h with h|h
  ·exact⟨_,h⟩
  ·exact⟨_,h⟩
 have hl0:l.length≠0:=by simpa using h0
 rw[Lib.byteCells_length] at hown;obtain⟨g,cap,cur,rfl,hbg,hg,Zy,hcm,hcs,aax⟩:∃g cap cur,v=.slice (some ⟨g,0,none⟩) l.length cap∧B≤g∧w.heap[g]?=some (.cells cur 5 (0,0))∧l.length≤cap∧cap≤maxLen∧cur.size=cap*1∧cur.toList.take (l.length*1)=Lib.byteCells l:=by
  rcases hown.2 with ⟨_,hz⟩|⟨g,cap,cur,hv,r⟩
  ·exact absurd hz hl0
  ·exact⟨g,cap,cur,hv,r⟩
 have c1:w.drew.cell? ⟨b,1,none⟩=some (.slice (some ⟨g,0,none⟩) l.length cap):=by
  have:w.drew.heap[b]?=some (.cells #[p,.slice (some ⟨g,0,none⟩) l.length cap] 237 (0,0)):=KF;rw[Lib.cell_of_heap this];rfl
 have hSD:(Builtin.unsafeSliceData_ #[125] 279 #[.slice (some ⟨g,0,none⟩) l.length cap]).run Tryz.prog w.drew=.ok (.pointer (some ⟨g,0,none⟩)) w.drew:=
  Lib.run_unsafeSliceData_row _ _ _ _ _ _ (by omega)
 have hUS:(Builtin.unsafeString_ #[279,3] 9 #[.pointer (some ⟨g,0,none⟩),.int .i64 l.length]).run Tryz.prog w.drew=.ok (.string ⟨l.toArray⟩) (w.drew.freeze ⟨g,0,none⟩ l.length):=by
  refine Lib.run_unsafeString_row w.drew 279 3 9 5 Tryz.underlying279 (by kernel_rfl) g cur.size (by have BC:w.drew.heap[g]?=some (.cells cur 5 (0,0)):=hg;simp[World.shape?,BC]) l h0 (by omega) (by unfold maxLen at hcm;omega) ?_;intro j x hx;have:=hown.cells (g:=g) rfl j (.int .u8 x.toNat) (by simp[Lib.byteCells,hx]);exact this
 go_enter Tryz.func161,Tryz.ntmps161;go_wp2
 go_region
 all_goals (go_wp2;go_ret;exact⟨rfl,Lib.below_freeze (Below.drew (Below.refl B w)) (p:=⟨g,0,none⟩) hbg _⟩)
theorem yN {v:Int}(h1:v≤9223372036854775807):(letter v).length≤30:=by
 unfold letter
 split
 ·simp
 ·rw[ahy]
  split
  ·simp
  ·have:=oN (show v.toNat / 26≤9223372036854775807 by omega);omega
theorem FT {v:Int}(h0 : -9223372036854775808≤v) (h1:v≤9223372036854775807):(gW v).length≤30:=by
 unfold gW
 split
 ·exact yN h1
 ·have:=oN (show(-1 - v).toNat≤9223372036854775807 by omega);rw[ahy];omega
theorem KG (v:Int):gW v≠[]:=by
 unfold gW
 split
 ·unfold letter;rw[if_neg (by omega)];simp
 ·simp
theorem KH {v:Int}(h:0≤v):gW v=letter v:=by unfold gW;rw[if_pos h]
theorem FU {v:Int}(h:v<0):gW v=[63]++bV (-1 - v).toNat:=by unfold gW;rw[if_neg (by omega)];rfl
def uz (v:Int):Ty:=.mk [] v none 0 []
theorem KI (w:World) (v:Int):aC w (uz v):=aC.of (ahj _) (by omega) (by decide) (ak.nil _ _ _) (by simp)
theorem sR (v:Int):(uz v).size=1:=by rw[Ty.size_eq];rfl
theorem yO (v:Int):az (uz v)=true:=by
 have h1:=sR v;have h2:(uz v).depth=1:=by rw[Ty.aN];rfl
 have h3:bE (uz v)=true:=by unfold bE;rw[fX];rfl
 unfold az;rw[h1,h2,h3];rfl
set_option maxRecDepth 10000
set_option maxHeartbeats 8000000
theorem Oq (v:Int) (n:Nat) (h0 : -9223372036854775808≤v) (h1:v≤9223372036854775807) (w:World):Calls Tryz.prog 206 #[.agg #[.string ⟨#[]⟩,.int .i64 v,.int .i64 n]] w fun e w'=>e=.returned (encStr (gW v))∧Ext w w':=by
 have X0:ahg (Ext w (w.alloc (.cells #[.string ⟨#[]⟩,.int .i64 v,.int .i64 n] 246))):=aa ((eR w).alloc _);obtain⟨c0,c1,c2⟩:=QJ (w.alloc (.cells #[encStr [],.int .i64 v,.int .i64 n] 246)) w.heap.size [] v n (ah _ _ _ rfl);unfold encStr at c0
 by_cases hv:0≤v
 ·have hv':decide (v≥0)=true:=decide_eq_true hv;have HN:=aa (fun w'=>FP v h1 w');rw[KH hv];generalize letter v=s at *;go_enter Tryz.func206,Tryz.ntmps206;go_wp2_with fail;refine(HN.o _).mono ?_;rintro e w2 ⟨rfl,hx⟩;go_wp2;go_ret;exact⟨rfl,X0.o.trans hx⟩
 ·have hv':decide (v≥0)=false:=decide_eq_false hv;obtain⟨m,hm⟩:∃m:Nat,-1 - v=m:=⟨(-1 - v).toNat,by omega⟩;have HT:=aa (fun w'=>pB m (by omega) w');have Me:=aa (oN (show m≤9223372036854775807 by omega));have e1:(-1 - v).toNat=m:=by omega
  rw[FU (by omega),e1];generalize bV m=s at *;go_enter Tryz.func206,Tryz.ntmps206;go_wp2_with fail;refine(HT.o _).mono ?_;rintro e w2 ⟨rfl,hx⟩;have hsz:¬((⟨#[63]⟩:ByteArray).size+(⟨s.toArray⟩:ByteArray).size>9223372036854775807):=by have:=Me.o;rw[aB s];show ¬(1+s.length>_);omega
  go_wp2;go_ret;refine⟨?_,X0.o.trans hx⟩;exact congrArg (fun b=>Ending.returned (Value.string b)) (ByteArray.mk_append_mk [63] s)
theorem KJ (v:Int) (h0 : -9223372036854775808≤v) (h1:v≤9223372036854775807) (w:World):Calls Tryz.prog 169 #[.agg #[.string ⟨#[]⟩,.int .i64 v,.slice none 0 0]] w fun e w'=>e=.returned (encStr (gW v))∧Ext w w':=by
 obtain⟨W,hW⟩:∃W,W=(w.alloc (.cells #[.string ⟨#[]⟩,.int .i64 v,.slice none 0 0] 53)).alloc (.cells #[.pointer none,.slice none 0 0] 237):=⟨_,rfl⟩;have X0:ahg (Ext w W):=aa (by rw[hW];exact((eR w).alloc _).alloc _);have hsz:W.heap.size=w.heap.size+2:=by rw[hW];simp
 have XB:ahg (W.heap[w.heap.size]?=some (.cells #[.string ⟨#[]⟩,.int .i64 v,.slice none 0 0] 53 (0,0))):=aa (by rw[hW];exact((eR _).alloc _).heap (by simp)|>.trans (ah _ _ _ rfl));have BB:ahg (W.heap[w.heap.size+1]?=some (.cells #[.pointer none,.slice none 0 0] 237 (0,0))):=aa (by rw[hW];exact ah _ _ _ (by simp));have HO:=aa (fun w'=>JB (uz v) w');have HN:=aa (fun w'=>Oq v 0 h0 h1 w');unfold rW uz bh at HO;simp only[Ty.aq,Ty.var,Ty.A,Ty.cap,Ty.args,List.length_nil,encStr] at HO;have HL:=aa (FT h0 h1);have HE:=aa (KG v);generalize gW v=s at *;have b0:(w.alloc (.cells #[.string ⟨#[]⟩,.int .i64 v,.slice none 0 0] 53)).cell? ⟨w.heap.size,0,none⟩=some (.string ⟨#[]⟩):=af (ah _ _ _ rfl) 0;have c0:=af XB.o 0;have c1:=af XB.o 1;have c2:=af XB.o 2;simp only[ahp,ahq,ahr] at c0 c1 c2;go_enter Tryz.func169,Tryz.ntmps169;go_wp2_with fail;rw[←hW];clear b0 hW;refine(HO.o _).mono ?_;rintro e w2 ⟨rfl,hx2⟩;have X2:=aa hx2;clear hx2;go_wp2_with fail;refine(HN.o _).mono ?_;rintro e w3 ⟨rfl,hx3⟩;have X3:=aa (X2.o.trans hx3);have IB:Lib.IsBuilder 237 5 (w.heap.size+1) (w.heap.size+1) [] w3:=.inl ⟨ahi _,_,(X3.o.heap (by omega)).trans BB.o,World.ownsRow_nil _ _ _ _,fun e=>by cases e⟩;have hs3:=X3.o.size;have HW:=aa (KE (w.heap.size+1) (w.heap.size+1) [] ⟨s.toArray⟩ w3 IB (by have:=HL.o;rw[aB];show 0+s.length≤_;omega) (by omega));clear IB hx3;go_wp2_with fail;refine HW.o.mono ?_;rintro e w4 ⟨rfl,hb4,eP⟩;rw[List.nil_append,Lib.strCells_eq] at hb4;have XB4:ahg (w4.heap[w.heap.size]?=some (.cells #[.string ⟨#[]⟩,.int .i64 v,.slice none 0 0] 53 (0,0))):=aa ((eP.block _ (by omega)).trans ((X3.o.heap (by omega)).trans XB.o));have HS:=aa (FR (w.heap.size+1) (w.heap.size+1) s w4 (.inr hb4) HE.o);have X4:ahg (Below w.heap.size w w4):=aa ((X0.o.trans X3.o).below.trans (eP.mono (by omega)));clear hb4 eP c0 c1 c2;have c2:=af XB4.o 2;simp only[ahp,ahq,ahr] at c2;go_wp2
 go_loopw [34] (fun i wr=>i=.int .i64 0∧wr=w4) (fun _ _=>0)
 case atStart=>exact⟨rfl,rfl⟩
 case round=>
  obtain⟨rfl,rfl⟩:=hrel;go_wp2_with fail;refine HS.o.mono ?_;rintro e w5 ⟨rfl,jB⟩;go_wp2;go_ret;exact⟨rfl,Ext.cg (X4.o.trans (jB.mono (by omega))) (ahi _)⟩
theorem KL (v:Int) (h0 : -9223372036854775808≤v) (h1:v≤9223372036854775807) (w:World):Calls Tryz.prog 121 #[.agg #[.string ⟨#[]⟩,.int .i64 v,.slice none 0 0]] w fun e w'=>e=.returned (encStr (gW v))∧Ext w w':=by
 have X0:ahg (Ext w (w.alloc (.cells #[.string ⟨#[]⟩,.int .i64 v,.slice none 0 0] 53))):=aa ((eR w).alloc _);have HB:ahg (∀w',Ext (w.alloc (.cells #[.string ⟨#[]⟩,.int .i64 v,.slice none 0 0] 53)) w'→w'.cell? ⟨w.heap.size,0,none⟩=some (.string ⟨#[]⟩)∧w'.cell? ⟨w.heap.size,1,none⟩=some (.int .i64 v)∧w'.cell? ⟨w.heap.size,2,none⟩=some (.slice none 0 0)):=aa (fun w' e=>⟨e.cell (af (ah _ _ _ rfl) 0),e.cell (af (ah _ _ _ rfl) 1),e.cell (af (ah _ _ _ rfl) 2)⟩);obtain⟨c0,c1,c2⟩:=HB.o _ (eR _);have HL:=aa (fun w'=>oG (uz v) w' (KI w' v) (by rw[sR];omega));have HT:=aa (fun w'=>KJ v h0 h1 w');rw[yO] at HL;unfold uz bh at HL;simp only[Ty.aq,Ty.var,Ty.A,Ty.cap,Ty.args,List.length_nil,encStr] at HL;go_enter Tryz.func121,Tryz.ntmps121;go_wp2_with fail;refine(HL.o _).mono ?_;rintro e w2 ⟨rfl,hx2⟩;have X2:=aa hx2;obtain⟨d0,d1,d2⟩:=HB.o _ X2.o;clear hx2 c0 c1 c2;go_wp2_with fail;refine(HT.o _).mono ?_;rintro e w3 ⟨rfl,hx3⟩;go_wp2;go_ret;exact⟨rfl,X0.o.trans (X2.o.trans hx3)⟩
set_option maxRecDepth 512
set_option maxHeartbeats 200000
noncomputable def ng : Ty→Bool:=Ty.oY fun t=>decide (-9223372036854775808≤t.var∧t.var≤9223372036854775807∧t.aq.length≤140737488351232)
theorem qh (t:Ty):ng t=(decide (-9223372036854775808≤t.var∧t.var≤9223372036854775807∧t.aq.length≤140737488351232)&&t.args.all ng):=fX _ t
theorem FV {s:aj}{v:Int}{A:Option Addr}{c:Nat}{l:List Ty}(h1 : -9223372036854775808≤v) (h2:v≤9223372036854775807) (h3:s.length≤140737488351232) (h:∀k∈l,ng k=true):ng (.mk s v A c l)=true:=by
 rw[qh,ahv];exact⟨decide_eq_true ⟨h1,h2,h3⟩,List.all_eq_true.2 h⟩
theorem FW {t:Ty}(h:ng t=true) : -9223372036854775808≤t.var:=by
 rw[qh,ahv] at h;exact(of_decide_eq_true h.1).1
theorem FX {t:Ty}(h:ng t=true):t.var≤9223372036854775807:=by
 rw[qh,ahv] at h;exact(of_decide_eq_true h.1).2.1
theorem KM {t:Ty}(h:ng t=true):t.aq.length≤140737488351232:=by
 rw[qh,ahv] at h;exact(of_decide_eq_true h.1).2.2
theorem kJ {t:Ty}(h:ng t=true){k:Ty}(hk:k∈t.args):ng k=true:=by
 rw[qh,ahv] at h;exact List.all_eq_true.1 h.2 k hk
def dB (t:Ty):aj:=if t.aq=[] then gW t.var else t.aq
theorem wH {n:Nat}(h:n≤9223372036854775807):(bV n).length≤20:=iB 19 n (Nat.lt_of_le_of_lt h (by decide))
theorem yP {v:Int}(h0 : -9223372036854775808≤v) (h1:v≤9223372036854775807):(gW v).length≤30:=by
 unfold gW
 split
 ·unfold letter
  split
  ·simp
  ·rw[ahy]
   split
   ·simp
   ·have:=wH (show v.toNat / 26≤9223372036854775807 by omega);omega
 ·have:=wH (show(-1 - v).toNat≤9223372036854775807 by omega);rw[ahy];omega
theorem sS {t:Ty}(h:ng t=true):(dB t).length≤140737488351232:=by
 unfold dB
 split
 ·exact aho (yP (FW h) (FX h)) (by decide)
 ·exact KM h
theorem sU (b:Bool) (s:aj):(gu b s).length≤s.length+2:=by
 unfold gu
 split
 ·simp
 ·omega
theorem sV (l:List Ty) (h:∀k∈l,(bY k).length+3≤140737488351272*k.size):(cI l).length≤140737488351272*(l.map Ty.size).sum:=by
 unfold cI
 induction l with
 |nil=>simp
 |cons k l ih=>
  have h1:=h k (List.mem_cons_self);have h2:=ih (fun x hx=>h x (List.mem_cons_of_mem _ hx));have h3:=sU (decide (0<k.args.length)) (bY k);rw[List.map_cons,List.flatten_cons,ahn,ahn,List.map_cons,List.sum_cons,Nat.mul_add];simp only[ahy,List.length_nil];omega
theorem sW (t:Ty):ng t=true→(bY t).length+3≤140737488351272*t.size:=by
 induction t using Ty.ind with
 |h t ih=>
 intro ok;have hk:∀k∈t.args,(bY k).length+3≤140737488351272*k.size:=fun k hk=>ih k hk (kJ ok hk)
 by_cases h:t.aq=[45,62]∧t.args.length=2
 ·obtain⟨hc,hl⟩:=h;rw[rV hc (by omega) (by omega) hl,Ty.size_eq];obtain⟨a,b,hab⟩:∃a b,t.args=[a,b]:=by
   match t.args,hl with
   | [a,b],_=>exact⟨a,b,rfl⟩
  simp only[hab,List.getElem_cons_zero,List.getElem_cons_succ] at hk ⊢;have h1:=hk a (by simp);have h2:=hk b (by simp);have h3:=sU (decide (a.aq=[45,62])) (bY a);simp only[ahn,ahy,List.length_nil,List.map_cons,List.map_nil,List.sum_cons,List.sum_nil];omega
 ·rw[lG h,Ty.size_eq,ahn];have h1:=sV t.args hk;have h2:=sS ok;unfold dB at h2;omega
theorem nB {t:Ty}(h:ng t=true) (hs:t.size≤20000):(bY t).length≤3000000000000000000:=by
 have:=sW t h;omega
theorem Cr {t:Ty}(h:ng t=true) (hs:t.size≤20000) (k:Nat):(dB t++cI (t.args.take k)).length≤3000000000000000000:=by
 have h1:=sV (t.args.take k) (fun x hx=>sW x (kJ h (List.mem_of_mem_take hx)));have h2:=sS h;have h3:((t.args.take k).map Ty.size).sum≤(t.args.map Ty.size).sum:=by
  have e:(t.args.map Ty.size).sum=((t.args.take k).map Ty.size).sum+((t.args.drop k).map Ty.size).sum:=by
   rw[←List.sum_append_nat,←ahz,List.take_append_drop]
  omega
 have h4:=Ty.size_eq t;rw[ahn];omega
set_option maxRecDepth 10000
set_option maxHeartbeats 8000000
theorem Ot (t:Ty) (w:World) (ok:ng t=true):Calls Tryz.prog 74 #[bh t] w fun e w'=>e=.returned (encStr (dB t))∧Ext w w':=by
 have HB:=aa (aP.new w t);have X0:ahg (Ext w (w.alloc (.cells #[encStr t.aq,.int .i64 t.var,.slice t.A t.args.length t.cap] 53))):=aa ((eR w).alloc _);have c0:=HB.o.c0;have c1:=HB.o.c1;have HT:=aa (fun w'=>KL t.var (FW ok) (FX ok) w');have HH:ahg (dB t=if t.aq=[] then gW t.var else t.aq):=aa rfl;clear ok;generalize dB t=R at *;unfold bh at *;cases hc:(t.aq == [])
 ·have hc2:(t.aq != [])=true:=by unfold bne;rw[hc];rfl
  have hR:R=t.aq:=by rw[HH.o,if_neg (by simpa using hc)]
  clear HH;subst hR;go_enter Tryz.func74,Tryz.ntmps74;go_wp2;go_ret;exact⟨rfl,X0.o⟩
 ·have hc2:(t.aq != [])=false:=by unfold bne;rw[hc];rfl
  have hR:R=gW t.var:=by rw[HH.o,if_pos (by simpa using hc)]
  clear HH;subst hR;generalize gW t.var=R at *;go_enter Tryz.func74,Tryz.ntmps74;go_wp2_with fail;refine(HT.o _).mono ?_;rintro e w2 ⟨rfl,hx⟩;go_wp2;go_ret;exact⟨rfl,X0.o.trans hx⟩
theorem yQ (t:Ty) (hl:(bY t).length≤3000000000000000000) (HT0:∀w,aC w t→Calls Tryz.prog 45 #[bh t] w fun e w'=>e=.returned (encStr (bY t))∧Ext w w') (b:Bool) (w:World) (h:aC w t) :
  Calls Tryz.prog 73 #[bh t,.bool b] w fun e w'=>e=.returned (encStr (gu b (bY t)))∧Ext w w':=by
 have X0:ahg (Ext w (w.alloc (.cells #[encStr t.aq,.int .i64 t.var,.slice t.A t.args.length t.cap] 53))):=aa ((eR w).alloc _);have HT:=aa (HT0 _ (h.ext X0.o));have HL:=aa hl;clear HT0 h hl;unfold bh at *;generalize bY t=s at *;cases b
 ·go_enter Tryz.func73,Tryz.ntmps73;go_wp2_with fail;refine HT.o.mono ?_;rintro e w2 ⟨rfl,hx⟩;go_wp2;go_ret;exact⟨rfl,X0.o.trans hx⟩
 ·have h1:¬((⟨#[40]⟩:ByteArray).size+(⟨s.toArray⟩:ByteArray).size>9223372036854775807):=by have:=HL.o;rw[aB s];show ¬(1+s.length>_);omega
  have e1:(ByteArray.mk #[40]++ByteArray.mk s.toArray)=ByteArray.mk ([40]++s:aj).toArray:=ByteArray.mk_append_mk [40] s;have h2:¬((⟨([40]++s:aj).toArray⟩:ByteArray).size+(⟨#[41]⟩:ByteArray).size>9223372036854775807):=by
   have:=HL.o;rw[aB ([40]++s)];show ¬(([40]++s).length+1>_);rw[ahn];simp only[ahy,List.length_nil];omega
  have e2:(ByteArray.mk ([40]++s:aj).toArray++ByteArray.mk #[41])=ByteArray.mk ([40]++s++[41]:aj).toArray:=ByteArray.mk_append_mk ([40]++s) [41];have hb:gu true s=[40]++s++[41]:=rfl;rw[hb];generalize ([40]++s++[41]:aj)=s2 at *;generalize ([40]++s:aj)=s1 at *;go_enter Tryz.func73,Tryz.ntmps73;go_wp2_with fail;refine HT.o.mono ?_;rintro e w2 ⟨rfl,hx⟩;go_wp2;go_ret;exact⟨rfl,X0.o.trans hx⟩
theorem Ou (t:Ty):∀(w:World),aC w t→ng t=true→t.size≤20000 →
  Calls Tryz.prog 45 #[bh t] w fun e w'=>e=.returned (encStr (bY t))∧Ext w w':=by
 induction t using Ty.ind with
 |h t ih=>
 intro w h ok hsz;have IH:=aa ih;have Hk:=aa h.all;have hle:=h.le;have hmx:=h.max;have fj:=aa (aP.new w t);have X0:ahg (Ext w (w.alloc (.cells #[encStr t.aq,.int .i64 t.var,.slice t.A t.args.length t.cap] 53))):=aa ((eR w).alloc _);have sx:=aa (fun(k:Ty) (hk:k∈t.args) (b:Bool) (w':World) (e:Ext w w')=>aa (yQ k (nB (kJ ok hk) (by have:=Ty.bG hk;omega)) (fun v hv=>ih k hk v hv (kJ ok hk) (by have:=Ty.bG hk;omega)) b w' ((h.all.args k hk).ext e)));have Xm:=aa (fun(k:Ty) (hk:k∈t.args) (w':World) (e:Ext w w')=>aa (ih k hk w' ((h.all.args k hk).ext e) (kJ ok hk) (by have:=Ty.bG hk;omega)));have Qm:=aa (fun w'=>aa (Ot t w' ok));have Xo:=aa (fun k=>Cr ok hsz k);have HL:=aa (nB ok hsz);have c0:=fj.o.c0;have c1:=fj.o.c1;have c2:=fj.o.c2
 by_cases hf:t.aq=[45,62]∧t.args.length=2
 ·obtain⟨KN,hf2⟩:=hf;have h0:0<t.args.length:=by omega
  have h1:1<t.args.length:=by omega
  have HE:=aa (rV KN h0 h1 hf2);have g1:(t.aq == [45,62])=true:=by rw[KN];rfl
  have g2:((t.args.length:Int) == 2)=true:=by rw[hf2];rfl
  have i0:(0:Int)<(t.args.length:Int):=by omega
  have i1:(1:Int)<(t.args.length:Int):=by omega
  obtain⟨b,o,hA,hb,q0,q1,q2⟩:=(Hk.o.ext X0.o).at_ h0;obtain⟨b',o',hA',hb',r0,r1,r2⟩:=(Hk.o.ext X0.o).at_ h1;have Xp:(⟨b',o',none⟩:Addr)=⟨b,o,none⟩:=Option.some.inj (hA'.symm.trans hA);cases Xp;clear hA' hb';have HA:=aa (sx.o _ (ahh h0) (decide ((t.args[0]'h0).aq=[45,62])));have gy:=aa (Xm.o _ (ahh h1));have LA:=aa (nB (kJ ok (ahh h0)) (by have:=Ty.bG (ahh h0);omega));have LT:ahg ((gu (decide ((t.args[0]'h0).aq=[45,62])) (bY (t.args[0]'h0))++([32,45,62,32]:aj)++bY (t.args[1]'h1)).length≤3000000000000000000):=aa (by rw[←HE.o];exact HL.o);rw[HE.o];clear HE sx Xm Qm Xo HL LA ih ok hsz IH Hk;clear h;have hdec:decide ((t.args[0]'h0).aq=[45,62])=((t.args[0]'h0).aq == [45,62]):=by rw[Bool.eq_iff_iff];simp
  rw[hdec] at HA LT ⊢;clear hdec;obtain⟨bb,ve⟩:∃bb,bb=((t.args[0]'h0).aq == [45,62]):=⟨_,rfl⟩;rw[←ve] at HA LT ⊢;unfold bh at HA gy ⊢;rw[hA] at c2 ⊢;generalize bY (t.args[0]'h0)=ta at *;generalize bY (t.args[1]'h1)=tb at *;generalize t.args[0]'h0=ka at *;generalize t.args[1]'h1=kb at *;generalize gu bb ta=sa at *;have hs1:¬((⟨sa.toArray⟩:ByteArray).size+(⟨#[32,45,62,32]⟩:ByteArray).size>9223372036854775807):=by
   have:=LT.o;rw[aB sa];show ¬(sa.length+4>_);simp only[ahn,ahy,List.length_nil] at this;omega
  have e1:(ByteArray.mk sa.toArray++ByteArray.mk #[32,45,62,32])=ByteArray.mk (sa++([32,45,62,32]:aj):aj).toArray:=ByteArray.mk_append_mk sa ([32,45,62,32]:aj);have hs2:¬((⟨(sa++([32,45,62,32]:aj):aj).toArray⟩:ByteArray).size+(⟨tb.toArray⟩:ByteArray).size>9223372036854775807):=by
   have:=LT.o;rw[aB (sa++([32,45,62,32]:aj)),aB tb];simp only[ahn,ahy,List.length_nil] at this ⊢;omega
  have e2:(ByteArray.mk (sa++([32,45,62,32]:aj):aj).toArray++ByteArray.mk tb.toArray)=ByteArray.mk (sa++([32,45,62,32]:aj)++tb:aj).toArray:=ByteArray.mk_append_mk (sa++([32,45,62,32]:aj)) tb;have P8:¬(9223372036854775807<sa.length+4):=by rw[aB sa] at hs1;exact hs1
  have MO:¬(9223372036854775807<(sa++([32,45,62,32]:aj)).length+tb.length):=by rw[aB (sa++([32,45,62,32]:aj)),aB tb] at hs2;exact hs2
  clear LT;generalize (sa++([32,45,62,32]:aj)++tb:aj)=s2 at *;generalize (sa++([32,45,62,32]:aj):aj)=s1 at *;clear fj;have HS:ahg (∀w',Ext (w.alloc (.cells #[encStr t.aq,.int .i64 t.var,.slice (some ⟨b,o,none⟩) t.args.length t.cap] 53)) w'→(w'.cell? ⟨w.heap.size,2,none⟩=some (.slice (some ⟨b,o,none⟩) t.args.length t.cap)∧w'.cell? ⟨b,o,none⟩=some (.string ⟨ka.aq.toArray⟩)∧w'.cell? ⟨b,o+1,none⟩=some (.int .i64 ka.var)∧w'.cell? ⟨b,o+2,none⟩=some (.slice ka.A ka.args.length ka.cap)∧w'.cell? ⟨b,o+3,none⟩=some (.string ⟨kb.aq.toArray⟩)∧w'.cell? ⟨b,o+3+1,none⟩=some (.int .i64 kb.var)∧w'.cell? ⟨b,o+3+2,none⟩=some (.slice kb.A kb.args.length kb.cap))):=aa (by
   rw[hA] at q0 q1 q2 r0 r1 r2;exact fun w' e=>⟨e.cell c2,e.cell q0,e.cell q1,e.cell q2,e.cell r0,e.cell r1,e.cell r2⟩)
  rw[hA] at c0 c1 X0;clear q0 q1 q2 r0 r1 r2 c1 hb h1 hle hmx KN hA g2 i0 i1 h0;generalize t.args.length=n at *;subst hf2;go_enter Tryz.func45,Tryz.ntmps45;go_wp2;generalize (w.alloc (.cells #[encStr t.aq,.int .i64 t.var,.slice (some ⟨b,o,none⟩) 2 t.cap] 53))=w0 at *;obtain⟨p0,p1,p2,p3,p4,p5,p6⟩:=HS.o _ (eR w0);clear c0 c2
  go_region_held3 (fun w':World=>(w'.cell? ⟨w.heap.size,2,none⟩=some (.slice (some ⟨b,o,none⟩) 2 t.cap)∧w'.cell? ⟨b,o,none⟩=some (.string ⟨ka.aq.toArray⟩)∧w'.cell? ⟨b,o+1,none⟩=some (.int .i64 ka.var)∧w'.cell? ⟨b,o+2,none⟩=some (.slice ka.A ka.args.length ka.cap)∧w'.cell? ⟨b,o+3,none⟩=some (.string ⟨kb.aq.toArray⟩)∧w'.cell? ⟨b,o+3+1,none⟩=some (.int .i64 kb.var)∧w'.cell? ⟨b,o+3+2,none⟩=some (.slice kb.A kb.args.length kb.cap))) (first|assumption|(exact HS.o _ (eR w0).drew)) (first
   |(
    go_at_call 73
    rw[←ve];refine Calls.mono (HA.o _ ?e).o ?_
    case e=>first|(refine Ext.trans X0.o ?_;(repeat(first|exact eR _|exact eA (by assumption) _|refine eA ?_ _|refine eM ?_ _ _|refine eD ?_|refine eN ?_ _));done)|(refine Ext.trans (X0.o.trans X8.o) ?_;(repeat(first|exact eR _|exact eA (by assumption) _|refine eA ?_ _|refine eM ?_ _ _|refine eD ?_|refine eN ?_ _));done)
    rintro e w7 ⟨rfl,wI⟩;have X7:ahg (Ext w0 w7):=aa (by
     refine Ext.trans ?_ wI
     first|(refine Ext.trans (eR w0) ?_;(repeat(first|exact eR _|exact eA (by assumption) _|refine eA ?_ _|refine eM ?_ _ _|refine eD ?_|refine eN ?_ _));done)|(refine Ext.trans X8.o ?_;(repeat(first|exact eR _|exact eA (by assumption) _|refine eA ?_ _|refine eM ?_ _ _|refine eD ?_|refine eN ?_ _));done))
    have K7:=HS.o _ X7.o;clear wI)
   |(
    go_at_call 45
    refine Calls.mono (gy.o _ ?e).o ?_
    case e=>first|(refine Ext.trans X0.o ?_;(repeat(first|exact eR _|exact eA (by assumption) _|refine eA ?_ _|refine eM ?_ _ _|refine eD ?_|refine eN ?_ _));done)|(refine Ext.trans (X0.o.trans X7.o) ?_;(repeat(first|exact eR _|exact eA (by assumption) _|refine eA ?_ _|refine eM ?_ _ _|refine eD ?_|refine eN ?_ _));done)
    rintro e w8 ⟨rfl,qi⟩;have X8:ahg (Ext w0 w8):=aa (by
     refine Ext.trans ?_ qi
     first|(refine Ext.trans (eR w0) ?_;(repeat(first|exact eR _|exact eA (by assumption) _|refine eA ?_ _|refine eM ?_ _ _|refine eD ?_|refine eN ?_ _));done)|(refine Ext.trans X7.o ?_;(repeat(first|exact eR _|exact eA (by assumption) _|refine eA ?_ _|refine eM ?_ _ _|refine eD ?_|refine eN ?_ _));done))
    have K8:=HS.o _ X8.o;clear qi))
  all_goals
   go_wp2;go_ret
   first
    |exact⟨rfl,X0.o.trans X7.o⟩
    |exact⟨rfl,X0.o.trans X8.o⟩
    |exact⟨rfl,X0.o.trans (X7.o.trans (by repeat(first|exact eR _|exact eA (by assumption) _|refine eA ?_ _|refine eM ?_ _ _|refine eD ?_|refine eN ?_ _)))⟩
    |exact⟨rfl,X0.o.trans (X8.o.trans (by repeat(first|exact eR _|exact eA (by assumption) _|refine eA ?_ _|refine eM ?_ _ _|refine eD ?_|refine eN ?_ _)))⟩
 ·have HE:=aa (lG hf);have xH:ahg (bY t=dB t++cI t.args):=aa HE.o;rw[xH.o];clear HE xH Xm HL ih ok hsz IH;have wJ:=aa h.all;clear h;have h3:(t.aq == [45,62])=false∨((t.aq == [45,62])=true∧((t.args.length:Int) == 2)=false):=by
   cases g:(t.aq == [45,62])
   ·exact .inl rfl
   ·refine .inr ⟨rfl,?_⟩;have g1:t.aq=[45,62]:=by simpa using g
    rw[←Bool.not_eq_true];intro g2;exact hf ⟨g1,by have:=eq_of_beq g2;omega⟩
  clear hf;unfold bh at Qm ⊢
  rcases h3 with h3|⟨h3,h4⟩
  ·go_enter Tryz.func45,Tryz.ntmps45;go_wp2_with fail;refine(Qm.o _).o.mono ?_;rintro e w1 ⟨rfl,hx1⟩;have X1:=aa (X0.o.trans hx1);have ZV:=(fj.o.ext hx1).c2;clear hx1 c0 c1 c2 Qm;go_wp2
   go_loopw [3,38] (fun s i wr=>∃k:Nat,k≤t.args.length∧i=.int .i64 k∧s=encStr (dB t++cI (t.args.take k))∧ahg (Ext w1 wr)) (fun _ i _=>t.args.length - (intOf i).toNat)
   case atStart=>exact⟨0,ahj _,rfl,by simp[cI],aa (eR _)⟩
   case round=>
    obtain⟨k,hk,rfl,rfl,HX⟩:=hrel
    by_cases hlt:k<t.args.length
    ·have aS:(k:Int)<(t.args.length:Int):=by omega
     have dy:(0:Int)≤(k:Int):=by omega
     obtain⟨b,o,hA,hb,q0,q1,q2⟩:=(wJ.o.ext (X1.o.trans HX.o)).at_ hlt;have hcm:=ahh hlt;have HC:=aa (sx.o _ hcm (decide (0<(t.args[k]'hlt).args.length)) (wr.alloc (.cells #[encStr (t.args[k]'hlt).aq,.int .i64 (t.args[k]'hlt).var,.slice (t.args[k]'hlt).A (t.args[k]'hlt).args.length (t.args[k]'hlt).cap] 53)) ((X1.o.trans HX.o).alloc _));have uA:dB t++cI (t.args.take (k+1))=(dB t++cI (t.args.take k))++(([32]:aj)++gu (decide (0<(t.args[k]'hlt).args.length)) (bY (t.args[k]'hlt))):=by rw[pw _ hlt,List.append_assoc]
     have hlen:=Xo.o (k+1);rw[uA] at hlen;rw[hA];clear hA hcm;generalize t.args[k]'hlt=c at *;obtain⟨bb,ve⟩:∃bb,bb=decide (0<c.args.length):=⟨_,rfl⟩;have hd:decide (0<c.args.length)=bb:=ve.symm;rw[←ve] at HC uA hlen;clear ve;unfold bh at HC;generalize gu bb (bY c)=sc at *;have HR:ahg (encStr (dB t++cI (t.args.take k)++(([32]:aj)++sc))=encStr (dB t++cI (t.args.take (k+1)))):=aa (by rw[uA]);clear uA
     generalize dB t++cI (t.args.take k)=S0 at *;have Kg:=aa hlen;have hs1:¬((⟨#[32]⟩:ByteArray).size+(⟨sc.toArray⟩:ByteArray).size>9223372036854775807):=by
      rw[ahn,ahn] at hlen;rw[aB sc];show ¬(1+sc.length>_);omega
     have e1:(ByteArray.mk #[32]++ByteArray.mk sc.toArray)=ByteArray.mk (([32]:aj)++sc).toArray:=ByteArray.mk_append_mk [32] sc;have hs2:¬((⟨S0.toArray⟩:ByteArray).size+(⟨(([32]:aj)++sc).toArray⟩:ByteArray).size>9223372036854775807):=by
      rw[ahn] at hlen;rw[aB S0,aB (([32]:aj)++sc)];omega
     have e2:(ByteArray.mk S0.toArray++ByteArray.mk (([32]:aj)++sc).toArray)=ByteArray.mk (S0++(([32]:aj)++sc)).toArray:=ByteArray.mk_append_mk S0 (([32]:aj)++sc);clear hlen Kg;generalize S0++(([32]:aj)++sc)=S2 at *;generalize ([32]:aj)++sc=S1 at *;go_wp2_with fail;refine HC.o.o.mono ?_;rintro e w3 ⟨rfl,hx3⟩;have X3:ahg (Ext w1 w3):=aa ((HX.o.alloc _).trans hx3);clear hx3;go_wp2;go_roundw
     case rel=>exact⟨k+1,hlt,by go_num,HR.o,X3⟩
     case measure=>simp[intOf];omega
    ·have bU:¬(k:Int)<(t.args.length:Int):=by omega
     have HR:ahg (dB t++cI (t.args.take k)=dB t++cI t.args):=aa (by rw[ahm (by omega)]);rw[HR.o];go_wp2;go_ret;exact⟨rfl,X1.o.trans HX.o⟩
  ·go_enter Tryz.func45,Tryz.ntmps45;go_wp2_with fail;refine(Qm.o _).o.mono ?_;rintro e w1 ⟨rfl,hx1⟩;have X1:=aa (X0.o.trans hx1);have ZV:=(fj.o.ext hx1).c2;clear hx1 c0 c1 c2 Qm;go_wp2
   go_loopw [3,38] (fun s i wr=>∃k:Nat,k≤t.args.length∧i=.int .i64 k∧s=encStr (dB t++cI (t.args.take k))∧ahg (Ext w1 wr)) (fun _ i _=>t.args.length - (intOf i).toNat)
   case atStart=>exact⟨0,ahj _,rfl,by simp[cI],aa (eR _)⟩
   case round=>
    obtain⟨k,hk,rfl,rfl,HX⟩:=hrel
    by_cases hlt:k<t.args.length
    ·have aS:(k:Int)<(t.args.length:Int):=by omega
     have dy:(0:Int)≤(k:Int):=by omega
     obtain⟨b,o,hA,hb,q0,q1,q2⟩:=(wJ.o.ext (X1.o.trans HX.o)).at_ hlt;have hcm:=ahh hlt;have HC:=aa (sx.o _ hcm (decide (0<(t.args[k]'hlt).args.length)) (wr.alloc (.cells #[encStr (t.args[k]'hlt).aq,.int .i64 (t.args[k]'hlt).var,.slice (t.args[k]'hlt).A (t.args[k]'hlt).args.length (t.args[k]'hlt).cap] 53)) ((X1.o.trans HX.o).alloc _));have uA:dB t++cI (t.args.take (k+1))=(dB t++cI (t.args.take k))++(([32]:aj)++gu (decide (0<(t.args[k]'hlt).args.length)) (bY (t.args[k]'hlt))):=by rw[pw _ hlt,List.append_assoc]
     have hlen:=Xo.o (k+1);rw[uA] at hlen;rw[hA];clear hA hcm;generalize t.args[k]'hlt=c at *;obtain⟨bb,ve⟩:∃bb,bb=decide (0<c.args.length):=⟨_,rfl⟩;have hd:decide (0<c.args.length)=bb:=ve.symm;rw[←ve] at HC uA hlen;clear ve;unfold bh at HC;generalize gu bb (bY c)=sc at *;have HR:ahg (encStr (dB t++cI (t.args.take k)++(([32]:aj)++sc))=encStr (dB t++cI (t.args.take (k+1)))):=aa (by rw[uA]);clear uA
     generalize dB t++cI (t.args.take k)=S0 at *;have Kg:=aa hlen;have hs1:¬((⟨#[32]⟩:ByteArray).size+(⟨sc.toArray⟩:ByteArray).size>9223372036854775807):=by
      rw[ahn,ahn] at hlen;rw[aB sc];show ¬(1+sc.length>_);omega
     have e1:(ByteArray.mk #[32]++ByteArray.mk sc.toArray)=ByteArray.mk (([32]:aj)++sc).toArray:=ByteArray.mk_append_mk [32] sc;have hs2:¬((⟨S0.toArray⟩:ByteArray).size+(⟨(([32]:aj)++sc).toArray⟩:ByteArray).size>9223372036854775807):=by
      rw[ahn] at hlen;rw[aB S0,aB (([32]:aj)++sc)];omega
     have e2:(ByteArray.mk S0.toArray++ByteArray.mk (([32]:aj)++sc).toArray)=ByteArray.mk (S0++(([32]:aj)++sc)).toArray:=ByteArray.mk_append_mk S0 (([32]:aj)++sc);clear hlen Kg;generalize S0++(([32]:aj)++sc)=S2 at *;generalize ([32]:aj)++sc=S1 at *;go_wp2_with fail;refine HC.o.o.mono ?_;rintro e w3 ⟨rfl,hx3⟩;have X3:ahg (Ext w1 w3):=aa ((HX.o.alloc _).trans hx3);clear hx3;go_wp2;go_roundw
     case rel=>exact⟨k+1,hlt,by go_num,HR.o,X3⟩
     case measure=>simp[intOf];omega
    ·have bU:¬(k:Int)<(t.args.length:Int):=by omega
     have HR:ahg (dB t++cI (t.args.take k)=dB t++cI t.args):=aa (by rw[ahm (by omega)]);rw[HR.o];go_wp2;go_ret;exact⟨rfl,X1.o.trans HX.o⟩
set_option maxRecDepth 512
set_option maxHeartbeats 200000
open Go.Shelf
def Xq (t:Ty):Prop:=∀(w0 w:World) (c:Nat) (L D:Int),aC w0 t→Below w0.heap.size w0 w→w0.heap.size≤c→w.heap[c]?=some (.cells #[.int .i64 L] 134 (0,0)) →
 -1000000≤L→L≤1000000 → -1000000≤D→D≤1000000→t.size≤90000 →
 Calls Tryz.prog 72 #[.pointer (some ⟨c,0,none⟩),bh t,.int .i64 D] w fun e w'=>Tr c w (.bool false) w' (.bool false) ∧
  ((e=.returned (.bool true)∧BH t L D∧w'.heap[c]?=some (.cells #[.int .i64 (L - t.size)] 134 (0,0)))∨(e=.returned (.bool false)∧¬BH t L D))
set_option maxRecDepth 10000
set_option maxHeartbeats 8000000
theorem FY (t:Ty):Xq t:=by
 induction t using Ty.ind with
 |h t ih=>
 intro w0 w c L D ht hB hc0 hc WK hL VO hD hsz;have IH:=aa ih;have hlt:=ae hc;have hcell:w.cell? ⟨c,0,none⟩=some (.int .i64 L):=af hc 0;have ia:w.frozen? ⟨c,0,none⟩=false:=ai hc 0;have hs1:(w.setCell ⟨c,0,none⟩ (.int .i64 (L - 1))).heap.size=w.heap.size:=by simp[World.setCell]
 obtain⟨W,hW⟩:∃W,W=(w.setCell ⟨c,0,none⟩ (.int .i64 (L - 1))).alloc (.cells #[encStr t.aq,.int .i64 t.var,.slice t.A t.args.length t.cap] 53):=⟨_,rfl⟩;have HC:ahg (W.heap[c]?=some (.cells #[.int .i64 (L - 1)] 134 (0,0))):=aa (by
  have h1:=aw hc 0 (.int .i64 (L - 1));rw[hW];exact(((eR _).alloc _).heap (by rw[hs1];exact hlt)).trans h1)
 have HT:ahg (Tr c w (.bool false) W (.bool false)):=aa (by
  have h1:Tr c w (.bool false) (w.setCell ⟨c,0,none⟩ (.int .i64 (L - 1))) (.bool false):=⟨rfl,rfl,rfl,by rw[hs1];exact ahi _,fun k _ hk _=>Below.heap_setCell _ ⟨c,0,none⟩ _ k hk,.inl rfl⟩;rw[hW];exact h1.trans (Tr.dt ((eR _).alloc _)))
 have HB:ahg (aP W w.heap.size t):=aa (by
  have:=aP.new (w.setCell ⟨c,0,none⟩ (.int .i64 (L - 1))) t;rw[hs1] at this;rw[hW];exact this)
 have Sk:ahg (Below w0.heap.size w0 W):=aa (hB.trans (HT.o.below hB.size hc0 (fun k e=>by cases e)));have qV:=aa (show W.cell? ⟨c,0,none⟩=some (.int .i64 (L - 1)) from af HC.o 0);have HW:=aa hW;clear hW;have Ht:=aa ht;have uW:=ht.txt;have hle:=ht.le;have hmx:=ht.max;have hS:=Ty.size_eq t;have Ov:=Ty.aN t;have adG:=t.size_pos;have HF:=aa (fun w' (e:Ext W w')=>aa (J5 t w' ((ht.old Sk.o).ext e)));have Ow:=aa (iJ t);have Xr:=Ty.gq t;clear ih hc ht hB;unfold bh eY at *
 by_cases hl:L - 1<0
 ·have hno:ahg (¬BH t L D):=aa (fun h=>by have:=h.1;omega);go_enter Tryz.func72,Tryz.ntmps72;go_upto_region 2 with fail;rw[←HW.o];clear hcell ia;have Mi:=qV.o;go_wp2;go_ret;exact⟨HT.o,.inr ⟨rfl,hno.o⟩⟩
 by_cases hd:D<1
 ·have hno:ahg (¬BH t L D):=aa (fun h=>by have:=h.2.1;omega);go_enter Tryz.func72,Tryz.ntmps72;go_upto_region 2 with fail;rw[←HW.o];clear hcell ia;have Mi:=qV.o;go_wp2;go_ret;exact⟨HT.o,.inr ⟨rfl,hno.o⟩⟩
 generalize lp t=au at *;generalize lq t=cu at *;cases Sm:cN t
 ·rw[Sm] at HF Ow;obtain⟨m,Hm⟩:∃m,ahg (m=min t.args.length 4095):=⟨_,aa rfl⟩;have Sn:(if (4095:Int)<(t.args.length:Int) then(4095:Int) else(t.args.length:Int))=(m:Int):=by have:=Hm.o;split<;>omega
  have aaz:min (t.args.length:Int) 4095=(m:Int):=by have:=Hm.o;omega
  have je:=jo m (by have:=Hm.o;omega);go_enter Tryz.func72,Tryz.ntmps72;go_upto_region 2 with fail;rw[←HW.o];clear hcell ia;have Mi:=qV.o;have b0:=HB.o.c0;have b1:=HB.o.c1;have b2:=HB.o.c2;go_wp2_with fail;refine(HF.o _ (eR W)).o.mono ?_;rintro e w2 ⟨rfl,hx2⟩;have X2:=aa hx2;have B2:=aa (HB.o.ext hx2);have d0:=B2.o.c0;have d1:=B2.o.c1;have d2:=B2.o.c2;have fo:w.heap.size<w2.heap.size:=B2.o.lt;clear hx2 b0 b1 b2 Mi;go_upto_region 6 with fail
  go_cut [10] (fun Rg wx=>∃p b:Nat,Rg=.pointer (some ⟨p,0,none⟩)∧ahg (Ext w2 wx)∧ahg (wx.heap[p]?=some (.cells #[encStr t.aq,.int .i64 t.var,.slice (some ⟨b,0,none⟩) m m] 53 (0,0)))∧ahg (wx.heap[b]?=some (.cells (j6 m) 53 (0,0))))
  case first=>
   go_region
   all_goals (go_wp2_with fail;go_meet;first
    |exact⟨w2.heap.size+1,w2.heap.size+1+1,rfl,aa (by repeat(first|exact eR _|exact eA (by assumption) _|refine eA ?_ _|refine eM ?_ _ _|refine eD ?_|refine eN ?_ _)),aa ((((eR _).alloc _).drew.heap (by simp)).trans (ah _ _ _ (by simp))),aa (ah _ _ _ (by simp))⟩
    |exact⟨w2.heap.size+1+1,w2.heap.size+1,rfl,aa (by repeat(first|exact eR _|exact eA (by assumption) _|refine eA ?_ _|refine eM ?_ _ _|refine eD ?_|refine eN ?_ _)),aa (ah _ _ _ (by simp)),aa ((((eR _).alloc _).drew.heap (by simp)).trans (ah _ _ _ (by simp)))⟩)
  case rest=>
   obtain⟨p,b,rfl,HX,HP,HZ⟩:=hcut;have HL:ahg (∀w',Ext wc w'→Calls Tryz.prog 120 #[.agg #[encStr t.aq,.int .i64 t.var,.slice (some ⟨b,0,none⟩) m m]] w' fun e w''=>e=.returned (.bool (bH t.aq t.var t.args.length))∧Ext w' w''):=aa (fun w' e=>by
    have hm:=Hm.o;have h1:=oG (iI t b) w' (J6 uW (by rw[←hm];exact(e.heap (ae HZ.o)).trans HZ.o)) (by have:=BG t b;omega);rw[pQ] at h1;have e1:bh (iI t b)=.agg #[encStr t.aq,.int .i64 t.var,.slice (some ⟨b,0,none⟩) m m]:=by
     unfold bh iI;simp only[Ty.aq,Ty.var,Ty.A,Ty.args,Ty.cap,List.length_replicate,hm]
    rwa [e1] at h1)
   have p0:=af HP.o 0;have p1:=af HP.o 1;have p2:=af HP.o 2;simp only[ahp,ahq,ahr] at p0 p1 p2;cases hq:bH t.aq t.var t.args.length
   ·rw[hq] at HL Ow;have HN:ahg (¬BH t L D):=aa (fun h=>by have:=h.2.2;rw[Ow.o] at this;cases this);go_wp2_with fail;refine(HL.o _ (eR _)).mono ?_;rintro e w5 ⟨rfl,jB⟩;have X5:=aa (X2.o.trans (HX.o.trans jB));clear jB;go_wp2;go_ret;exact⟨HT.o.trans (Tr.dt X5.o),.inr ⟨rfl,HN.o⟩⟩
   ·rw[hq] at HL Ow;have FZ:ahg (cH t=t.args.all cH):=aa (by rw[Ow.o];rfl);go_wp2_with fail;refine(HL.o _ (eR _)).mono ?_;rintro e wz ⟨rfl,jB⟩;have KO:=aa (X2.o.trans (HX.o.trans jB));clear jB p0 p1 p2;have Xs:=aa (HB.o.ext KO.o);have Ba:ahg (Below w0.heap.size w0 wz):=aa (Sk.o.trans (KO.o.below.mono (by have:=Sk.o.size;omega)));have Sq:ahg (wz.heap[c]?=some (.cells #[.int .i64 (L - 1)] 134 (0,0))):=aa ((KO.o.heap (ae HC.o)).trans HC.o);have Sr:ahg (Tr c w (.bool false) wz (.bool false)):=aa (HT.o.trans (Tr.dt KO.o));have z2:=Xs.o.c2;have hcz:=ae Sq.o;have S0:ahg (∀x∈t.args.take 0,(x.depth:Int)≤D - 1∧cH x=true):=aa (by simp);have C0:ahg (wz.heap[c]?=some (.cells #[.int .i64 (L - 1 - aD (t.args.take 0))] 134 (0,0))):=aa (by have:=Sq.o;simpa [aD] using this);have L0:ahg ((0:Int)≤L - 1 - aD (t.args.take 0)):=aa (by simp[aD];omega);have T0:ahg (Tr c wz (.bool false) wz (.bool false)):=aa (Tr.refl _ _ _);have mi:=aa (fun k (hk:k<t.args.length)=>eH t.args hk);have AR:=aa (fun k=>ky t.args k);have jV:=aa (fun k (hk:k∈t.args)=>Ty.bG hk);have Ox:ahg (t.size=aD t.args+1):=aa hS;have N3:=aa (fun k (hk:k∈t.args)=>lF hk);have MF:=aa Ov;clear hS Ov;generalize vt:t.A=A0 at *;have zO:=aa vt;clear vt;go_wp2
    go_loopw [53] (fun i wr=>∃k:Nat,k≤t.args.length∧i=.int .i64 k∧ahg (wr.heap[c]?=some (.cells #[.int .i64 (L - 1 - aD (t.args.take k))] 134 (0,0)))∧ahg ((0:Int)≤L - 1 - aD (t.args.take k))∧ahg (∀x∈t.args.take k,(x.depth:Int)≤D - 1∧cH x=true)∧ahg (Tr c wz (.bool false) wr (.bool false))) (fun i _=>t.args.length - (intOf i).toNat)
    case atStart=>exact⟨0,ahj _,rfl,C0,L0,S0,T0⟩
    case round=>
     obtain⟨k,hk,rfl,qX,Cs,F0,I6⟩:=hrel
     by_cases hlt:k<t.args.length
     ·have aS:(k:Int)<(t.args.length:Int):=by omega
      have dy:(0:Int)≤(k:Int):=by omega
      have Oy:ahg (Below w0.heap.size w0 wr):=aa (Ba.o.trans (I6.o.below Ba.o.size hc0 (fun k e=>by cases e)));obtain⟨b9,o9,KP,Wd,q0,q1,q2⟩:=(Ht.o.all.old Oy.o).at_ hlt;rw[zO.o] at KP;subst KP;have lZ:=ahh hlt;have hcs:=jV.o _ lZ;have hdd:=N3.o _ lZ;have gw:=aa (mi.o k hlt);have hs1:=AR.o (k+1);rw[gw.o] at hs1;have Xt:=Ox.o;have hl0:=Cs.o;have Oz:=ae qX.o;have Xu:=aa (IH.o _ lZ w0 (wr.alloc (.cells #[encStr (t.args[k]'hlt).aq,.int .i64 (t.args[k]'hlt).var,.slice (t.args[k]'hlt).A (t.args[k]'hlt).args.length (t.args[k]'hlt).cap] 53)) c (L - 1 - aD (t.args.take k)) (D - 1) (Ht.o.all.args _ lZ) (Oy.o.alloc (by have:=Oy.o.size;omega) _) hc0 ((((eR wr).alloc _).heap Oz).trans qX.o) (by omega) (by omega) (by omega) (by omega) (by omega));have cS:ahg (t.args.take (k+1)=t.args.take k++[t.args[k]'hlt]):=aa (ahl hlt);have ma:ahg (¬BH (t.args[k]'hlt) (L - 1 - aD (t.args.take k)) (D - 1)→¬BH t L D):=aa (fun hn ho=>hn ⟨by have:=ho.1;omega,by have:=ho.2.1;omega,List.all_eq_true.1 (by have:=ho.2.2;rw[FZ.o] at this;exact this) _ lZ⟩);have T9:ahg (Tr c wz (.bool false) (wr.alloc (.cells #[encStr (t.args[k]'hlt).aq,.int .i64 (t.args[k]'hlt).var,.slice (t.args[k]'hlt).A (t.args[k]'hlt).args.length (t.args[k]'hlt).cap] 53)) (.bool false)):=aa (I6.o.trans (Tr.dt ((eR _).alloc _)));clear lZ hcs hdd hs1 Xt hl0;generalize t.args[k]'hlt=x at *;generalize aD (t.args.take k)=sk at *;go_wp2_with fail;refine Xu.o.mono ?_;rintro e w7 ⟨DD,(⟨rfl,bP,Ss⟩|⟨rfl,hno⟩)⟩
      ·have T7:=aa (T9.o.trans DD);have C7:=aa Ss;have K7:=aa bP;clear DD Ss bP;go_wp2;go_roundw
       case rel=>
        have bP:=K7.o;refine⟨k+1,hlt,by go_num,aa ?_,aa ?_,aa (fun y hy => ?_),T7⟩
        ·rw[gw.o,show L - 1 - ((sk+x.size:Nat):Int)=L - 1 - sk - x.size by omega];exact C7.o
        ·rw[gw.o];have:=bP.1;omega
        ·rw[cS.o,List.mem_append,ahx] at hy
         rcases hy with hy|rfl
         ·exact F0.o y hy
         ·exact⟨bP.2.1,bP.2.2⟩
       case measure=>simp[intOf];omega
      ·have T7:=aa (T9.o.trans DD);have N7:=aa (ma.o hno);clear DD hno;go_wp2;go_ret;exact⟨Sr.o.trans T7.o,.inr ⟨rfl,N7.o⟩⟩
     ·have bU:¬(k:Int)<(t.args.length:Int):=by omega
      have xE:t.args.take k=t.args:=ahm (by omega);rw[xE] at qX Cs F0;have RG:ahg (BH t L D):=aa ⟨by have:=Ox.o;have:=Cs.o;omega,by
        rw[MF.o];have h1:(t.args.map Ty.depth).foldr max 0≤(D - 1).toNat:=(fW _ _).2 (fun y hy=>by
         obtain⟨z,hz,rfl⟩:=List.mem_map.1 hy;have:=(F0.o z hz).1;omega)
        omega,by rw[FZ.o];exact List.all_eq_true.2 (fun y hy=>(F0.o y hy).2)⟩
      have OA:ahg (wr.heap[c]?=some (.cells #[.int .i64 (L - t.size)] 134 (0,0))):=aa (by
       have:=qX.o
       rwa [show L - 1 - (aD t.args:Int)=L - t.size by have:=Ox.o;omega] at this)
      clear xE qX Cs F0;go_wp2;go_ret;exact⟨Sr.o.trans I6.o,.inl ⟨rfl,RG.o,OA.o⟩⟩
 ·rw[Sm] at HF Ow;have FZ:ahg (cH t=t.args.all cH):=aa (by rw[Ow.o];rfl);go_enter Tryz.func72,Tryz.ntmps72;go_upto_region 2 with fail;rw[←HW.o];clear hcell ia;have Mi:=qV.o;have b0:=HB.o.c0;have b1:=HB.o.c1;have b2:=HB.o.c2;go_wp2_with fail;refine(HF.o _ (eR W)).o.mono ?_;rintro e w2 ⟨rfl,hx2⟩;have X2:=aa hx2;have B2:=aa (HB.o.ext hx2);have d0:=B2.o.c0;have d1:=B2.o.c1;have d2:=B2.o.c2;have fo:w.heap.size<w2.heap.size:=B2.o.lt;clear hx2 b0 b1 b2 Mi;go_upto_region 9 with fail;obtain⟨wz,Xv⟩:∃wz,wz=w2.alloc (.cells #[encStr au.aq,.int .i64 au.var,.slice au.A au.args.length au.cap] 53):=⟨_,rfl⟩;have KO:ahg (Ext W wz):=aa (by rw[Xv];exact X2.o.alloc _);have Su:w2.alloc (.cells #[.string ⟨au.aq.toArray⟩,.int .i64 au.var,.slice au.A au.args.length au.cap] 53)=wz:=Xv.symm;rw[Su];clear Xv Su d0 d1 d2 fo;have Xs:=aa (HB.o.ext KO.o);have Ba:ahg (Below w0.heap.size w0 wz):=aa (Sk.o.trans (KO.o.below.mono (by have:=Sk.o.size;omega)));have Sq:ahg (wz.heap[c]?=some (.cells #[.int .i64 (L - 1)] 134 (0,0))):=aa ((KO.o.heap (ae HC.o)).trans HC.o);have Sr:ahg (Tr c w (.bool false) wz (.bool false)):=aa (HT.o.trans (Tr.dt KO.o));have z2:=Xs.o.c2;have hcz:=ae Sq.o;have S0:ahg (∀x∈t.args.take 0,(x.depth:Int)≤D - 1∧cH x=true):=aa (by simp);have C0:ahg (wz.heap[c]?=some (.cells #[.int .i64 (L - 1 - aD (t.args.take 0))] 134 (0,0))):=aa (by have:=Sq.o;simpa [aD] using this);have L0:ahg ((0:Int)≤L - 1 - aD (t.args.take 0)):=aa (by simp[aD];omega);have T0:ahg (Tr c wz (.bool false) wz (.bool false)):=aa (Tr.refl _ _ _);have mi:=aa (fun k (hk:k<t.args.length)=>eH t.args hk);have AR:=aa (fun k=>ky t.args k);have jV:=aa (fun k (hk:k∈t.args)=>Ty.bG hk);have Ox:ahg (t.size=aD t.args+1):=aa hS;have N3:=aa (fun k (hk:k∈t.args)=>lF hk);have MF:=aa Ov;clear hS Ov;generalize vt:t.A=A0 at *;have zO:=aa vt;clear vt;go_wp2
  go_loopw [53] (fun i wr=>∃k:Nat,k≤t.args.length∧i=.int .i64 k∧ahg (wr.heap[c]?=some (.cells #[.int .i64 (L - 1 - aD (t.args.take k))] 134 (0,0)))∧ahg ((0:Int)≤L - 1 - aD (t.args.take k))∧ahg (∀x∈t.args.take k,(x.depth:Int)≤D - 1∧cH x=true)∧ahg (Tr c wz (.bool false) wr (.bool false))) (fun i _=>t.args.length - (intOf i).toNat)
  case atStart=>exact⟨0,ahj _,rfl,C0,L0,S0,T0⟩
  case round=>
   obtain⟨k,hk,rfl,qX,Cs,F0,I6⟩:=hrel
   by_cases hlt:k<t.args.length
   ·have aS:(k:Int)<(t.args.length:Int):=by omega
    have dy:(0:Int)≤(k:Int):=by omega
    have Oy:ahg (Below w0.heap.size w0 wr):=aa (Ba.o.trans (I6.o.below Ba.o.size hc0 (fun k e=>by cases e)));obtain⟨b9,o9,KP,Wd,q0,q1,q2⟩:=(Ht.o.all.old Oy.o).at_ hlt;rw[zO.o] at KP;subst KP;have lZ:=ahh hlt;have hcs:=jV.o _ lZ;have hdd:=N3.o _ lZ;have gw:=aa (mi.o k hlt);have hs1:=AR.o (k+1);rw[gw.o] at hs1;have Xt:=Ox.o;have hl0:=Cs.o;have Oz:=ae qX.o;have Xu:=aa (IH.o _ lZ w0 (wr.alloc (.cells #[encStr (t.args[k]'hlt).aq,.int .i64 (t.args[k]'hlt).var,.slice (t.args[k]'hlt).A (t.args[k]'hlt).args.length (t.args[k]'hlt).cap] 53)) c (L - 1 - aD (t.args.take k)) (D - 1) (Ht.o.all.args _ lZ) (Oy.o.alloc (by have:=Oy.o.size;omega) _) hc0 ((((eR wr).alloc _).heap Oz).trans qX.o) (by omega) (by omega) (by omega) (by omega) (by omega));have cS:ahg (t.args.take (k+1)=t.args.take k++[t.args[k]'hlt]):=aa (ahl hlt);have ma:ahg (¬BH (t.args[k]'hlt) (L - 1 - aD (t.args.take k)) (D - 1)→¬BH t L D):=aa (fun hn ho=>hn ⟨by have:=ho.1;omega,by have:=ho.2.1;omega,List.all_eq_true.1 (by have:=ho.2.2;rw[FZ.o] at this;exact this) _ lZ⟩);have T9:ahg (Tr c wz (.bool false) (wr.alloc (.cells #[encStr (t.args[k]'hlt).aq,.int .i64 (t.args[k]'hlt).var,.slice (t.args[k]'hlt).A (t.args[k]'hlt).args.length (t.args[k]'hlt).cap] 53)) (.bool false)):=aa (I6.o.trans (Tr.dt ((eR _).alloc _)));clear lZ hcs hdd hs1 Xt hl0;generalize t.args[k]'hlt=x at *;generalize aD (t.args.take k)=sk at *;go_wp2_with fail;refine Xu.o.mono ?_;rintro e w7 ⟨DD,(⟨rfl,bP,Ss⟩|⟨rfl,hno⟩)⟩
    ·have T7:=aa (T9.o.trans DD);have C7:=aa Ss;have K7:=aa bP;clear DD Ss bP;go_wp2;go_roundw
     case rel=>
      have bP:=K7.o;refine⟨k+1,hlt,by go_num,aa ?_,aa ?_,aa (fun y hy => ?_),T7⟩
      ·rw[gw.o,show L - 1 - ((sk+x.size:Nat):Int)=L - 1 - sk - x.size by omega];exact C7.o
      ·rw[gw.o];have:=bP.1;omega
      ·rw[cS.o,List.mem_append,ahx] at hy
       rcases hy with hy|rfl
       ·exact F0.o y hy
       ·exact⟨bP.2.1,bP.2.2⟩
     case measure=>simp[intOf];omega
    ·have T7:=aa (T9.o.trans DD);have N7:=aa (ma.o hno);clear DD hno;go_wp2;go_ret;exact⟨Sr.o.trans T7.o,.inr ⟨rfl,N7.o⟩⟩
   ·have bU:¬(k:Int)<(t.args.length:Int):=by omega
    have xE:t.args.take k=t.args:=ahm (by omega);rw[xE] at qX Cs F0;have RG:ahg (BH t L D):=aa ⟨by have:=Ox.o;have:=Cs.o;omega,by
      rw[MF.o];have h1:(t.args.map Ty.depth).foldr max 0≤(D - 1).toNat:=(fW _ _).2 (fun y hy=>by
       obtain⟨z,hz,rfl⟩:=List.mem_map.1 hy;have:=(F0.o z hz).1;omega)
      omega,by rw[FZ.o];exact List.all_eq_true.2 (fun y hy=>(F0.o y hy).2)⟩
    have OA:ahg (wr.heap[c]?=some (.cells #[.int .i64 (L - t.size)] 134 (0,0))):=aa (by
     have:=qX.o
     rwa [show L - 1 - (aD t.args:Int)=L - t.size by have:=Ox.o;omega] at this)
    clear xE qX Cs F0;go_wp2;go_ret;exact⟨Sr.o.trans I6.o,.inl ⟨rfl,RG.o,OA.o⟩⟩
set_option maxRecDepth 512
set_option maxHeartbeats 200000
theorem yR (t:Ty):aQ t=true↔BH t 4096 100:=by
 unfold aQ BH;simp only[ahv,decide_eq_true_eq]
 constructor
 ·rintro⟨⟨h1,h2⟩,h3⟩;exact⟨by omega,by omega,h3⟩
 ·rintro⟨h1,h2,h3⟩;exact⟨⟨by omega,by omega⟩,h3⟩
set_option maxRecDepth 10000
set_option maxHeartbeats 8000000
theorem Ab (t:Ty) (w:World) (h:aC w t) (hsz:t.size≤90000):Calls Tryz.prog 44 #[bh t] w fun e w'=>e=.returned (.bool (aQ t))∧Ext w w':=by
 have X1:Ext w ((w.alloc (.cells #[encStr t.aq,.int .i64 t.var,.slice t.A t.args.length t.cap] 53)).alloc (.cells #[.int .i64 4096] 134)):=((eR w).alloc _).alloc _;have hc:((w.alloc (.cells #[encStr t.aq,.int .i64 t.var,.slice t.A t.args.length t.cap] 53)).alloc (.cells #[.int .i64 4096] 134)).heap[w.heap.size+1]?=some (.cells #[.int .i64 4096] 134 (0,0)):=ah _ _ _ (by simp);have HW:=aa (FY t w _ (w.heap.size+1) 4096 100 h X1.below (by omega) hc (by omega) (by omega) (by omega) (by omega) hsz);have HL:=aa (yR t);have HX:=aa X1;clear h hc X1;generalize aQ t=R at *;unfold bh at *;go_enter Tryz.func44,Tryz.ntmps44;go_wp2_with fail;refine HW.o.mono ?_;rintro e w2 ⟨hT,(⟨rfl,bP,-⟩|⟨rfl,hno⟩)⟩
 ·have HE:=aa (Ext.cg (HX.o.below.trans (hT.below HX.o.size (by omega) (fun k e=>by cases e))) (ahi _));have HR:=aa (HL.o.2 bP);clear hT bP;go_wp2;go_ret;exact⟨by rw[HR.o];rfl,HE.o⟩
 ·have HE:=aa (Ext.cg (HX.o.below.trans (hT.below HX.o.size (by omega) (fun k e=>by cases e))) (ahi _));have HR:ahg (R=false):=aa (by rw[←Bool.not_eq_true];exact fun h=>hno (HL.o.1 h));clear hT hno;go_wp2;go_ret;exact⟨by rw[HR.o];rfl,HE.o⟩
set_option maxRecDepth 512
set_option maxHeartbeats 200000
structure Po where
 vars:List Int
 A:Option Addr
 cap:Nat
 ty:Ty
def Xw (p:Po):Value:=.agg #[.slice p.A p.vars.length p.cap,encStr p.ty.aq,.int .i64 p.ty.var,.slice p.ty.A p.ty.args.length p.ty.cap]
structure F5 (w:World) (p:Po):Prop where
 le:p.vars.length≤p.cap
 max:p.cap≤9223372036854775807
 row:Ints w p.A p.vars
 ty:aC w p.ty
theorem F5.ext {w w':World}{p:Po}(h:F5 w p) (e:Ext w w'):F5 w' p:=⟨h.le,h.max,ak.ext oV h.row e,h.ty.ext e⟩
def rF (w:World) (b:Nat) (p:Po):Prop:=w.heap[b]?=some (.cells #[.slice p.A p.vars.length p.cap,encStr p.ty.aq,.int .i64 p.ty.var,.slice p.ty.A p.ty.args.length p.ty.cap] 75 (0,0))
section
variable {w w':World}{b:Nat}{p:Po}
theorem rF.new (w:World) (p:Po):rF (w.alloc (.cells #[.slice p.A p.vars.length p.cap,encStr p.ty.aq,.int .i64 p.ty.var,.slice p.ty.A p.ty.args.length p.ty.cap] 75)) w.heap.size p:=ah _ _ _ rfl
theorem rF.lt (h:rF w b p):b<w.heap.size:=ae h
theorem rF.ext (h:rF w b p) (e:Ext w w'):rF w' b p:=(e.heap h.lt).trans h
theorem rF.cells (h:rF w b p):w.cell? ⟨b,0,none⟩=some (.slice p.A p.vars.length p.cap)∧w.cell? ⟨b,1,none⟩=some (encStr p.ty.aq)∧w.cell? ⟨b,2,none⟩=some (.int .i64 p.ty.var)∧w.cell? ⟨b,3,none⟩=some (.slice p.ty.A p.ty.args.length p.ty.cap):=
 ⟨af h 0,af h 1,af h 2,af h 3⟩
end
def Sv (l:List Int):aj:=(l.map fun v=>([32]:aj)++gW v).flatten
noncomputable def nQ (p:Po):aj:=
 if aQ p.ty then(if p.vars=[] then bY p.ty else([102,111,114,97,108,108]:aj)++Sv p.vars++([46,32]:aj)++bY p.ty) else []
set_option maxRecDepth 10000
set_option maxHeartbeats 8000000
theorem Ac (p:Po) (w:World) (h:F5 w p) (ok:ng p.ty=true) (hsz:p.ty.size≤20000) (h0:p.vars=[]):Calls Tryz.prog 25 #[Xw p] w fun e w'=>e=.returned (encStr (nQ p))∧Ext w w':=by
 have X0:ahg (Ext w (w.alloc (.cells #[.slice p.A p.vars.length p.cap,encStr p.ty.aq,.int .i64 p.ty.var,.slice p.ty.A p.ty.args.length p.ty.cap] 75))):=aa ((eR w).alloc _);have HB:=aa (rF.new w p);obtain⟨c0,c1,c2,c3⟩:=HB.o.cells;have HL:=aa (fun w' (e:Ext w w')=>aa (Ab p.ty w' (h.ty.ext e) (by omega)));have HT:=aa (fun w' (e:Ext w w')=>aa (Ou p.ty w' (h.ty.ext e) ok hsz));have HP:ahg (nQ p=if aQ p.ty then bY p.ty else []):=aa (by unfold nQ;rw[if_pos h0]);have HV:ahg (p.vars.length=0):=aa (by rw[h0];rfl);rw[HP.o];clear HP h ok hsz h0;unfold Xw bh at *;generalize bY p.ty=s at *;rw[HV.o] at X0 HB c0 c1 c2 c3 ⊢;cases hl:aQ p.ty
 ·rw[hl] at HL;go_enter Tryz.func25,Tryz.ntmps25;go_wp2_with fail;refine(HL.o _ X0.o).o.mono ?_;rintro e w2 ⟨rfl,hx⟩;go_wp2;go_ret;exact⟨rfl,X0.o.trans hx⟩
 ·rw[hl] at HL;go_enter Tryz.func25,Tryz.ntmps25;go_wp2_with fail;refine(HL.o _ X0.o).o.mono ?_;rintro e w2 ⟨rfl,hx⟩;have X2:=aa (X0.o.trans hx);obtain⟨d0,d1,d2,d3⟩:=(HB.o.ext hx).cells;rw[HV.o] at d0;clear hx c0 c1 c2 c3;go_wp2_with fail;refine(HT.o _ X2.o).o.mono ?_;rintro e w3 ⟨rfl,hx⟩;go_wp2;go_ret;exact⟨rfl,X2.o.trans hx⟩
set_option maxRecDepth 512
set_option maxHeartbeats 200000
def nR (c:aj) (p:Ty.Pure):Ty.Pure:=.mk ([123]++c++[125]) 0 [p]
theorem yS (c:aj) (t:Ty) (b:Nat):(jE c t b).pure=nR c t.pure:=by rw[Ty.aG];rfl
theorem qj {c:aj}{t:Ty}{b k:Nat}(hb:b≠k) (ht:aF k t=true):aF k (jE c t b)=true:=
 dE (fun _ a e=>by injection e with e;subst e;exact hb) (by intro x hx;simp at hx;subst hx;exact ht)
structure nC (w0 wB w:World) (row:Option Nat) (l:List Pd) (ds:List Ty):Prop where
 len:ds.length=l.length
 ty:∀d∈ds,aC w d
 is:ds.map Ty.pure=l.map fun p=>nR p.cls p.ty.pure
 row:∀d∈ds,∀c,row=some c→aF c d=true
 away:∀d∈ds,∀c,c<wB.heap.size→(∀p∈l,aF c p.ty=true)→aF c d=true
theorem nC.nil (w0 wB w:World) (row:Option Nat):nC w0 wB w row [] []:=⟨rfl,by simp,rfl,by simp,by simp⟩
theorem nC.snoc {w0 wB w w' w4:World}{row row':Option Nat}{l:List Pd}{ds:List Ty}{p:Pd}{b:Nat}(h:nC w0 wB w row l ds) (e:Ext w w') (hd:aC w' (jE p.cls p.ty b)) (hb:w.heap.size≤b) (hp:aC w0 p.ty) (h0:w0.heap.size≤wB.heap.size) (hB:wB.heap.size≤w.heap.size)
  (hr:∀c,row=some c→wB.heap.size≤c∧c<w.heap.size) (hg:w'.grownBy w4 row) (F6:row'=row∨∀c,row'=some c→w'.heap.size≤c):nC w0 wB w4 row' (l++[p]) (ds++[jE p.cls p.ty b]):=by
 have hall:∀d∈ds++[jE p.cls p.ty b],aC w' d∧(∀c,row=some c→aF c d=true)∧∀c,c<wB.heap.size→(∀x∈l++[p],aF c x.ty=true)→aF c d=true:=by
  intro d uZ
  rcases List.mem_append.1 uZ with uZ|uZ
  ·exact⟨(h.ty d uZ).ext e,h.row d uZ,fun c h1 h2=>h.away d uZ c h1 (fun x hx=>h2 x (List.mem_append.2 (.inl hx)))⟩
  ·rw[ahx] at uZ;subst uZ;exact⟨hd,fun c hc=>qj (by have:=hr c hc;omega) (aU hp (by have:=hr c hc;omega)),fun c h1 h2=>qj (by omega) (h2 p (by simp))⟩
 refine⟨by simp[h.len],fun d uZ=>(hall d uZ).1.grown hg (hall d uZ).2.1,by rw[ahz,ahz,h.is];simp[yS],fun d uZ c hc => ?_,fun d uZ=>(hall d uZ).2.2⟩
 rcases F6 with rfl|F6
 ·exact(hall d uZ).2.1 c hc
 ·exact aU (hall d uZ).1 (F6 c hc)
open Go.Sort
def Sw (d:og):Prop:=d.n≤100∧d.cons.length≤30∧∀c∈d.cons,c.types.length≤30∧(c.types.map Ty.size).sum≤20000
set_option maxRecDepth 10000
set_option maxHeartbeats 8000000
theorem F7 (c t:aj) (w:World) (hc:c.length≤1000000000000000000) (ht:t.length≤1000000000000000000) :
  Calls Tryz.prog 51 #[encStr c,encStr t] w fun e w'=>e=.returned (encStr (gH c t))∧w'=w:=by
 have hs1:¬((⟨[(64:UInt8)].toArray⟩:ByteArray).size+(⟨c.toArray⟩:ByteArray).size>9223372036854775807):=by rw[aB,aB];simp;omega
 have e1:=ByteArray.mk_append_mk [(64:UInt8)] c;have hs2:¬((⟨(64 :: c).toArray⟩:ByteArray).size+(⟨[(64:UInt8)].toArray⟩:ByteArray).size>9223372036854775807):=by rw[aB,aB];simp;omega
 have e2:=ByteArray.mk_append_mk (64 :: c) [(64:UInt8)];have hs3:¬((⟨(64 :: (c++[64])).toArray⟩:ByteArray).size+(⟨t.toArray⟩:ByteArray).size>9223372036854775807):=by rw[aB,aB];simp;omega
 have e3:=ByteArray.mk_append_mk (64 :: (c++[64])) t;go_enter Tryz.func51,Tryz.ntmps51;go_wp2;go_ret;exact⟨by simp[gH],rfl⟩
theorem F8 (A:Option Addr) (cap:Nat) (l:List Tm) (t:Tm) (w:World) (h:bK w A l) (ht:aM w t) (hl:l.length≤1000000) :
  Calls Tryz.prog 52 #[bl t,.slice A l.length cap] w fun e w'=>(∃u,e=.returned (bl u)∧aM w' u∧u.pure=mH t.pure l∧∀c,c<w.heap.size→ay c t→(∀x∈l,ay c x)→ay c u)∧Ext w w':=by
 obtain⟨W,hW⟩:∃W,W=(w.alloc (.cells #[.int .i64 t.kind,.int .i64 t.n,encStr t.name,.slice t.V t.vars.length t.vc,.slice t.T t.types.length t.tc,.slice t.A t.kids.length t.cap] 40)).alloc (.cells #[.int .i64 0,.int .i64 0,.string ⟨#[]⟩,.slice none 0 0,.slice none 0 0,.slice none 0 0] 40):=⟨_,rfl⟩;have HW:=aa hW.symm;have X0:ahg (Ext w W):=aa (by rw[hW];exact((eR _).alloc _).alloc _);have rk:W.heap.size=w.heap.size+2:=by rw[hW];simp
 have B1:ahg (av W w.heap.size t):=aa (by rw[hW];exact(av.new w t).ext ((eR _).alloc _));have B2:ahg (W.heap[w.heap.size+1]?=some (.cells #[.int .i64 0,.int .i64 0,.string ⟨#[]⟩,.slice none 0 0,.slice none 0 0,.slice none 0 0] 40 (0,0))):=aa (by rw[hW];exact ah _ _ _ (by simp));have H:=aa h;have Ht:=aa ht;have zO:ahg (∀c,c<w.heap.size+2→(c<w.heap.size→ay c t∧∀x∈l,ay c x)→ay c t):=aa (fun c _ h=>(Nat.lt_or_ge c w.heap.size).elim (fun h1=>(h h1).1) (fun h1=>bw ht h1));clear h ht hW;unfold bl at *;go_enter Tryz.func52,Tryz.ntmps52;go_upto_region 1 with fail;rw[HW.o];go_wp2
 go_loopw [5] (fun i wr=>∃(k:Nat) (u:Tm),k≤l.length∧i=.int .i64 k∧ahg (Ext w wr)∧ahg (av wr w.heap.size u)∧ahg (wr.heap[w.heap.size+1]?=some (.cells #[.int .i64 0,.int .i64 0,.string ⟨#[]⟩,.slice none 0 0,.slice none 0 0,.slice none 0 0] 40 (0,0)))∧ahg (aM wr u∧u.pure=mH t.pure (l.take k)∧∀c,c<w.heap.size+2→(c<w.heap.size→ay c t∧∀x∈l,ay c x)→ay c u)) (fun i _=>l.length - (intOf i).toNat)
 case atStart=>exact⟨0,t,ahj _,rfl,X0,B1,B2,aa ⟨Ht.o.ext X0.o,rfl,zO.o⟩⟩
 case round=>
  obtain⟨k,u,hk,rfl,HX,HB,HZ,HU⟩:=hrel;have hz2:=ae HZ.o;have hbl:=HB.o.lt
  by_cases hlt:k<l.length
  ·have aS:(k:Int)<(l.length:Int):=by omega
   have dy:(0:Int)≤(k:Int):=by omega
   obtain⟨b,o,hA,hb,r0,r1,r2,r3,r4,r5⟩:=(H.o.ext HX.o).at_ hlt;have cS:=aa (pM t.pure l hlt);have Hm:=aa (ahh hlt);have Hx:=aa (H.o.kids _ (ahh hlt));rw[hA];generalize l[k]'hlt=x at *;have Fj:ahg (∀c,c<w.heap.size+2→(c<w.heap.size→ay c t∧∀x∈l,ay c x)→ay c x):=aa (fun c _ h=>(Nat.lt_or_ge c w.heap.size).elim (fun h1=>(h h1).2 _ Hm.o) (fun h1=>bw Hx.o h1));have Dy:ahg (∀g,wr.heap.size≤g→∀c,c<w.heap.size+2→(c<w.heap.size→ay c t∧∀x∈l,ay c x)→ay c (fY u x g)):=aa (fun g hg c hc h2=>su (by omega) (HU.o.2.2 c hc h2) (Fj.o c hc h2));have HP:ahg (∀g,(fY u x g).pure=mH t.pure (l.take (k+1))):=aa (fun g=>by rw[sr,HU.o.2.1,cS.o]);clear hA;obtain⟨c0,c1,c2,c3,c4,c5⟩:=HB.o.cells;obtain⟨f0,f1,f2,f3,f4,f5⟩:=HB.o.Ep;have HL:=aa (BZ HX.o HB.o HZ.o HU.o.1 (HU.o.2.2 _ (by omega) (fun h=>by omega)) (Hx.o.ext HX.o) (Fj.o _ (by omega) (fun h=>by omega)) (ahi _));go_wp2
   go_region
   all_goals (go_wp2;go_roundw)
   case measure=>simp[intOf];omega
   case rel=>exact⟨k+1,fY u x _,hlt,by go_num,aa HL.o.1.drew,aa (HL.o.2.1.ext (eR _).drew),aa HL.o.2.2.1,aa ⟨HL.o.2.2.2.ext (eR _).drew,HP.o _,Dy.o _ (by omega)⟩⟩
  ·have bU:¬(k:Int)<(l.length:Int):=by omega
   obtain⟨c0,c1,c2,c3,c4,c5⟩:=HB.o.cells;obtain⟨hu,hp,ha⟩:=HU.o;rw[ahm (by omega)] at hp;obtain⟨WF,ig⟩:∃WF,WF=cw wr (w.heap.size+1) u:=⟨_,rfl⟩;have hgr:=aZ wr (w.heap.size+1) u;have vw:=gj u HZ.o;rw[←ig] at hgr vw;have XF:=aa (HX.o.grown hgr (fun c e=>by injection e with e;omega));have WT:=aa (hu.grown hgr (fun c e=>by injection e with e;subst e;exact ha _ (by omega) (fun h=>by omega)));have HP:=aa hp;have HA:=aa ha;have g0:=ai HZ.o 0;have g1:=ai HZ.o 1;have g2:=ai HZ.o 2;have g3:=ai HZ.o 3;have g4:=ai HZ.o 4;have g5:=ai HZ.o 5;have z0:=af HZ.o 0;have z1:=af HZ.o 1;have z2:=af HZ.o 2;have z3:=af HZ.o 3;have z4:=af HZ.o 4;have z5:=af HZ.o 5;simp only[ahp,ahq,ahr] at z0 z1 z2 z3 z4 z5;obtain⟨m0,m1,m2,m3,m4,m5⟩:=vw.cells;clear hu hp ha hgr vw;unfold cw at ig;go_wp2;rw[←ig];refine bodyPost_ret (v:=.agg #[.int .i64 u.kind,.int .i64 u.n,.string ⟨u.name.toArray⟩,.slice u.V u.vars.length u.vc,.slice u.T u.types.length u.tc,.slice u.A u.kids.length u.cap]) ?_ rfl ⟨⟨u,rfl,WT.o,HP.o,fun c hc h1 h2=>HA.o c (by omega) (fun _=>⟨h1,h2⟩)⟩,XF.o⟩;simp[results,Tryz.f52,go_sem,m0,m1,m2,m3,m4,m5]
set_option maxRecDepth 512
set_option maxHeartbeats 200000
noncomputable def nS (q:Tm.Pure) (types:List Ty):Tm.Pure:=if types.map Ty.pure=[] then q else .mk 6 0 [] [] (types.map Ty.pure) [q]
set_option maxRecDepth 10000
set_option maxHeartbeats 8000000
theorem F9 (t:Tm) (T:Option Addr) (tc:Nat) (types:List Ty) (w:World) (ht:aM w t) (hT:bF w T types) (hl:types.length≤tc) (hm:tc≤9223372036854775807) :
  Calls Tryz.prog 50 #[bl t,.slice T types.length tc] w fun e w'=>(∃u,e=.returned (bl u)∧aM w' u∧u.pure=nS t.pure types∧∀c,c<w.heap.size→ay c t→jM c T types.length→(∀x∈types,aF c x=true)→ay c u)∧Ext w w':=by
 obtain⟨W,hW⟩:∃W,W=(w.alloc (.cells #[.int .i64 t.kind,.int .i64 t.n,encStr t.name,.slice t.V t.vars.length t.vc,.slice t.T t.types.length t.tc,.slice t.A t.kids.length t.cap] 40)).alloc (.cells #[.int .i64 0,.int .i64 0,.string ⟨#[]⟩,.slice none 0 0,.slice none 0 0,.slice none 0 0] 40):=⟨_,rfl⟩;have HW:=aa hW.symm;have X0:ahg (Ext w W):=aa (by rw[hW];exact((eR _).alloc _).alloc _);have B1:ahg (av W w.heap.size t):=aa (by rw[hW];exact(av.new w t).ext ((eR _).alloc _));have B2:ahg (W.heap[w.heap.size+1]?=some (.cells #[.int .i64 0,.int .i64 0,.string ⟨#[]⟩,.slice none 0 0,.slice none 0 0,.slice none 0 0] 40)):=aa (by rw[hW];exact ah _ _ _ (by simp));have rk:W.heap.size=w.heap.size+2:=by rw[hW];simp
 obtain⟨c0,c1,c2,c3,c4,c5⟩:=B1.o.cells;have n1:=B1.o.lt;obtain⟨z0,z1,z2,z3,z4,z5,iE,iF,iG,iH,um,uo⟩:=bn B2.o;have hz:=ae B2.o
 by_cases nO:types=[]
 ·subst nO;have h0:((([]:List Ty).length:Int) == 0)=true:=rfl;have HA:=aa (bw ht (by omega):ay (w.heap.size+1) t);have HF:ahg (aM (cw W (w.heap.size+1) t) t):=aa ((ht.ext X0.o).grown (aZ _ _ _) (fun c e=>by injection e with e;subst e;exact HA.o));have XF:=aa (bg X0.o (by omega:w.heap.size≤w.heap.size+1) t);have HP:ahg (t.pure=nS t.pure []):=aa rfl;clear hW ht hT hl hm;unfold bl;go_enter Tryz.func50,Tryz.ntmps50;go_upto_region 1 with fail;rw[HW.o];clear HW;go_wp2;refine bodyPost_ret (v:=bl t) ?_ rfl ⟨⟨t,rfl,HF.o,HP.o,fun c _ h _ _=>h⟩,XF.o⟩;simp[results,Tryz.f50,go_sem,z0,z1,z2,z3,z4,z5]
 ·have ZE:types.length≠0:=fun h=>nO (List.length_eq_zero_iff.1 h)
  have h0:((types.length:Int) == 0)=false:=by simp[ZE]
  obtain⟨F,hF⟩:∃F,F=Sh T tc types W.heap.size t:=⟨_,rfl⟩;obtain⟨WF,ig⟩:∃WF,WF=(cw W (w.heap.size+1) F).alloc (.cells #[.int .i64 t.kind,.int .i64 t.n,encStr t.name,.slice t.V t.vars.length t.vc,.slice t.T t.types.length t.tc,.slice t.A t.kids.length t.cap] 40):=⟨_,rfl⟩;have wu:=fy W (w.heap.size+1) F;have ou:=aa (bw ht (by omega):ay (w.heap.size+1) t);have XF:ahg (Ext w WF):=aa (by rw[ig];exact(bg X0.o (by omega) F).alloc _);have ML:ahg (aM WF F):=aa (by
   rw[hF];refine FJ (hT.ext XF.o) hl hm (ht.ext XF.o) ?_;have:=av.new (cw W (w.heap.size+1) F) t;rw[wu] at this;rw[ig];exact this)
  have Ol:ahg (F.pure=nS t.pure types):=aa (by
   unfold nS;rw[hF,wF,if_neg (fun h=>nO (List.map_eq_nil_iff.1 h))])
  have Jn:ahg (∀c,c<w.heap.size→ay c t→jM c T types.length→(∀x∈types,aF c x=true)→ay c F):=aa (fun c hc h1 h2 h3=>by rw[hF];exact wE h2 h3 (by omega) h1);have HVf:ahg (bl F=.agg #[.int .i64 6,.int .i64 0,.string ⟨#[]⟩,.slice none 0 0,.slice T types.length tc,.slice (some ⟨W.heap.size,0,none⟩) 1 1]):=aa (by rw[hF];rfl);have Sj:ahg (((((((W.setCell ⟨w.heap.size+1,0,none⟩ (.int .i64 6)).setCell ⟨w.heap.size+1,1,none⟩ (.int .i64 0)).setCell ⟨w.heap.size+1,2,none⟩ (.string ⟨#[]⟩)).setCell ⟨w.heap.size+1,3,none⟩ (.slice none 0 0)).setCell ⟨w.heap.size+1,4,none⟩ (.slice T types.length tc)).setCell ⟨w.heap.size+1,5,none⟩ (.slice (some ⟨W.heap.size,0,none⟩) 1 1)).alloc (.cells #[.int .i64 t.kind,.int .i64 t.n,.string ⟨t.name.toArray⟩,.slice t.V t.vars.length t.vc,.slice t.T t.types.length t.tc,.slice t.A t.kids.length t.cap] 40)=WF):=aa (by rw[ig,hF];rfl);clear hW hF ig wu ht hT rk;unfold bl at *;go_enter Tryz.func50,Tryz.ntmps50;go_upto_region 1 with fail;rw[HW.o];clear HW;go_wp2;rw[Sj.o];refine bodyPost_ret (v:=bl F) ?_ rfl ⟨⟨F,rfl,ML.o,Ol.o,Jn.o⟩,XF.o⟩;unfold bl;rw[HVf.o,←Sj.o];simp[results,Tryz.f50,go_sem,z0,z1,z2,z3,z4,z5,hz]
set_option maxRecDepth 512
set_option maxHeartbeats 200000
structure wK (wr wx:World) (b:Nat) (F:Tm):Prop where
 x:Ext wr wx
 box:av wx b F
 ge:wr.heap.size≤b
 iM:aM wx F
theorem wK.behind {wr y:World}{F:Tm}(e:Ext wr y) (h:aM y F):wK wr (y.alloc (.cells #[.int .i64 F.kind,.int .i64 F.n,encStr F.name,.slice F.V F.vars.length F.vc,.slice F.T F.types.length F.tc,.slice F.A F.kids.length F.cap] 40)) y.heap.size F:=
 ⟨e.alloc _,av.new y F,e.size,h.ext ((eR _).alloc _)⟩
theorem wK.ahead {wr y:World}{b:Nat}{F:Tm}(e:Ext wr y) (hb:wr.heap.size≤b) (hB:y.heap[b]?=some (.cells #[.int .i64 0,.int .i64 0,.string ⟨#[]⟩,.slice none 0 0,.slice none 0 0,.slice none 0 0] 40)) (h:aM y F) (ha:ay b F):wK wr (cw y b F) b F:=
 ⟨bg e hb F,gj F hB,hb,h.grown (aZ y b F) (fun c e=>by injection e with e;subst e;exact ha)⟩
set_option maxRecDepth 10000
set_option maxHeartbeats 8000000
theorem rG (x:dz) (P:Option Addr) (pc:Nat) (preds:List Pd) (L:Option Addr) (lc:Nat) (given:List Tm) (hpl:∀y∈x.insts,y.preds.length≤40000) (p:Pf) (hk:p.kind=3) (ih:∀k∈p.kids,Oh x P pc preds L lc given k):Oh x P pc preds L lc given p:=by
 intro w he hP hL hp hq hlen;obtain⟨q,hq⟩:=Option.isSome_iff_exists.1 hq
 rcases dM hq with ⟨h,-⟩|⟨h,-⟩|⟨-,y,hy,nr,jc⟩
 ·omega
 ·omega
 rw[oL hk hy];obtain⟨h0,-,zY,Cm⟩:=mD hy;obtain⟨n,hn⟩:∃n:Nat,p.n=(n:Int):=⟨p.n.toNat,by omega⟩;rw[hn,Int.toNat_natCast] at zY;have Cm:x.insts[n]'zY=y:=by rw[←Cm];congr 1;omega
 obtain⟨W,hW⟩:∃W,W=((w.alloc (.cells #[.slice x.D x.aA.length x.dc,.slice x.C x.ag.length x.cc,.slice x.I x.insts.length x.ic] 26)).alloc (.cells #[.int .i64 p.kind,.int .i64 p.n,.slice p.T p.types.length p.tc,.slice p.A p.kids.length p.cap] 34)).alloc (.cells #[.int .i64 0,.int .i64 0,.string ⟨#[]⟩,.slice none 0 0,.slice none 0 0,.slice none 0 0] 40):=⟨_,rfl⟩;have HW:=aa hW.symm;have X0:ahg (Ext w W):=aa (by rw[hW];exact(((eR _).alloc _).alloc _).alloc _);have B1:ahg (aJ W w.heap.size x):=aa (by rw[hW];exact(aJ.new w x).ext (((eR _).alloc _).alloc _));have B2:ahg (aO W (w.heap.size+1) p):=aa (by rw[hW];exact aO.ext (ah _ _ _ (by simp)) ((eR _).alloc _));have B3:ahg (W.heap[w.heap.size+1+1]?=some (.cells #[.int .i64 0,.int .i64 0,.string ⟨#[]⟩,.slice none 0 0,.slice none 0 0,.slice none 0 0] 40)):=aa (by rw[hW];exact ah _ _ _ (by simp));have bS:ahg (W.heap.size=w.heap.size+3):=aa (by rw[hW];simp);obtain⟨bi,oi,DB,hbi,r0,r1,r2,r3⟩:=(he.insts.ext X0.o).at_ zY;rw[Cm] at r0 r1 r2 r3;have nA:=he.insts.all _ (ahh zY);rw[Cm] at nA;have Cl:=hpl _ (ahh zY);rw[Cm] at Cl;have HN:=aa (fun w'=>F7 y.cls y.aq w' nA.txt nA.ctxt);have Qk:ahg ((gH y.cls y.aq).length≤9223372036854775807):=aa (by have:=nA.txt;have:=nA.ctxt;unfold gH;simp;omega);have hall:=aa hp.all;have FK:=aa hp.hd.types;have Oi:=hp.hd.DR;have FL:=hp.hd.pj;have HT:=aa (fun j (hj:j<p.kids.length) w' (e:Ext W w')=>aa (ih _ (ahh hj) w' (he.ext (X0.o.trans e)) (hP.ext (X0.o.trans e)) (hL.ext (X0.o.trans e)) ((hp.all.kids _ (ahh hj)).ext (X0.o.trans e)) (by obtain⟨b,hb⟩:=jc _ (ahh hj);rw[hb];rfl) hlen));have ry:ahg (∀c,w.heap.size≤c→(∀g∈given,ay c g)∧aL c p):=aa (fun c hc=>⟨fun g hg=>bw (hL.kids g hg) hc,dm hp hc⟩);have oM:ahg (∀c,aL c p→∀k∈p.kids,aL c k):=aa (fun c h=>h.kids);have HTo:ahg (∀c,w.heap.size≤c→jM c p.T p.types.length∧∀x∈p.types,aF c x=true):=aa (fun c hc=>⟨(dm hp hc).ty,(dm hp hc).iD⟩);have HTp:ahg (∀c,aL c p→jM c p.T p.types.length∧∀x∈p.types,aF c x=true):=aa (fun c h=>⟨h.ty,h.iD⟩);have Xj:p.kids.length≤40000:=by omega
 obtain⟨j0,hj,mM,gS,iv⟩:=info_parts qb;obtain⟨c0,c1,c2,c3⟩:=B2.o.cells;obtain⟨e0,e1,e2⟩:=B1.o.cells;rw[hk] at c0;rw[hn] at c1;rw[DB] at e2;have n1:=B1.o.lt;have n2:=B2.o.lt;have n3:=ae B3.o;have Bk:(0:Int)≤(n:Int):=by omega
 have tV:(n:Int)<(x.insts.length:Int):=by omega
 have qV:=aa (ahk c2 c3);have HV:ahg (cr p=.agg #[.int .i64 3,.int .i64 (n:Int),.slice p.T p.types.length p.tc,.slice p.A p.kids.length p.cap]):=aa (by unfold cr;rw[hk,hn]);have HEn:=aa (fun w' (e:Ext W w')=>(B1.o.ext e).cells);rw[HV.o];have HW:ahg (((w.alloc (.cells #[.slice x.D x.aA.length x.dc,.slice x.C x.ag.length x.cc,.slice (some ⟨bi,oi,none⟩) x.insts.length x.ic] 26)).alloc (.cells #[.int .i64 3,.int .i64 (n:Int),.slice p.T p.types.length p.tc,.slice p.A p.kids.length p.cap] 34)).alloc (.cells #[.int .i64 0,.int .i64 0,.string ⟨#[]⟩,.slice none 0 0,.slice none 0 0,.slice none 0 0] 40)=W):=aa (by have h:=HW.o;rw[hk,hn,DB] at h;exact h);unfold eX at HT ⊢;rw[DB] at HT ⊢;rw[DB] at HEn;generalize Ok:kE x.ag x.insts preds (given.map Tm.pure)=EV at *;generalize hN:gH y.cls y.aq=nm at *;have Vd:ahg ((p.kids.map EV).foldl nk (if p.types.map Ty.pure=[] then .mk 1 0 nm [] [] [] else .mk 6 0 [] [] (p.types.map Ty.pure) [.mk 1 0 nm [] [] []])=(p.kids.map EV).foldl nk (nS (.mk 1 0 nm [] [] []) p.types)):=aa rfl;generalize (p.kids.map EV).foldl nk (if p.types.map Ty.pure=[] then .mk 1 0 nm [] [] [] else .mk 6 0 [] [] (p.types.map Ty.pure) [.mk 1 0 nm [] [] []])=QQ at *;have HI:ahg (∀w',Ext W w'→ahg (Calls Tryz.prog 50 #[.agg #[.int .i64 1,.int .i64 0,.string ⟨nm.toArray⟩,.slice none 0 0,.slice none 0 0,.slice none 0 0],.slice p.T p.types.length p.tc] w' fun e w''=>(∃F,e=.returned (bl F)∧aM w'' F∧F.pure=nS (.mk 1 0 nm [] [] []) p.types∧∀c,c<w'.heap.size→jM c p.T p.types.length→(∀x∈p.types,aF c x=true)→ay c F)∧Ext w' w'')):=aa (fun w' e=>aa ((F9 (ow nm) p.T p.tc p.types w' (yL w' Qk.o) (FK.o.ext (X0.o.trans e)) Oi FL).mono (by
  rintro e2 w'' ⟨⟨F,Mg,h1,h2,h3⟩,hx⟩;exact⟨⟨F,Mg,h1,by rw[h2,qf],fun c hc k1 k2=>h3 c hc (qd c nm) k1 k2⟩,hx⟩)))
 unfold cr at HT;clear hW he hP hL hp hq hlen ih jc DB HV hk hn h0 nr hy Cm hpl nA FK;generalize p.A=PA at *;go_enter Tryz.func29,Tryz.ntmps29;go_upto_region 1 with fail;rw[HW.o];clear HW;go_upto_region 8 with fail;refine bC ?_;intro W8 sH;have X8:ahg (Ext W W8):=aa (by rw[sH];exact(eR _).alloc _);have D8:ahg (W8.heap[W.heap.size]?=some (.cells #[.string ⟨y.cls.toArray⟩,.string ⟨y.aq.toArray⟩,.int .i64 y.n,.slice y.A y.preds.length y.cap] 70 (0,0))):=aa (by rw[sH];exact ah _ _ _ rfl);have Fc:W.heap.size<W8.heap.size:=ae D8.o;have rk:w.heap.size+3≤W.heap.size:=by have:=bS.o;omega
 clear sH c0 c1 c2 c3 e0 e1 e2 r0 r1 r2 r3 n1 n2 n3;go_wp2
 go_loopw [12,13] (fun v i wr=>∃(j:Nat) (ts:List Tm),j≤p.kids.length∧i=.int .i64 j∧ahg (ts.length=j)∧ahg (ov w W8 wr W8.heap.size (w.heap.size+1+1) given p ((p.kids.take j).map EV) ts v)) (fun _ i _=>p.kids.length - (intOf i).toNat)
 case atStart=>exact⟨0,[],ahj _,rfl,aa rfl,aa ⟨World.ownsRow_nil _ _ _ _,by simp,by simp,by simp,by simp,rfl,eR _⟩⟩
 case round=>
  obtain⟨j,ts,xF,rfl,oH,HK⟩:=hrel;have XR:=aa (X8.o.trans HK.o.ext);have hwr:=HK.o.ext.size;have c3:=XR.o.cell qV.o.2;have n1:=(B1.o.ext XR.o).lt;have n2:=(B2.o.ext XR.o).lt
  by_cases hlt:j<p.kids.length
  ·have aS:(j:Int)<(p.kids.length:Int):=by omega
   have q8:(0:Int)≤(j:Int):=by omega
   obtain⟨bq,oq,rfl,Jo,q0,q1,q2,q3⟩:=(hall.o.ext (X0.o.trans X8.o)).at_ hlt;have HC:ahg (∀w',Ext wr w'→ahg (Calls Tryz.prog 29 #[.agg #[.slice x.D x.aA.length x.dc,.slice x.C x.ag.length x.cc,.slice (some ⟨bi,oi,none⟩) x.insts.length x.ic],.slice P preds.length pc,.slice L given.length lc,.agg #[.int .i64 (p.kids[j]'hlt).kind,.int .i64 (p.kids[j]'hlt).n,.slice (p.kids[j]'hlt).T (p.kids[j]'hlt).types.length (p.kids[j]'hlt).tc,.slice (p.kids[j]'hlt).A (p.kids[j]'hlt).kids.length (p.kids[j]'hlt).cap]] w' fun e w''=>(∃t,e=.returned (bl t)∧rr wr w'' given (p.kids[j]'hlt) (EV (p.kids[j]'hlt)) t)∧Ext wr w'')):=aa (fun w' e=>aa ((HT.o j hlt w' (XR.o.trans e)).o.mono (by
    rintro e2 w'' ⟨⟨t,Mg,ht⟩,hx⟩;exact⟨⟨t,Mg,⟨ht.iM,ht.is,fun c hc=>ht.away c (Nat.lt_of_lt_of_le hc e.size)⟩⟩,e.trans hx⟩)))
   have cS:ahg (p.kids.take (j+1)=p.kids.take j++[p.kids[j]'hlt]):=aa (ahl hlt);have FN:=aa (ahh hlt);have fk:ahg (∀w',Ext W8 w'→w'.cell? ⟨w.heap.size,0,none⟩=some (.slice x.D x.aA.length x.dc)∧w'.cell? ⟨w.heap.size,1,none⟩=some (.slice x.C x.ag.length x.cc)∧w'.cell? ⟨w.heap.size,2,none⟩=some (.slice (some ⟨bi,oi,none⟩) x.insts.length x.ic)∧w'.cell? ⟨w.heap.size+1,3,none⟩=some (.slice (some ⟨bq,oq,none⟩) p.kids.length p.cap)∧w'.cell? ⟨bq,oq+j*4,none⟩=some (.int .i64 (p.kids[j]'hlt).kind)∧w'.cell? ⟨bq,oq+j*4+1,none⟩=some (.int .i64 (p.kids[j]'hlt).n)∧w'.cell? ⟨bq,oq+j*4+2,none⟩=some (.slice (p.kids[j]'hlt).T (p.kids[j]'hlt).types.length (p.kids[j]'hlt).tc)∧w'.cell? ⟨bq,oq+j*4+3,none⟩=some (.slice (p.kids[j]'hlt).A (p.kids[j]'hlt).kids.length (p.kids[j]'hlt).cap)):=aa (fun w' e=>by
    obtain⟨a0,a1,a2⟩:=HEn.o w' (X8.o.trans e);exact⟨a0,a1,a2,(X8.o.trans e).cell qV.o.2,e.cell q0,e.cell q1,e.cell q2,e.cell q3⟩)
   have hbr:bq<wr.heap.size:=by omega
   clear q0 q1 q2 q3 c3 Jo HT;generalize p.kids[j]'hlt=k at *;obtain⟨A6,c6,hv,-,-,-,-⟩:=ak.own eT (l:=ts) HK.o.own;subst hv;obtain⟨s0,s1,s2,s3,s4,s5,s6,s7⟩:=fk.o wr HK.o.ext;have Ve:ts.length≤40000:=by have:=oH.o;omega
   go_upto_region 12 with fail
   go_region_held3 (fun w'=>w'.cell? ⟨w.heap.size,0,none⟩=some (.slice x.D x.aA.length x.dc)∧w'.cell? ⟨w.heap.size,1,none⟩=some (.slice x.C x.ag.length x.cc)∧w'.cell? ⟨w.heap.size,2,none⟩=some (.slice (some ⟨bi,oi,none⟩) x.insts.length x.ic)∧w'.cell? ⟨w.heap.size+1,3,none⟩=some (.slice (some ⟨bq,oq,none⟩) p.kids.length p.cap)∧w'.cell? ⟨bq,oq+j*4,none⟩=some (.int .i64 k.kind)∧w'.cell? ⟨bq,oq+j*4+1,none⟩=some (.int .i64 k.n)∧w'.cell? ⟨bq,oq+j*4+2,none⟩=some (.slice k.T k.types.length k.tc)∧w'.cell? ⟨bq,oq+j*4+3,none⟩=some (.slice k.A k.kids.length k.cap)) (first|assumption|go_keep) (first
    |(
     go_at_call 29
     refine Calls.mono (HC.o _ (by repeat(first|exact eR _|exact eA (by assumption) _|refine eA ?_ _|refine eM ?_ _ _|refine eD ?_|refine eN ?_ _))).o ?_;rintro e w6 ⟨⟨t,rfl,ht⟩,xI⟩;have X6:=aa xI;have kS:=fk.o w6 (HK.o.ext.trans xI);have Jp:ahg (∀c,(Value.slice A6 ts.length c6).ownBlock=some c→ay c t):=aa (fun c hc=>by
      have:=HK.o.own.lt c hc;have h9:=ry.o c (by omega);exact ht.away c (by omega) h9.1 (oM.o c h9.2 k FN.o))
     have Om:ahg (ay (w.heap.size+1+1) t):=aa (by
      have h9:=ry.o (w.heap.size+1+1) (by omega);exact ht.away _ (by omega) h9.1 (oM.o _ h9.2 k FN.o))
     have Oo:ahg (∀c,c<w.heap.size→(∀g∈given,ay c g)→aL c p→ay c t):=aa (fun c hc h1 h2=>ht.away c (by omega) h1 (oM.o c h2 k FN.o));have Hq:ahg (t.pure=EV k):=aa ht.is;have nt:=aa ht.iM;have h6s:=xI.size;clear ht xI)
    |(
     refine aI _ rfl (.tmp 63) (.tmp 73) 28 rfl W8.heap.size 40 j0 _ 6 104 Tryz.underlying28 hj mM gS iv rfl (by decide) (.slice A6 ts.length c6) ts.length (ts.flatMap eT.f) rfl (bk HK.o.own (X6.o.trans (by repeat(first|exact eR _|exact eA (by assumption) _|refine eA ?_ _|refine eM ?_ _ _|refine eD ?_|refine eN ?_ _)))) (some ⟨_,0,none⟩) 1 1 [.int .i64 t.kind,.int .i64 t.n,.string ⟨t.name.toArray⟩,.slice t.V t.vars.length t.vc,.slice t.T t.types.length t.tc,.slice t.A t.kids.length t.cap] rfl (by first|exact Row.Ca _ _ _ _ _ _ (heap_alloc_new _ _)|exact Row.Ca _ _ _ _ _ _ (ah _ _ _ (by simp))|exact Row.Ca _ _ _ _ _ _ (cn _ _)) (by intro z hz;simp at hz;rcases hz with rfl|rfl|rfl|rfl|rfl|rfl<;>rfl) (by unfold maxLen;omega) (by omega) (aho (aho hwr h6s) (Ext.size (by repeat(first|exact eR _|exact eA (by assumption) _|refine eA ?_ _|refine eM ?_ _ _|refine eD ?_|refine eN ?_ _)))) ?_;intro v7 w7 MP Rp Sx;have uw:=aa (HK.o.snoc (ahi _) (X6.o.trans (by repeat(first|exact eR _|exact eA (by assumption) _|refine eA ?_ _|refine eM ?_ _ _|refine eD ?_|refine eN ?_ _))) (nt.o.ext (by repeat(first|exact eR _|exact eA (by assumption) _|refine eA ?_ _|refine eM ?_ _ _|refine eD ?_|refine eN ?_ _))) Hq.o Jp.o Om.o Oo.o (by rw[ik,ahn];exact MP) Rp (by
      rcases Sx with e|e
      ·exact .inl e
      ·exact .inr (fun c hc=>by rw[e] at hc;injection hc with hc;omega)))
     have Ql:ahg (ov w W8 w7 W8.heap.size (w.heap.size+1+1) given p ((p.kids.take (j+1)).map EV) (ts++[t]) v7):=aa (by rw[cS.o,ahz];exact uw.o);have FO:ahg ((ts++[t]).length=j+1):=aa (by have:=oH.o;simp[this]);have kS:=fk.o w7 Ql.o.ext;clear MP Rp Sx uw))
   go_wp2;go_roundw
   case rel=>exact⟨j+1,ts++[t],hlt,by go_num,FO,Ql⟩
   case measure=>simp[intOf];omega
  ·have bU:¬(j:Int)<(p.kids.length:Int):=by omega
   have ox:ahg (ov w W8 wr W8.heap.size (w.heap.size+1+1) given p (p.kids.map EV) ts u12):=aa (by have:=HK.o;rwa [ahm (by omega)] at this);have Sy:ahg (∀w',Ext W8 w'→w'.cell? ⟨W.heap.size,0,none⟩=some (.string ⟨y.cls.toArray⟩)∧w'.cell? ⟨W.heap.size,1,none⟩=some (.string ⟨y.aq.toArray⟩)∧w'.cell? ⟨w.heap.size+1,2,none⟩=some (.slice p.T p.types.length p.tc)):=aa (fun w' e=>⟨e.cell (af D8.o 0),e.cell (af D8.o 1),(X8.o.trans e).cell qV.o.1⟩);have HIr:ahg (∀w',Ext wr w'→ahg (Calls Tryz.prog 50 #[.agg #[.int .i64 1,.int .i64 0,.string ⟨nm.toArray⟩,.slice none 0 0,.slice none 0 0,.slice none 0 0],.slice p.T p.types.length p.tc] w' fun e w''=>(∃F,e=.returned (bl F)∧aM w'' F∧F.pure=nS (.mk 1 0 nm [] [] []) p.types∧(∀c,c<wr.heap.size→jM c p.T p.types.length→(∀x∈p.types,aF c x=true)→ay c F)∧(wr.heap.size<w'.heap.size→ay wr.heap.size F))∧Ext w' w''∧Ext wr w'')):=aa (fun w' e=>aa ((HI.o w' (XR.o.trans e)).o.mono (by
    rintro e2 w'' ⟨⟨F,Mg,h1,h2,h3⟩,hx⟩;have h4:=HTo.o wr.heap.size (by have:=X0.o.size;omega);exact⟨⟨F,Mg,h1,h2,fun c hc k1 k2=>h3 c (Nat.lt_of_lt_of_le hc e.size) k1 k2,fun hl=>h3 _ hl h4.1 h4.2⟩,hx,e.trans hx⟩)))
   obtain⟨s0,s1,s2⟩:=Sy.o wr ox.o.ext;have JZ:W.heap.size<wr.heap.size:=by omega
   have Vg:W.heap.size≠wr.heap.size:=by omega
   have ki1:w.heap.size+1≠wr.heap.size:=by omega
   clear HK HT;go_upto_region 13 with fail
   go_cut [14] (fun s14 wx=>∃(Xx:Nat) (F:Tm),s14=.pointer (some ⟨Xx,0,none⟩)∧ahg (wK wr wx Xx F)∧ahg (F.pure=nS (.mk 1 0 nm [] [] []) p.types)∧ahg (∀c,c<wr.heap.size→jM c p.T p.types.length→(∀x∈p.types,aF c x=true)→ay c F))
   case first=>
    go_region_held3 (fun w'=>w'.cell? ⟨W.heap.size,0,none⟩=some (.string ⟨y.cls.toArray⟩)∧w'.cell? ⟨W.heap.size,1,none⟩=some (.string ⟨y.aq.toArray⟩)∧w'.cell? ⟨w.heap.size+1,2,none⟩=some (.slice p.T p.types.length p.tc)) (first|with_reducible assumption|(obtain⟨g0,g1,g2⟩:=kS;first|with_reducible exact⟨dv Vg _ _ _ _ _ _ g0,dv Vg _ _ _ _ _ _ g1,dv ki1 _ _ _ _ _ _ g2⟩|with_reducible exact⟨jq Vg _ _ _ _ _ _ g0,jq Vg _ _ _ _ _ _ g1,jq ki1 _ _ _ _ _ _ g2⟩)|go_keep) (first
     |(
      go_at_call 51
      refine Calls.mono (HN.o _) ?_;rintro e y1 ⟨rfl,rfl⟩)
     |(
      go_at_call 50
      refine Calls.mono (HIr.o _ (by repeat(first|exact eR _|exact eA (by assumption) _|refine eA ?_ _|refine eM ?_ _ _|refine eD ?_|refine eN ?_ _))).o ?_;rintro e y2 ⟨⟨F,rfl,Xy,hF2,hF3,hF4⟩,hx,ha⟩;have EA:=aa ha;have kS:=Sy.o y2 (ox.o.ext.trans EA.o)
      first
       |(have hz:=aa ((hx.heap (ae (cn wr _))).trans (cn wr _));obtain⟨z0,z1,z2,z3,z4,z5,iE,iF,iG,iH,um,uo⟩:=bn hz.o;have hzl:=ae hz.o)
       |(have hz:=aa ((hx.heap (ae (ah wr _ _ rfl))).trans (ah wr _ _ rfl));obtain⟨z0,z1,z2,z3,z4,z5,iE,iF,iG,iH,um,uo⟩:=bn hz.o;have hzl:=ae hz.o)
       |skip))
    all_goals (go_wp2_with fail;go_meet;first|refine⟨y2.heap.size,F,rfl,?_,aa hF2,aa hF3⟩|refine⟨wr.heap.size,F,rfl,?_,aa hF2,aa hF3⟩)
    ·have hA:=wK.behind EA.o Xy;exact aa hA
    ·have ha:=hF4 (by simp);have hA:=wK.ahead EA.o (ahi _) hz.o Xy ha;exact aa hA
    ·have ha:=hF4 (by simp);have hA:=wK.ahead EA.o (ahi _) hz.o Xy ha;exact aa hA
   case rest=>
    obtain⟨Xx,F,rfl,Qn,Ol,Jn⟩:=hcut;have Xz:=aa Qn.o.x;obtain⟨A6,c6,hv,l1,l2,hrow,-⟩:=ak.own eT (l:=ts) (bk ox.o.own Qn.o.x);subst hv;have XH:=aa (fun t ht=>(ox.o.iM t ht).ext Qn.o.x);have HC:=aa (F8 A6 c6 ts F wc ⟨hrow,XH.o⟩ Qn.o.iM (by have:=oH.o;omega));obtain⟨d0,d1,d2,d3,d4,d5⟩:=Qn.o.box.cells;have d6:=Qn.o.box.lt;unfold bl at HC;clear hrow s0 s1 s2 HI HIr HN;go_wp2_with fail;refine HC.o.mono ?_;rintro e w9 ⟨⟨u,rfl,Cn,xJ,DC⟩,hx⟩;have X9:=aa (X0.o.trans (XR.o.trans (Xz.o.trans hx)));have B9:ahg (w9.heap[w.heap.size+1+1]?=some (.cells #[.int .i64 0,.int .i64 0,.string ⟨#[]⟩,.slice none 0 0,.slice none 0 0,.slice none 0 0] 40)):=aa (((XR.o.trans (Xz.o.trans hx)).heap (ae B3.o)).trans B3.o);have MN:=ry.o (w.heap.size+1+1) (by omega);have hxs:=Xz.o.size;have HFb:ahg (∀c,c<w.heap.size+3→aL c p→ay c F):=aa (fun c hc h=>Jn.o c (by omega) (HTp.o c h).1 (HTp.o c h).2);have Dy:=aa (DC (w.heap.size+1+1) (by omega) (HFb.o _ (by omega) MN.2) (fun t ht=>ox.o.res t ht));have HE:ahg (rr w (cw w9 (w.heap.size+1+1) u) given p QQ u):=aa ⟨Cn.grown (aZ _ _ _) (fun c e=>by injection e with e;subst e;exact Dy.o),by rw[xJ,Vd.o,←ox.o.is,←Ol.o,List.foldl_map];rfl,fun c hc h1 h2=>DC c (by omega) (HFb.o c (by omega) h2) (fun t ht=>ox.o.away t ht c hc h1 h2)⟩;have XG:=aa (bg X9.o (by omega:w.heap.size≤w.heap.size+1+1) u);obtain⟨z0,z1,z2,z3,z4,z5,iE,iF,iG,iH,um,uo⟩:=bn B9.o;have hz:=ae B9.o;clear Cn xJ DC hx HC d0 d1 d2 d3 d4 d5 d6 Dy MN;go_wp2;refine bodyPost_ret (v:=bl u) ?_ rfl ⟨⟨u,rfl,HE.o⟩,XG.o⟩;simp[results,Tryz.f29,go_sem,z0,z1,z2,z3,z4,z5]
set_option maxRecDepth 512
set_option maxHeartbeats 200000
theorem Ct (x:dz) (P:Option Addr) (pc:Nat) (preds:List Pd) (L:Option Addr) (lc:Nat) (given:List Tm) (hpl:∀y∈x.insts,y.preds.length≤40000) (ur:∀d∈preds,d.ty.size≤900000) (p:Pf):p.size≤1000000→gF p=true→eB p=true→Oh x P pc preds L lc given p:=by
 induction p using Pf.ind with
 |h p ih=>
 intro hsz hwd hsm w he hP hL hp hq;have IH:∀k∈p.kids,Oh x P pc preds L lc given k:=fun k hk=>ih k hk (by have:=Pf.cB hk;omega) ((j9 hwd).2.2 k hk) ((fZ hsm).2 k hk)
 obtain⟨q,MO⟩:=Option.isSome_iff_exists.1 hq
 rcases dM MO with ⟨h,-⟩|⟨h,-⟩|⟨h,-⟩
 ·exact pY x P pc preds L lc given p h w he hP hL hp hq
 ·exact pZ x P pc preds L lc given p h hpl ur hsz hwd hsm IH w he hP hL hp hq
 ·exact rG x P pc preds L lc given hpl p h IH w he hP hL hp hq
namespace Tm.Pure
end Tm.Pure
end Go.Proofs.YtigafbmabjglfaaGreatDoor
