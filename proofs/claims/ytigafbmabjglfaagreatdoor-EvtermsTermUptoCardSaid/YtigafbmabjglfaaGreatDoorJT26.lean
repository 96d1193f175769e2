import Derived.Test.YtigafbmabjglfaaGreatDoorJT25
import Derived.Lib.AppendZeros
namespace Go.Proofs.YtigafbmabjglfaaGreatDoor
open Go.RowKit Go.Sort
theorem CN : (Tryz.prog.info? 9).map (fun i=>(i.zero,i.size,i.bytes))=some (some (.string ⟨#[]⟩),1,16):=by kernel_rfl
theorem GJ {p:Nat→Bool}{n:Nat}(h:∀j,j<n→p j=true):(List.range n).all p=true:=by
 rw[ahA];intro j hj;exact h j (by simpa using hj)
theorem Ak {p:Nat→Bool}{n k:Nat}(hk:k<n) (h:p k=false):(List.range n).all p=false:=by
 rw[List.all_eq_false];exact⟨k,by simpa using hk,by simp[h]⟩
theorem Lp (l:List dR) (x:aj):decide (gT l x<0) = !(names l).any (· == x):=by
 have:=tL (names l) x;unfold gT;rw[←this]
 by_cases h:gV (names l) x<0
 ·simp[h]
 ·simp[h];omega
def zh (ns s:List aj) (k:Nat):Bool:=ns.any (· == s.getD k []) && !((s.take k).any (· == s.getD k []))
theorem zi (A:Option Addr) (cap:Nat) (l:List aj) (k:Nat) (x:aj) (w:World) (h:jh w A l) (hk:k≤l.length) (hle:l.length≤9223372036854775807) :
  Calls Tryz.prog 186 #[.slice A k cap,encStr x] w fun e w'=>e=.returned (.bool ((l.take k).any (· == x)))∧w'=w:=by
 have:=QD A cap (l.take k) x w (h.take hk) (by rw[List.length_take];omega)
 rwa [List.length_take,Nat.min_eq_left hk] at this
set_option maxRecDepth 10000
set_option maxHeartbeats 8000000
theorem CO (A:Option Addr) (cap:Nat) (l:List dR) (c:dR) (w:World) (h:dP w A l) (hl:l.length≤9223372036854775807) (hs:jh w c.A c.sup) (hc:c.sup.length≤c.cap) (hc2:c.cap≤9223372036854775807) :
  Calls Tryz.prog 137 #[.slice A l.length cap,.agg #[encStr c.name,.slice c.A c.sup.length c.cap,c.Lj]] w fun e w'=>e=.returned (.bool (lX (names l) c.sup))∧Ext w w':=by
 have HK:ahg (lX (names l) c.sup=(List.range c.sup.length).all (zh (names l) c.sup)):=aa rfl;have HN:ahg (∀k,zh (names l) c.sup k=((names l).any (· == c.sup.getD k []) && !((c.sup.take k).any (· == c.sup.getD k [])))):=aa (fun k=>rfl);have xX:=aa h;have gw:=aa hs;obtain⟨nm,A1,c1,S,mt⟩:=c;simp only at *;clear h hs;have hc3:(S.length:Int)≤(c1:Int):=by omega
 generalize lX (names l) S=R at *;go_enter Tryz.func137,Tryz.ntmps137;go_wp2
 go_loopw [10] (fun i wr=>∃k:Nat,k≤S.length∧i=.int .i64 k∧ahg (∀j,j<k→zh (names l) S j=true)∧ahg (∃d,wr=(w.alloc (.cells #[encStr nm,.slice A1 S.length c1,mt] 68)).drewN d)) (fun i _=>S.length - (intOf i).toNat)
 case atStart=>exact⟨0,ahj _,rfl,aa (fun j hj=>absurd hj (by omega)),aa ⟨0,rfl⟩⟩
 case round=>
  obtain⟨k,hk,rfl,HJ,HW⟩:=hrel;obtain⟨d,rfl⟩:=HW.o
  by_cases hlt:k<S.length
  ·obtain⟨b,o,rfl,hb,q0⟩:=gw.o.at_ hlt;have aS:(k:Int)<(S.length:Int):=by omega
   have dy:(0:Int)≤(k:Int):=by omega
   have uX:(k:Int)≤(S.length:Int):=by omega
   have hk2:(k:Int)≤(c1:Int):=by omega
   have Hk:=aa (HN.o k);generalize S.getD k []=y at *;have Ha:=fun w' e=>aa (ki A cap l y w' (xX.o.ext e) hl)
   have Hh:=fun w' e=>aa (zi (some ⟨b,o,none⟩) c1 S k y w' (gw.o.ext e) hk (by omega))
   have uD:=Lp l y;generalize gT l y=a at *;have HA:=aa Ha;have HH:=aa Hh;clear Ha Hh;cases h1:(names l).any (· == y)
   ·rw[h1] at uD Hk;simp only[Bool.not_false,decide_eq_true_eq] at uD;have hR:R=false:=by rw[HK.o];exact Ak hlt (by rw[Hk.o];rfl)
    subst hR;go_wp2_with fail;refine(HA.o _ (by repeat(first|exact eR _|exact eA (by assumption) _|refine eA ?_ _|refine eM ?_ _ _|refine eD ?_|refine eN ?_ _))).o.mono ?_;rintro e w1 ⟨rfl,rfl⟩;go_wp2;go_ret;exact⟨rfl,(by repeat(first|exact eR _|exact eA (by assumption) _|refine eA ?_ _|refine eM ?_ _ _|refine eD ?_|refine eN ?_ _))⟩
   ·rw[h1] at uD Hk;simp only[Bool.not_true,decide_eq_false_iff_not] at uD;cases h2:(S.take k).any (· == y)
    ·rw[h2] at HH Hk;go_wp2_with fail;refine(HA.o _ (by repeat(first|exact eR _|exact eA (by assumption) _|refine eA ?_ _|refine eM ?_ _ _|refine eD ?_|refine eN ?_ _))).o.mono ?_;rintro e w1 ⟨rfl,rfl⟩;go_wp2_with fail;refine(HH.o _ (by repeat(first|exact eR _|exact eA (by assumption) _|refine eA ?_ _|refine eM ?_ _ _|refine eD ?_|refine eN ?_ _))).o.mono ?_;rintro e w1 ⟨rfl,rfl⟩;go_wp2;go_roundw
     case rel=>
      refine⟨k+1,hlt,by go_num,aa (fun j hj => ?_),aa ⟨_,rfl⟩⟩
      by_cases e:j=k
      ·subst e;rw[Hk.o];rfl
      ·exact HJ.o j (by omega)
     case measure=>simp[intOf];omega
    ·rw[h2] at HH Hk;have hR:R=false:=by rw[HK.o];exact Ak hlt (by rw[Hk.o];rfl)
     subst hR;go_wp2_with fail;refine(HA.o _ (by repeat(first|exact eR _|exact eA (by assumption) _|refine eA ?_ _|refine eM ?_ _ _|refine eD ?_|refine eN ?_ _))).o.mono ?_;rintro e w1 ⟨rfl,rfl⟩;go_wp2_with fail;refine(HH.o _ (by repeat(first|exact eR _|exact eA (by assumption) _|refine eA ?_ _|refine eM ?_ _ _|refine eD ?_|refine eN ?_ _))).o.mono ?_;rintro e w1 ⟨rfl,rfl⟩;go_wp2;go_ret;exact⟨rfl,(by repeat(first|exact eR _|exact eA (by assumption) _|refine eA ?_ _|refine eM ?_ _ _|refine eD ?_|refine eN ?_ _))⟩
  ·have bU:(S.length:Int)≤(k:Int):=by omega
   have hR:R=true:=by rw[HK.o];exact GJ (fun j hj=>HJ.o j (by omega))
   subst hR;go_wp2;go_ret;exact⟨rfl,(by repeat(first|exact eR _|exact eA (by assumption) _|refine eA ?_ _|refine eM ?_ _ _|refine eD ?_|refine eN ?_ _))⟩
set_option maxRecDepth 512
set_option maxHeartbeats 200000
theorem GK {α:Type}(p:α→Bool) (l:List α){k:Nat}(h:k<l.length):(l.drop k).all p=(p (l[k]'h)&&(l.drop (k+1)).all p):=by
 rw[List.drop_eq_getElem_cons h];rfl
set_option maxRecDepth 10000
set_option maxHeartbeats 8000000
theorem Lq (n:Int) (A:Option Addr) (cap:Nat) (es:List Edge) (w:World) (h:nW w A es) (hlen:es.length≤100000) :
  Calls Tryz.prog 188 #[.int .i64 n,.slice A es.length cap] w fun e w'=>e=.returned (.int .i64 (if eo n es then 0 else 1))∧Ext w w':=by
 have Hr:=aa h;clear h
 by_cases h0:n<0
 ·have hR:eo n es=false:=by unfold eo;simp;omega
  rw[hR];clear hR;go_enter Tryz.func188,Tryz.ntmps188;go_wp2;go_ret;exact⟨rfl,(by repeat(first|exact eR _|exact eA (by assumption) _|refine eA ?_ _|refine eM ?_ _ _|refine eD ?_|refine eN ?_ _))⟩
 ·by_cases h1:1000<n
  ·have hR:eo n es=false:=by unfold eo;simp;omega
   rw[hR];clear hR;go_enter Tryz.func188,Tryz.ntmps188;go_wp2;go_ret;exact⟨rfl,(by repeat(first|exact eR _|exact eA (by assumption) _|refine eA ?_ _|refine eM ?_ _ _|refine eD ?_|refine eN ?_ _))⟩
  ·have hR:eo n es=es.all (df n):=by
    unfold eo;have e1:decide (0≤n)=true:=by simp;omega
    have e2:decide (n≤1000)=true:=by simp;omega
    rw[e1,e2];rfl
   rw[hR];have HA:ahg (∀k,(h:k<es.length)→(es.drop k).all (df n)=(df n (es[k]'h)&&(es.drop (k+1)).all (df n))):=aa (fun k h=>GK _ _ h);have HD:ahg ((es.drop 0).all (df n)=es.all (df n)):=aa rfl;clear hR;generalize es.all (df n)=R at *;go_enter Tryz.func188,Tryz.ntmps188;go_wp2
   go_loopw [15] (fun i wr=>∃k:Nat,k≤es.length∧i=.int .i64 k∧ahg (Ext w wr)∧ahg ((es.drop k).all (df n)=R)) (fun i _=>es.length - (intOf i).toNat)
   case atStart=>exact⟨0,ahj _,rfl,aa (by repeat(first|exact eR _|exact eA (by assumption) _|refine eA ?_ _|refine eM ?_ _ _|refine eD ?_|refine eN ?_ _)),HD⟩
   case round=>
    obtain⟨k,hk,rfl,HX,HK⟩:=hrel
    by_cases hlt:k<es.length
    ·obtain⟨b,o,rfl,hb,c0,c1⟩:=nW.at_ (ak.ext iV Hr.o HX.o) hlt;have aS:(k:Int)<(es.length:Int):=by omega
     have Hs:=aa (HA.o k hlt);have HE:ahg (df n (es[k]'hlt)=(decide (0≤(es[k]'hlt).a)&&decide (0≤(es[k]'hlt).b)&&(decide ((es[k]'hlt).a<n)&&decide ((es[k]'hlt).b<n)))):=aa rfl;generalize df n (es[k]'hlt)=E at *;generalize (es[k]'hlt).a=ea at *;generalize (es[k]'hlt).b=eb at *;cases E
     ·have hR:R=false:=by rw[←HK.o,Hs.o];rfl
      subst hR;have hor:min ea eb<0∨n≤max ea eb:=by
       have:=HE.o;simp at this;omega
      by_cases hm:min ea eb<0
      ·go_wp2
       all_goals
        go_ret;exact⟨rfl,HX.o.trans (by repeat(first|exact eR _|exact eA (by assumption) _|refine eA ?_ _|refine eM ?_ _ _|refine eD ?_|refine eN ?_ _))⟩
      ·have Mu:n≤max ea eb:=by omega
       have Xc:max ea eb≥n:=Mu;clear hor;go_wp2
       all_goals
        go_ret;exact⟨rfl,HX.o.trans (by repeat(first|exact eR _|exact eA (by assumption) _|refine eA ?_ _|refine eM ?_ _ _|refine eD ?_|refine eN ?_ _))⟩
     ·have bP:=HE.o;simp only[eq_comm (a:=true),ahv,decide_eq_true_eq] at bP;have hm:¬min ea eb<0:=by omega
      have Xc:¬max ea eb≥n:=by omega
      have Te:¬n≤max ea eb:=by omega
      clear bP;go_wp2
      all_goals
       go_roundw
       case rel=>exact⟨k+1,hlt,by go_num,aa (HX.o.trans (by repeat(first|exact eR _|exact eA (by assumption) _|refine eA ?_ _|refine eM ?_ _ _|refine eD ?_|refine eN ?_ _))),aa (by rw[←HK.o,Hs.o];rfl)⟩
       case measure=>simp[intOf];omega
    ·have bU:(es.length:Int)≤(k:Int):=by omega
     have hR:R=true:=by rw[←HK.o,List.drop_eq_nil_of_le (by omega)];rfl
     subst hR;go_wp2;go_ret;exact⟨rfl,HX.o⟩
set_option maxRecDepth 512
set_option maxHeartbeats 200000
theorem mX : (Tryz.prog.info? 3).map (fun i=>(i.zero,i.size,i.bytes))=some (some (.int .i64 0),1,8):=by kernel_rfl
theorem CP : (Tryz.prog.info? 38).map (fun i=>(i.zero,i.size,i.bytes))=some (some (.slice none 0 0),1,24):=by kernel_rfl
theorem CQ (w:World) (cs:Array Value) (t:TypeId) (o:Obj) (i:Nat):((w.alloc (.cells cs t)).alloc o).cell? ⟨w.heap.size,i,none⟩=cs[i]?:=by
 have h:((w.alloc (.cells cs t)).alloc o).heap[w.heap.size]?=some (.cells cs t (0,0)):=by
  show((w.heap.push (.cells cs t)).push o)[w.heap.size]?=_;rw[Array.getElem?_push];rw[if_neg (by simp),Array.getElem?_push];simp
 simp only[World.cell?,h];simp
theorem Al (v:Value) (n:Nat) (h:v.cells=#[v]):madeCells v.cells (n*1)=(List.replicate n v).toArray:=by
 rw[h];unfold madeCells
 apply Array.ext
 ·simp
 ·intro i h1 h2;simp[Nat.mod_one]
theorem Row.Lr {w:World}{b:Nat}{t:TypeId}{fr:Nat×Nat}(v:Value) (h:w.heap[b]?=some (.cells #[v] t fr)):Row w (some ⟨b,0,none⟩) 1 1 [v]:=by
 refine⟨rfl,fun _=>⟨b,0,rfl,ae h,fun j u hu => ?_⟩⟩
 match j with
 |0=>simp at hu;subst hu;simp[World.cell?,h]
 |j+1=>simp at hu
theorem gg.made (w:World) (n:Nat):gg 38 3 w.heap.size (w.alloc (.cells (List.replicate n (Value.slice none 0 0)).toArray 38)) w.heap.size (List.replicate n ⟨.slice none 0 0,[]⟩) where
 blk:=by
  have:=heap_alloc_new w (.cells (List.replicate n (Value.slice none 0 0)).toArray 38);rw[this];simp
 ge:=ahi _
 own i h:=by simp;exact World.ownsRow_nil _ _ _ _
 OM i j hi hj AK he:=by simp[Value.ownBlock]
 nb i h:=by simp[Value.ownBlock]
set_option maxRecDepth 10000
set_option maxHeartbeats 8000000
theorem OP (n:Nat) (A:Option Addr) (cap:Nat) (es:List Edge) (w:World) (h:nW w A es) (hn:n≤1000) (hlen:es.length≤100000) (bP:∀e∈es,df n e=true) :
  Calls Tryz.prog 190 #[.int .i64 n,.slice A es.length cap] w fun e w'=>(∃b ts,e=.returned (.slice (some ⟨b,0,none⟩) n n)∧ts.length=n∧gg 38 3 w.heap.size w' b ts∧∀v (h:v<ts.length),(ts[v]'h).l=fO es v)∧Ext w w':=by
 obtain⟨i0,hi,hz0,hz1,hz2⟩:=info_parts mX;obtain⟨i1,hj,mM,gS,iv⟩:=info_parts CP;have Hr:=aa h;have Tf:=aa bP;clear h bP;have je:=run_make (P:=Tryz.prog) w 272 38 i1 _ Tryz.underlying272 hj mM .i64 .i64 n n (by omega) (Int.le_refl _) (by rw[iv];omega) (by omega);have Vu:madeCells (Value.slice none 0 0).cells ((n:Int).toNat*i1.size)=(List.replicate n (Value.slice none 0 0)).toArray:=by
  rw[gS];exact Al _ _ rfl
 rw[Vu] at je;simp only[Int.toNat_natCast] at je;have T0:=aa (gg.made w n);clear Vu;have tV:(n:Int)≤1000:=by omega
 generalize hZ:(List.replicate n (Value.slice none 0 0)).toArray=Z at *;have HZ:=aa hZ;clear hZ;go_enter Tryz.func190,Tryz.ntmps190;go_wp2
 go_loopw [12] (fun i wr=>∃(k:Nat) (ts:List MW),k≤es.length∧i=.int .i64 k∧ts.length=n∧ahg (gg 38 3 w.heap.size wr w.heap.size ts)∧ahg (∀v (h:v<ts.length),(ts[v]'h).l=fO (es.take k) v)∧ahg (Ext w wr)) (fun i _=>es.length - (intOf i).toNat)
 case atStart=>exact⟨0,_,ahj _,rfl,by simp,T0,aa (by intro v h;simp[fO]),aa (by repeat(first|exact eR _|exact eA (by assumption) _|refine eA ?_ _|refine eM ?_ _ _|refine eD ?_|refine eN ?_ _))⟩
 case round=>
  obtain⟨k,ts,hk,rfl,jb,HT,HL,HX⟩:=hrel
  by_cases hlt:k<es.length
  ·obtain⟨be,o,rfl,ZJ,c0,c1⟩:=nW.at_ (ak.ext iV Hr.o HX.o) hlt;have aS:(k:Int)<(es.length:Int):=by omega
   have GL:=Tf.o _ (ahh hlt);have cS:ahg (es.take (k+1)=es.take k++[es[k]'hlt]):=aa (by rw[ahl hlt]);unfold df at GL;simp only[ahv,decide_eq_true_eq] at GL;obtain⟨v,hv⟩:=Int.eq_ofNat_of_zero_le GL.1.1;have Hn:ahg (∀u,fO (es.take (k+1)) u=fO (es.take k) u++if (v:Int) == (u:Int) then [(es[k]'hlt).b] else []):=aa (fun u=>by rw[cS.o,ze,hv]);rw[hv] at c0 GL;clear cS hv;generalize (es[k]'hlt).b=eb at *;have hvn:v<n:=by omega
   have DI:v<ts.length:=by omega
   have Jb:(v:Int)<(n:Int):=by omega
   have hv0:(0:Int)≤(v:Int):=by omega
   have hcv:=HT.o.cell DI;have P0:=HT.o.lt;have QH:(ts[v]'DI).l.length≤100000:=by rw[HL.o v DI];unfold fO;rw[List.length_map];have:=List.length_filter_le (fun e:Edge=>e.a == (v:Int)) (es.take k);have:=List.length_take_le k es;omega
   have CR:=aa (HT.o.own v DI);have HV:ahg ((ts[v]'DI).val=(ts[v]'DI).val):=aa rfl;clear GL;generalize hval:(ts[v]'DI).val=sv at *;generalize hlv:(ts[v]'DI).l=lv at *;have OQ:=aa hval;have S4:=aa hlv;clear hval hlv HV;go_wp2
   go_region_law (first
    |(
     refine aI _ rfl (.tmp 23) (.tmp 26) 38 rfl w.heap.size 3 i0 _ 1 8 Tryz.underlying38 hi hz0 hz1 hz2 rfl (by decide) sv lv.length (lv.map (Value.int .i64)) rfl (bk CR.o (by repeat(first|exact eR _|exact eA (by assumption) _|refine eA ?_ _|refine eM ?_ _ _|refine eD ?_|refine eN ?_ _))) (some ⟨_,0,none⟩) 1 1 [.int .i64 eb] rfl (Row.Lr _ (ah _ _ _ (by simp))) (by intro u hu;simp at hu;subst hu;rfl) (by unfold maxLen;omega) (by omega) (Ext.size (HX.o.trans (by repeat(first|exact eR _|exact eA (by assumption) _|refine eA ?_ _|refine eM ?_ _ _|refine eD ?_|refine eN ?_ _)))) ?_;intro v3 w4 jI hg3 wq;obtain⟨A3,c3,rfl,_,_,_,_⟩:=Ints.own (l:=lv++[eb]) (by simpa using jI);have p3:=gg.put (l':=lv++[eb]) (HT.o.ext (by repeat(first|exact eR _|exact eA (by assumption) _|refine eA ?_ _|refine eM ?_ _ _|refine eD ?_|refine eN ?_ _))) DI OQ.o (by simpa using jI) hg3 wq;rw[ahn,List.length_singleton] at p3;have P3:=aa p3;clear p3;have X3:=aa (Ext.app (HX.o.trans (by repeat(first|exact eR _|exact eA (by assumption) _|refine eA ?_ _|refine eM ?_ _ _|refine eD ?_|refine eN ?_ _))) hg3 (bk CR.o (by repeat(first|exact eR _|exact eA (by assumption) _|refine eA ?_ _|refine eM ?_ _ _|refine eD ?_|refine eN ?_ _))) (ahi _));have B3:=gg.after (HT.o.ext (by repeat(first|exact eR _|exact eA (by assumption) _|refine eA ?_ _|refine eM ?_ _ _|refine eD ?_|refine eN ?_ _))) DI OQ.o hg3;have hc3:w4.cell? ⟨w.heap.size,v,none⟩=some sv:=by rw[←OQ.o];simp[World.cell?,B3,DI]
     have hf3:w4.frozen? ⟨w.heap.size,v,none⟩=false:=by simp[World.frozen?,B3]
     have Uu:w4.cell? ⟨wr.heap.size,0,none⟩=some (.int .i64 v):=(World.cell?_of_block (a:=⟨wr.heap.size,0,none⟩) (hg3.block wr.heap.size (by simp;omega) (fun e=>by have:=(CR.o.lt _ e.symm).2;omega))).trans (CQ _ _ _ _ _);clear B3;clear jI hg3 wq))
   all_goals
    go_wp2;go_roundw
    case rel=>
     refine⟨k+1,ts.set v ⟨_,lv++[eb]⟩,hlt,by go_num,by simp[jb],P3,aa (fun u hu => ?_),aa (Ext.setCell X3.o (ahi _) _)⟩;rw[Hn.o u]
     by_cases e:u=v
     ·subst e;simp only[List.getElem_set_self,beq_self_eq_true,↓reduceIte];rw[←S4.o,HL.o u DI]
     ·rw[List.getElem_set_ne (fun h=>e h.symm),HL.o u (by simpa using hu)];have:((v:Int) == (u:Int))=false:=by simp;omega
      rw[this];simp
    case measure=>simp[intOf];omega
  ·have bU:(es.length:Int)≤(k:Int):=by omega
   have Yv:es.take k=es:=ahm (by omega);rw[Yv] at HL;go_wp2;go_ret;exact⟨⟨_,ts,rfl,jb,HT.o,HL.o⟩,HX.o⟩
set_option maxRecDepth 512
set_option maxHeartbeats 200000
def jz (ts:List MW) (v:Nat):List Nat:=((ts.getD v ⟨.slice none 0 0,[]⟩).l).map Int.toNat
def MX (ts:List MW):Prop:=∀s∈ts,∀y∈s.l,0≤y∧y<(ts.length:Int)
set_option maxRecDepth 10000
set_option maxHeartbeats 8000000
theorem OS (ty:TypeId) (mb b:Nat) (ts:List MW) (base:Nat) (Zz:mb<base) (hN:ts.length≤1000) (jF:MX ts):∀(c:Nat) (M:Nat→Bool) (v:Nat) (w:World),holes M ts.length=c→v<ts.length →
  gg 38 3 base w b ts→Marks ty w mb M →
  Calls Tryz.prog 189 #[.pointer (some ⟨mb,0,none⟩),.slice (some ⟨b,0,none⟩) ts.length ts.length,.int .i64 v] w fun e w'=>e=.returned (.tuple #[])∧w.grownBy w' (some mb)∧∃M',Marks ty w' mb M'∧Aj (jz ts) M M' v (jz ts v):=by
 intro c
 induction c using Nat.strongRecOn with
 |_ c ih=>
  intro M v w hc hv hT hM;obtain⟨A1,c1,he,hc1,hc2,hrow,hblk⟩:=Ints.own (hT.own v hv);have hcell:=hT.cell hv;rw[he] at hcell;have aef:mb<w.heap.size:=ae hM;have aeg:=hT.lt;have aeh:=hT.ge;have Yw:=aa hrow;have Yx:=aa hblk;have hs:jz ts v=((ts[v]'hv).l).map Int.toNat:=by unfold jz;simp[hv]
  have Hs:=aa hs;have Hl:=aa (jF _ (ahh hv));have hv':(v:Int)<(ts.length:Int):=by omega
  have hv0:(0:Int)≤(v:Int):=by omega
  have HT:=aa hT;have HM:=aa hM;have HC:=aa hc;have HI:=aa ih;clear hT hM he hrow hs jF ih hc hblk;generalize (ts[v]'hv).l=L at *;have OT:ahg ((L.map Int.toNat).take L.length=jz ts v):=aa (by rw[Hs.o];exact ahm (by simp));go_enter Tryz.func189,Tryz.ntmps189;go_wp2
  go_loopw [13] (fun i wr=>∃(k:Nat),k≤L.length∧i=.int .i64 k∧ahg (w.grownBy wr (some mb))∧ahg (∃M1,Marks ty wr mb M1∧Aj (jz ts) M M1 v ((L.map Int.toNat).take k))) (fun i _=>L.length - (intOf i).toNat)
  case atStart=>exact⟨0,ahj _,rfl,aa (World.grownBy.refl _ _),aa ⟨M,HM.o,Aj.start _ _ _⟩⟩
  case round=>
   obtain⟨k,hk,rfl,HG,HD⟩:=hrel
   by_cases hlt:k<L.length
   ·obtain⟨M1,OU,Qv⟩:=HD.o;have hmr:mb<wr.heap.size:=by have:=HG.o.size;omega
    have HR:ahg (Ints wr A1 L):=aa (Row.keep Yw.o HG.o.size (fun b o e hb=>HG.o.block b hb (fun h=>by have:=(Yx.o b o e).1;injection h with h;omega)));obtain⟨b1,o1,rfl,hb1,q1⟩:=HR.o.at_ hlt;have aS:(k:Int)<(L.length:Int):=by omega
    obtain⟨Qo,Cn⟩:=Hl.o _ (ahh hlt);obtain⟨u,hu⟩:=Int.eq_ofNat_of_zero_le Qo;have cS:ahg ((L.map Int.toNat).take (k+1)=(L.map Int.toNat).take k++[u]):=aa (by
     rw[ahl (by simpa using hlt)];simp[hu])
    have mj:ahg (u∈jz ts v):=aa (by
     rw[Hs.o,List.mem_map];exact⟨_,ahh hlt,by rw[hu];simp⟩)
    rw[hu] at q1 Cn;clear hu Qo;have huN:u<ts.length:=by omega
    have xJ:(u:Int)<1000:=by omega
    have DC:(0:Int)≤(u:Int):=by omega
    have hcm:=OU.cell (j:=u) (by omega);have hfm:=OU.free u;have Vv:=aa OU;have Tg:=aa Qv;clear HD OU Qv Cn;cases Qw:M1 u
    ·rw[Qw] at hcm;have RM:ahg (gg 38 3 base (wr.setCell ⟨mb,u,none⟩ (.bool true)) b ts):=aa (HT.o.keep (aR HG.o (kQ _ _ _ _)) (by intro j h;injection h with h;omega));have Yy:=aa (Vv.o.set u);have Hh:ahg (holes (fun i=>i == u||M1 i) ts.length<c):=aa (by
      have h1:=tu Qw ts.length huN;have h2:=zf Tg.o.sub ts.length;have h3:=HC.o;omega)
     have Th:=aa (HI.o _ Hh.o _ u _ rfl huN RM.o Yy.o);have Yz:ahg (w.grownBy (wr.setCell ⟨mb,u,none⟩ (.bool true)) (some mb)):=aa (aR HG.o (kQ _ _ _ _));clear Qw;go_wp2_with fail;refine Th.o.mono ?_;rintro e w3 ⟨rfl,hg3,M3,MZ,MR⟩;have HM4:=aa MZ;have YA:=aa (Tg.o.go mj.o MR);have HG4:=aa (aR Yz.o hg3);clear hg3 MZ MR;go_wp2;go_roundw
     case rel=>exact⟨k+1,hlt,by go_num,HG4,aa ⟨M3,HM4.o,by rw[cS.o];exact YA.o⟩⟩
     case measure=>simp[intOf];omega
    ·rw[Qw] at hcm;have YA:=aa (Tg.o.skip Qw);clear Qw;go_wp2;go_roundw
     case rel=>exact⟨k+1,hlt,by go_num,HG,aa ⟨M1,Vv.o,by rw[cS.o];exact YA.o⟩⟩
     case measure=>simp[intOf];omega
   ·have bU:(L.length:Int)≤(k:Int):=by omega
    have nr:k=L.length:=by omega
    obtain⟨M1,OU,Qv⟩:=HD.o;rw[nr,OT.o] at Qv;have Vv:=aa OU;have Tg:=aa Qv;clear HD OU Qv nr;go_wp2
    go_end0
    exact⟨rfl,HG.o,M1,Vv.o,Tg.o⟩
set_option maxRecDepth 512
set_option maxHeartbeats 200000
def mY (es:List Edge) (v:Nat):List Nat:=(fO es v).map Int.toNat
theorem CS {n:Nat}{es:List Edge}{ts:List MW}(bP:∀e∈es,df n e=true) (jb:ts.length=n) (hl:∀v (h:v<ts.length),(ts[v]'h).l=fO es v):jz ts=mY es:=by
 funext v
 unfold jz mY
 congr 1
 by_cases h:v<ts.length
 ·simp[h,hl v h]
 ·have hnil:fO es v=[]:=by
   unfold fO;simp only[List.map_eq_nil_iff,List.filter_eq_nil_iff];intro e he hv;have:=bP e he;unfold df at this;simp at this hv;omega
  simp[h,hnil]
theorem OV {n:Nat}{es:List Edge}{ts:List MW}(bP:∀e∈es,df n e=true) (jb:ts.length=n) (hl:∀v (h:v<ts.length),(ts[v]'h).l=fO es v):MX ts:=by
 intro s hs y hy;obtain⟨v,hv,rfl⟩:=List.getElem_of_mem hs;rw[hl v hv] at hy;unfold fO at hy;obtain⟨e,he,rfl⟩:=List.mem_map.1 hy;have:=bP e (List.mem_filter.1 he).1;unfold df at this;simp at this;rw[jb];omega
theorem kp (n:Nat):aT n (fun _=>false)=Array.replicate n (.bool false):=by
 unfold aT;rw[List.map_const'];simp
theorem zj : Tryz.zeroCells270=Array.replicate 1000 (.bool false):=by kernel_rfl
def dg (M:Nat→Bool) (k:Nat):List Int:=((List.range k).filter M).map Int.ofNat
theorem uN (M:Nat→Bool) (k:Nat):dg M (k+1)=dg M k++if M k then [(k:Int)] else []:=by
 unfold dg;rw[List.range_succ,List.filter_append,ahz];cases h:M k<;>simp[h]
theorem xc (M:Nat→Bool) (k:Nat):(dg M k).length≤k:=by
 unfold dg;have:=List.length_filter_le M (List.range k);simpa using this
set_option maxRecDepth 10000
set_option maxHeartbeats 8000000
theorem Ls (n v:Nat) (A:Option Addr) (cap:Nat) (es:List Edge) (w:World) (h:nW w A es) (hg:eo n es=true) (hlen:es.length≤100000) (hv:v<n) :
  Calls Tryz.prog 140 #[.int .i64 n,.slice A es.length cap,.int .i64 v] w fun e w'=>(∃A' cap' p,e=.returned (.slice A' (dg p n).length cap')∧(dg p n).length≤cap'∧cap'≤9223372036854775807∧Ints w' A' (dg p n)∧∀x,p x=true↔SR (mY es) v x)∧Ext w w':=by
 have hn:n≤1000:=by unfold eo at hg;simp at hg;omega
 have bP:∀e∈es,df n e=true:=by unfold eo at hg;simp at hg;exact hg.2
 have Hc:=aa (Lq n A cap es w h hlen);rw[hg] at Hc;have Hr:=aa h;have Tf:=aa bP;have hv':(v:Int)<(n:Int):=by omega
 have hv0:¬(v:Int)<0:=by omega
 have Jb:¬(n:Int)≤(v:Int):=by omega
 obtain⟨i0,hi,hz0,hz1,hz2⟩:=info_parts mX;clear h hg bP;go_enter Tryz.func140,Tryz.ntmps140;go_wp2_with fail;refine Hc.o.mono ?_;rintro e w1 ⟨rfl,l1,d1,rfl⟩;go_wp2_with fail;refine(OP n A cap es _ (ak.ext iV Hr.o (by repeat(first|exact eR _|exact eA (by assumption) _|refine eA ?_ _|refine eM ?_ _ _|refine eD ?_|refine eN ?_ _))) hn hlen Tf.o).mono ?_;rintro e w2 ⟨⟨b,ts,rfl,jb,hT,hL⟩,hx2⟩;subst jb;have Hs:=aa (CS Tf.o rfl hL);have nt:=aa (OV Tf.o rfl hL);have HT:=aa hT;have qZ:ahg (Ext w w2):=aa (Ext.trans (by repeat(first|exact eR _|exact eA (by assumption) _|refine eA ?_ _|refine eM ?_ _ _|refine eD ?_|refine eN ?_ _)) hx2);have HM:ahg (Marks 270 w2 (w.heap.size+l1.length) (fun _=>false)):=aa (by
  unfold Marks;rw[kp,←zj];exact(hx2.heap (by simp)).trans (ah _ _ _ (by simp)))
 have Ti:w.heap.size+l1.length<((more w l1 d1).alloc (.cells Tryz.zeroCells270 270)).heap.size:=by simp
 clear hT hL hx2;go_wp2_with fail;refine(OS 270 (w.heap.size+l1.length) b ts _ Ti hn nt.o _ _ v w2 rfl hv HT.o HM.o).mono ?_;rintro e w3 ⟨rfl,hg3,M3,MZ,MR⟩;have Yy:=aa MZ;have YC:w.heap.size+l1.length<w3.heap.size:=ae MZ;have HX3:ahg (Ext w w3):=aa (qZ.o.grown hg3 (by intro j hj;injection hj with hj;omega));have HP:ahg (∀x,M3 x=true↔SR (mY es) v x):=aa (by rw[←Hs.o];exact MR.all);clear hg3 MZ MR HM HT Hs nt Ti;have oF:(ts.length:Int)≤1000:=by omega
 go_wp2
 go_loopw [8,29] (fun u i wr=>∃(k:Nat),k≤ts.length∧i=.int .i64 k∧ahg (Ext w3 wr)∧ahg (wr.ownsRow w3.heap.size 3 1 u (dg M3 k).length ((dg M3 k).map (Value.int .i64)))) (fun _ i _=>ts.length - (intOf i).toNat)
 case atStart=>exact⟨0,ahj _,rfl,aa (eR _),aa (World.ownsRow_nil _ _ _ _)⟩
 case round=>
  obtain⟨k,hk,rfl,HX,HO⟩:=hrel
  by_cases hlt:k<ts.length
  ·have aS:(k:Int)<(ts.length:Int):=by omega
   have dy:(0:Int)≤(k:Int):=by omega
   have uX:(k:Int)<1000:=by omega
   have hcm:wr.cell? ⟨w.heap.size+l1.length,k,none⟩=some (.bool (M3 k)):=(World.cell?_of_block (a:=⟨w.heap.size+l1.length,k,none⟩) (HX.o.heap YC)).trans (Yy.o.cell (by omega));have Jt:=aa (uN M3 k);have gD:=xc M3 k;generalize YD:dg M3 k=L at *;have Cs:=aa YD;clear YD;cases hMk:M3 k
   ·rw[hMk] at hcm Jt;go_wp2;go_roundw
    case rel=>exact⟨k+1,hlt,by go_num,HX,aa (by rw[Jt.o];simpa using HO.o)⟩
    case measure=>simp[intOf];omega
   ·rw[hMk] at hcm Jt;go_wp2_with (at_builtin;refine aH _ rfl _ _ 38 rfl w3.heap.size 3 i0 _ 1 8 Tryz.underlying38 hi hz0 hz1 hz2 rfl (by decide) u8 L.length (L.map (Value.int .i64)) rfl (HO.o.alloc _) _ 1 1 [.int .i64 k] rfl ?c2 ?c3 ?c4 ?c5 ?c6 ?_)
    case c2=>exact Row.Lr _ (ah _ _ _ (by simp))
    case c3=>first|rfl|(intro y hy;simp at hy;subst hy;rfl)
    case c4=>unfold maxLen;omega
    case c5=>omega
    case c6=>have:=HX.o.size;simp;omega
    intro v4 w4 bB hg4 _;have X4:=aa (Ext.app (HX.o.alloc _) hg4 (HO.o.alloc _) (ahi _));have O4:=aa bB;clear bB hg4;go_wp2;go_roundw
    case rel=>exact⟨k+1,hlt,by go_num,X4,aa (by rw[Jt.o];simpa using O4.o)⟩
    case measure=>simp[intOf];omega
  ·have bU:(ts.length:Int)≤(k:Int):=by omega
   have Jg:k=ts.length:=by omega
   rw[Jg] at HO;clear Jg;obtain⟨A5,c5,rfl,p1,p2,p3,_⟩:=Ints.own HO.o;have P3:=aa p3;clear p3;go_wp2;go_ret;exact⟨⟨A5,c5,M3,rfl,p1,p2,P3.o,HP.o⟩,HX3.o.trans HX.o⟩
set_option maxRecDepth 512
set_option maxHeartbeats 200000
def eu (l:List dR) (i:Nat):List Edge:=(List.range i).flatMap fun i=>(gM l i).map fun s=>⟨(i:Int),gT l s⟩
theorem mZ (l:List dR) (i:Nat):eu l (i+1)=eu l i++(gM l i).map fun s=>⟨(i:Int),gT l s⟩:=by
 unfold eu;rw[List.range_succ,List.flatMap_append];simp
theorem kq (l:List dR) (h:∀c∈l,c.sup.length≤9):∀i,i≤l.length→(eu l i).length≤9*i
 |0,_=>by simp[eu]
 |i+1,hi=>by
  have ih:=kq l h i (by omega);have h1:(gM l i).length≤9:=by rw[cQ (by omega)];exact h _ (ahh _)
  rw[mZ,ahn,List.length_map];omega
theorem GM {l:List dR}(h:Sound l) (hl:l.length≤9):eo l.length (dU l)=true:=by
 unfold eo;simp only[ahv,decide_eq_true_eq,ahA];refine⟨⟨by omega,by omega⟩,fun e he => ?_⟩;unfold dU at he;obtain⟨i,hi,he⟩:=List.mem_flatMap.1 he;simp only[List.mem_range] at hi;rw[cQ hi] at he;obtain⟨s,hs,rfl⟩:=List.mem_map.1 he;obtain⟨j,hj,e,_⟩:=h.to hi hs;unfold df;simp only[e,ahv,decide_eq_true_eq];omega
theorem GN {l:List dR}(h:Sound l){i x:Nat}(hi:i<l.length):SR (mY (dU l)) i x↔SR (bj l) i x:=by
 have hn:∀v,v<l.length→mY (dU l) v=bj l v:=fun v hv=>by
  unfold mY;rw[zg h,if_pos hv]
 constructor
 ·intro hr;have key:SR (bj l) i x∧x<l.length:=by
   induction hr with
   |one h1=>rw[hn _ hi] at h1;exact⟨.one h1,ko h _ hi _ h1⟩
   |step _ h1 ih=>rw[hn _ ih.2] at h1;exact⟨.step ih.1 h1,ko h _ ih.2 _ h1⟩
  exact key.1
 ·intro hr;have key:SR (mY (dU l)) i x∧x<l.length:=by
   induction hr with
   |one h1=>exact⟨.one (by rw[hn _ hi];exact h1),ko h _ hi _ h1⟩
   |step _ h1 ih=>exact⟨.step ih.1 (by rw[hn _ ih.2];exact h1),ko h _ ih.2 _ h1⟩
  exact key.1
theorem zk (p:Nat→Bool){n i:Nat}(hi:i<n):(dg p n).any (· == (i:Int))=p i:=by
 rw[Bool.eq_iff_iff,List.any_eq_true];unfold dg
 constructor
 ·rintro⟨y,hy,e⟩;obtain⟨x,hx,rfl⟩:=List.mem_map.1 hy;have h1:=(List.mem_filter.1 hx).2;simp at e;have:x=i:=by omega
  subst this;exact h1
 ·intro hp;exact⟨_,List.mem_map.2 ⟨i,List.mem_filter.2 ⟨by simpa using hi,hp⟩,rfl⟩,by simp⟩
theorem CT : (Tryz.prog.info? 266).map (fun i=>(i.zero,i.size,i.bytes))=some (some (.agg #[.int .i64 0,.int .i64 0]),2,16):=by kernel_rfl
theorem Row.Tj {w:World}{b:Nat}{t:TypeId}{fr:Nat×Nat}(u v:Value) (h:w.heap[b]?=some (.cells #[u,v] t fr)):Row w (some ⟨b,0,none⟩) 2 1 [u,v]:=by
 refine⟨rfl,fun _=>⟨b,0,rfl,ae h,fun j x hx => ?_⟩⟩
 match j with
 |0=>simp at hx;subst hx;simp[World.cell?,h]
 |1=>simp at hx;subst hx;simp[World.cell?,h]
 |j+2=>simp at hx
set_option maxRecDepth 10000
set_option maxHeartbeats 8000000
theorem CU (A:Option Addr) (cap:Nat) (l:List dR) (w:World) (h:dP w A l) (hl:l.length≤9) (hs:∀c∈l,c.sup.length≤9) :
  Calls Tryz.prog 138 #[.slice A l.length cap] w fun e w'=>(∃A' cap',e=.returned (.slice A' (dU l).length cap')∧(dU l).length≤cap'∧cap'≤9223372036854775807∧nW w' A' (dU l))∧Ext w w':=by
 obtain⟨i0,hi,hz0,hz1,hz2⟩:=info_parts CT;have HC:=aa h;have HS:=aa hs;have HE:ahg (eu l l.length=dU l):=aa rfl;have lV:=aa (kq l hs);have hle:l.length≤9223372036854775807:=by omega
 clear h hs;generalize dU l=Vw at *;go_enter Tryz.func138,Tryz.ntmps138;go_wp2
 go_loopw [3,9] (fun v i wr=>∃(k:Nat),k≤l.length∧i=.int .i64 k∧ahg (Ext w wr)∧ahg (wr.ownsRow w.heap.size 266 2 v (eu l k).length ((eu l k).flatMap iV.f))) (fun _ i _=>l.length - (intOf i).toNat)
 case atStart=>exact⟨0,ahj _,rfl,aa (eR _),aa (World.ownsRow_nil _ _ _ _)⟩
 case round=>
  obtain⟨k,hk,rfl,HX,HO⟩:=hrel;obtain⟨wo,rfl⟩:∃wo:World,wo=wr:=⟨_,rfl⟩
  by_cases hlt:k<l.length
  ·obtain⟨b,o,rfl,hb,q0,q1,q2⟩:=(HC.o.ext HX.o).at_ hlt;have aS:(k:Int)<(l.length:Int):=by omega
   have dy:(0:Int)≤(k:Int):=by omega
   have gw:=aa (HC.o.sup _ (ahh hlt));have xD:=HS.o _ (ahh hlt);have Jt:ahg (eu l (k+1)=eu l k++((l[k]'hlt).sup).map fun s=>⟨(k:Int),gT l s⟩):=aa (by rw[mZ,cQ hlt]);have QH:=lV.o k hk;clear q0 q2;generalize (l[k]'hlt).sup=S at *;generalize (l[k]'hlt).A=A1 at *;generalize (l[k]'hlt).cap=c1 at *;generalize eu l k=E at *;go_wp2
   go_loopw [3,18] (fun v i wr=>∃(m:Nat),m≤S.length∧i=.int .i64 m∧ahg (Ext w wr)∧ahg (wr.ownsRow w.heap.size 266 2 v (E++(S.take m).map fun s=>(⟨(k:Int),gT l s⟩:Edge)).length ((E++(S.take m).map fun s=>(⟨(k:Int),gT l s⟩:Edge)).flatMap iV.f))) (fun _ i _=>S.length - (intOf i).toNat)
   case atStart=>exact⟨0,ahj _,rfl,HX,aa (by simpa using HO.o)⟩
   case round=>
    obtain⟨m,hm,rfl,qZ,kh⟩:=hrel
    by_cases fo:m<S.length
    ·obtain⟨b2,o2,rfl,hb2,z0⟩:=(gw.o.ext qZ.o).at_ fo;have Tk:(m:Int)<(S.length:Int):=by omega
     have cS:ahg (∀f:aj→Edge,(S.take (m+1)).map f=(S.take m).map f++[f (S.getD m [])]):=aa (fun f=>by rw[ahl fo,ahz];simp[fo]);generalize S.getD m []=y at *;have Ha:=aa (ki (some ⟨b,o,none⟩) cap l y wr (HC.o.ext qZ.o) hle);have OT:ahg ((E++(S.take (m+1)).map fun s=>(⟨(k:Int),gT l s⟩:Edge))=(E++(S.take m).map fun s=>(⟨(k:Int),gT l s⟩:Edge))++[⟨(k:Int),gT l y⟩]):=aa (by rw[cS.o];simp);have hlE:(E++(S.take m).map fun s=>(⟨(k:Int),gT l s⟩:Edge)).length≤1000:=by
      rw[ahn,List.length_map,List.length_take];omega
     clear cS;generalize (E++(S.take m).map fun s=>(⟨(k:Int),gT l s⟩:Edge))=E2 at *;generalize gT l y=a at *;go_wp2_with fail;refine Ha.o.mono ?_;rintro e w1 ⟨rfl,rfl⟩;go_wp2_with (at_builtin;refine aH _ rfl _ _ 214 rfl w.heap.size 266 i0 _ 2 16 Tryz.underlying214 hi hz0 hz1 hz2 rfl (by decide) u3 E2.length (E2.flatMap iV.f) rfl (kh.o.alloc _) _ 1 1 [.int .i64 k,.int .i64 a] rfl ?c2 ?c3 ?c4 ?c5 ?c6 ?_)
     case c2=>exact Row.Tj _ _ (ah _ _ _ (by simp))
     case c3=>intro y hy;simp at hy;rcases hy with rfl|rfl<;>rfl
     case c4=>unfold maxLen;omega
     case c5=>omega
     case c6=>have:=qZ.o.size;simp;omega
     intro v4 w4 bB hg4 _;have X4:=aa (Ext.app (qZ.o.alloc _) hg4 (kh.o.alloc _) (ahi _));have O4:=aa bB;clear bB hg4;go_wp2;go_roundw
     case rel=>exact⟨m+1,fo,by go_num,X4,aa (by rw[OT.o];simpa [iV] using O4.o)⟩
     case measure=>simp[intOf];omega
    ·have ael:(S.length:Int)≤(m:Int):=by omega
     have hmt:S.take m=S:=ahm (by omega);rw[hmt,←Jt.o] at kh;clear hmt;go_wp2;go_roundw
     case rel=>exact⟨k+1,hlt,by go_num,qZ,kh⟩
     case measure=>simp[intOf];omega
  ·have bU:(l.length:Int)≤(k:Int):=by omega
   have nr:k=l.length:=by omega
   rw[nr,HE.o] at HO;clear nr;obtain⟨A5,c5,rfl,p1,p2,p3,_⟩:=ak.own iV HO.o;have P3:=aa p3;clear p3;go_wp2;go_ret;exact⟨⟨A5,c5,rfl,p1,p2,P3.o⟩,HX.o⟩
theorem tz (A:Option Addr) (cap:Nat) (l:List dR) (w:World) (h:dP w A l) (hl:l.length≤9) (hs:∀c∈l,c.sup.length≤9) :
  Calls Tryz.prog 93 #[.slice A l.length cap] w fun e w'=>e=.returned (.tuple #[.int .i64 (dS l).1,.int .i64 (dS l).2])∧Ext w w':=by
 have F1:=aa (fun k => @check_1 l k);have F2:=aa (@Ll l);have F3:=aa (@Lm l);have F4:=aa (@Ln l);have HC:=aa h;have HS:=aa hs;have HT:ahg (∀i (h:i<l.length),eF l i=decide (gT l (l[i]'h).name<(i:Int))):=aa (fun i h=>by unfold eF;rw[kR h]);have HB:ahg (∀i (h:i<l.length),oz l i = !lX (names l) (l[i]'h).sup):=aa (fun i h=>by unfold oz;rw[cQ h]);have Tl:ahg ((∀j,j<l.length→eF l j=false)→(∀j,j<l.length→oz l j=false)→Sound l):=aa (fun h1 h2=>⟨cU _ _ h1,cU _ _ h2⟩);have hle:l.length≤9223372036854775807:=by omega
 clear h hs;generalize dS l=R at *;go_enter Tryz.func93,Tryz.ntmps93;go_wp2
 go_loop [10] (fun i=>∃k:Nat,k≤l.length∧i=.int .i64 k∧ahg (∀j,j<k→eF l j=false)) (fun i=>l.length - (intOf i).toNat)
 case atStart=>exact⟨0,ahj _,rfl,aa (fun j hj=>absurd hj (by omega))⟩
 case round=>
  obtain⟨k,hk,rfl,HJ⟩:=hrel
  by_cases hlt:k<l.length
  ·obtain⟨b,o,rfl,hb,q0,q1,q2⟩:=HC.o.at_ hlt;have aS:(k:Int)<(l.length:Int):=by omega
   have Hk:=aa (HT.o k hlt);generalize (l[k]'hlt).name=y at *;have Ha:=aa (ki (some ⟨b,o,none⟩) cap l y w HC.o hle);clear q1 q2;generalize gT l y=a at *
   by_cases h1:a<(k:Int)
   ·have hR:=F1.o k hlt HJ.o (by rw[Hk.o];simpa using h1);subst hR;go_wp2_with fail;refine Ha.o.mono ?_;rintro e w1 ⟨rfl,rfl⟩;go_wp2;go_ret2;exact⟨rfl,(by repeat(first|exact eR _|exact eA (by assumption) _|refine eA ?_ _|refine eM ?_ _ _|refine eD ?_|refine eN ?_ _))⟩
   ·have Hk':ahg (eF l k=false):=aa (by rw[Hk.o];simpa using h1);go_wp2_with fail;refine Ha.o.mono ?_;rintro e w1 ⟨rfl,rfl⟩;go_wp2
    go_round
    case rel=>
     refine⟨k+1,hlt,by go_num,aa (fun j hj => ?_)⟩
     by_cases e:j=k
     ·subst e;exact Hk'.o
     ·exact HJ.o j (by omega)
    case measure=>simp[intOf];omega
  ·have bU:(l.length:Int)≤(k:Int):=by omega
   have J1:ahg (∀j,j<l.length→eF l j=false):=aa (fun j hj=>HJ.o j (by omega));clear HJ HT F1;go_wp2
   go_loopw [26] (fun i wr=>∃k:Nat,k≤l.length∧i=.int .i64 k∧ahg (∀j,j<k→oz l j=false)∧ahg (Ext w wr)) (fun i _=>l.length - (intOf i).toNat)
   case atStart=>exact⟨0,ahj _,rfl,aa (fun j hj=>absurd hj (by omega)),aa (by repeat(first|exact eR _|exact eA (by assumption) _|refine eA ?_ _|refine eM ?_ _ _|refine eD ?_|refine eN ?_ _))⟩
   case round=>
    obtain⟨m,hm,rfl,HJ,HX⟩:=hrel
    by_cases hlt:m<l.length
    ·obtain⟨b,o,rfl,hb,q0,q1,q2⟩:=(HC.o.ext HX.o).at_ hlt;have aS:(m:Int)<(l.length:Int):=by omega
     have Hk:=aa (HB.o m hlt);have gw:=aa (HC.o.sup _ (ahh hlt));have oh:=(HC.o.le _ (ahh hlt));generalize (l[m]'hlt).name=y at *;generalize (l[m]'hlt).sup=S at *;generalize (l[m]'hlt).A=A1 at *;generalize (l[m]'hlt).cap=c1 at *;generalize (l[m]'hlt).Lj=mt at *;obtain⟨Tn,NA⟩:=oh;have OW:=aa (CO (some ⟨b,o,none⟩) cap l ⟨y,A1,c1,S,mt⟩ wr (HC.o.ext HX.o) hle (gw.o.ext HX.o) Tn NA);simp only at OW;cases h1:lX (names l) S
     ·rw[h1] at OW Hk;have hR:=F2.o J1.o hlt HJ.o (by rw[Hk.o];rfl);subst hR;go_wp2_with fail;refine OW.o.mono ?_;rintro e w1 ⟨rfl,l1,d1,rfl⟩;go_wp2;go_ret2;exact⟨rfl,HX.o.trans (by repeat(first|exact eR _|exact eA (by assumption) _|refine eA ?_ _|refine eM ?_ _ _|refine eD ?_|refine eN ?_ _))⟩
     ·rw[h1] at OW Hk;go_wp2_with fail;refine OW.o.mono ?_;rintro e w1 ⟨rfl,l1,d1,rfl⟩;go_wp2;go_roundw
      case rel=>
       refine⟨m+1,hlt,by go_num,aa (fun j hj => ?_),aa (HX.o.trans (by repeat(first|exact eR _|exact eA (by assumption) _|refine eA ?_ _|refine eM ?_ _ _|refine eD ?_|refine eN ?_ _)))⟩
       by_cases e:j=m
       ·subst e;rw[Hk.o];rfl
       ·exact HJ.o j (by omega)
      case measure=>simp[intOf];omega
    ·have aen:(l.length:Int)≤(m:Int):=by omega
     have J2:ahg (∀j,j<l.length→oz l j=false):=aa (fun j hj=>HJ.o j (by omega));have SO:=aa (Tl.o J1.o J2.o);have Hgo:=aa (GM SO.o hl);have Hcy:ahg (∀i p,i<l.length→(∀x,p x=true↔SR (mY (dU l)) i x)→(dg p l.length).any (· == (i:Int))=rN l i):=aa (by
      intro i p hi hp;rw[zk p hi,Bool.eq_iff_iff,hp,GN SO.o hi,CM SO.o hi])
     clear HJ HB F2 Tl;go_wp2_with fail;refine(CU A cap l wr (HC.o.ext HX.o) hl HS.o).mono ?_;rintro e w1 ⟨⟨A9,c9,rfl,p1,p2,p3⟩,hx⟩;have HE:=aa p3;have HX1:=aa (HX.o.trans hx);have Tp:(dU l).length≤100000:=by have:=kq l HS.o l.length (ahi _);unfold eu at this;unfold dU;omega
     clear p3 hx;generalize dU l=ES at *;go_wp2
     go_loopw [42] (fun i wr=>∃k:Nat,k≤l.length∧i=.int .i64 k∧ahg (∀j,j<k→rN l j=false)∧ahg (Ext w1 wr)) (fun i _=>l.length - (intOf i).toNat)
     case atStart=>exact⟨0,ahj _,rfl,aa (fun j hj=>absurd hj (by omega)),aa (by repeat(first|exact eR _|exact eA (by assumption) _|refine eA ?_ _|refine eM ?_ _ _|refine eD ?_|refine eN ?_ _))⟩
     case round=>
      obtain⟨k,hk,rfl,HJ,qZ⟩:=hrel
      by_cases hlt:k<l.length
      ·have aS:(k:Int)<(l.length:Int):=by omega
       have dy:(0:Int)≤(k:Int):=by omega
       go_wp2_with fail;refine(Ls l.length k A9 c9 ES wr (ak.ext iV HE.o qZ.o) Hgo.o Tp hlt).mono ?_;rintro e w3 ⟨⟨A3,c3,p,rfl,g1,g2,g3,g4⟩,l3,d3,rfl⟩;have G3:=aa g3;have Hc:=aa (Hcy.o k p hlt g4);clear g3 g4;have Hh:=aa (Q7 A3 c3 (dg p l.length) k _ G3.o (by omega));cases h1:rN l k
       ·rw[Hc.o,h1] at Hh;go_wp2_with fail;refine Hh.o.mono ?_;rintro e w4 ⟨rfl,rfl⟩;go_wp2;go_roundw
        case rel=>
         refine⟨k+1,hlt,by go_num,aa (fun j hj => ?_),aa (qZ.o.trans (by repeat(first|exact eR _|exact eA (by assumption) _|refine eA ?_ _|refine eM ?_ _ _|refine eD ?_|refine eN ?_ _)))⟩
         by_cases e:j=k
         ·subst e;exact h1
         ·exact HJ.o j (by omega)
        case measure=>simp[intOf];omega
       ·rw[Hc.o,h1] at Hh;have hR:=F3.o J1.o J2.o hlt HJ.o h1;subst hR;go_wp2_with fail;refine Hh.o.mono ?_;rintro e w4 ⟨rfl,rfl⟩;go_wp2;go_ret2;exact⟨rfl,HX1.o.trans (qZ.o.trans (by repeat(first|exact eR _|exact eA (by assumption) _|refine eA ?_ _|refine eM ?_ _ _|refine eD ?_|refine eN ?_ _)))⟩
      ·have aeq:(l.length:Int)≤(k:Int):=by omega
       have hR:=F4.o J1.o J2.o (fun j hj=>HJ.o j (by omega));subst hR;go_wp2;go_ret2;exact⟨rfl,HX1.o.trans qZ.o⟩
theorem tA (A:Option Addr) (cap:Nat) (l:List dR) (w:World) (h:dP w A l) (hl:l.length≤9) (hs:∀c∈l,c.sup.length≤9) :
  Calls Tryz.prog 219 #[.slice A l.length cap] w fun e w'=>e=.returned (.bool (Lk l))∧Ext w w':=by
 have H:=aa (tz A cap l w h hl hs);clear h hs;unfold Lk;generalize dS l=R at *;go_enter Tryz.func219,Tryz.ntmps219;go_wp2_with fail;refine H.o.mono ?_;rintro e w1 ⟨rfl,l1,d1,rfl⟩;go_wp2;go_ret;exact⟨rfl,(by repeat(first|exact eR _|exact eA (by assumption) _|refine eA ?_ _|refine eM ?_ _ _|refine eD ?_|refine eN ?_ _))⟩
set_option maxRecDepth 512
set_option maxHeartbeats 200000
section
variable (A : Option Addr) (cap:Nat) (l:List dR) (x:aj) (w:World)
end
set_option maxRecDepth 10000
set_option maxHeartbeats 8000000
theorem Lt (A:Option Addr) (cap:Nat) (l:List Int) (w:World) (h:Ints w A l) (hl:l.length≤100000) (hn:A=none→l=[]∧cap=0) :
  Calls Tryz.prog 220 #[.slice A l.length cap] w fun e w'=>(∃v,e=.returned v∧w'.ownsRow w.heap.size 3 1 v l.length (l.map (Value.int .i64)))∧Ext w w':=by
 obtain⟨i0,hi,hz0,hz1,hz2⟩:=info_parts mX
 rcases A with _|a
 ·obtain⟨rfl,rfl⟩:=hn rfl;have heq:=fun(w:World) (a:Option Addr) (n c:Nat)=>Lib.run_eql_slice_nil (P:=Tryz.prog) w 38 3 a n c 0 0 Tryz.underlying38
  clear h hn;go_enter Tryz.func220,Tryz.ntmps220;go_wp2;go_ret;exact⟨⟨_,rfl,World.ownsRow_nil _ _ _ _⟩,(by repeat(first|exact eR _|exact eA (by assumption) _|refine eA ?_ _|refine eM ?_ _ _|refine eD ?_|refine eN ?_ _))⟩
 ·have Hr:=aa h.row;have CR:ahg ((w.alloc (.cells #[] 3)).ownsRow w.heap.size 3 1 (.slice (some ⟨w.heap.size,0,none⟩) 0 0) 0 []):=aa (World.ownsRow_made w #[] 0 (ahi _) (by simp) (by simp));have heq:=fun(w:World) (a:Option Addr) (n c:Nat)=>Lib.run_eql_slice_nil (P:=Tryz.prog) w 38 3 a n c 0 0 Tryz.underlying38
  clear h hn;go_enter Tryz.func220,Tryz.ntmps220;go_wp2_with (at_builtin;refine aH _ rfl _ _ 38 rfl w.heap.size 3 i0 _ 1 8 Tryz.underlying38 hi hz0 hz1 hz2 rfl (by decide) _ 0 [] rfl CR.o (some a) l.length cap (l.map (Value.int .i64)) rfl ?c2 ?c3 ?c4 ?c5 ?c6 ?_)
  case c2=>exact Row.ext Hr.o (Ext.alloc (eR _) _)
  case c3=>exact DM _
  case c4=>unfold maxLen;omega
  case c5=>omega
  case c6=>simp
  intro v4 w4 bB hg4 _;have X4:ahg (Ext w w4):=aa (Ext.app (Ext.alloc (eR _) _) hg4 CR.o (ahi _));have O4:ahg (w4.ownsRow w.heap.size 3 1 v4 l.length (l.map (Value.int .i64))):=aa (by simpa using bB);clear bB hg4;go_wp2;go_ret;exact⟨⟨_,rfl,O4.o⟩,X4.o⟩
set_option maxRecDepth 512
set_option maxHeartbeats 200000
def qF (l:List dR) (tgt:aj):Nat→aj→Option (List Nat)
 |0,x=>if x == tgt then some [] else none
 |n+1,x=>(kj l x).zipIdx.findSome? fun y=>(qF l tgt n y.1).map (y.2 :: ·)
theorem tB (l:List dR) (tqq:aj):∀(n:Nat) (x:aj) (p:List Nat),qF l tqq n x=some p→p.length=n∧(x=tqq∨Up l x tqq)
 |0,x,p,h=>by
  simp only[qF] at h
  split at h
  ·rename_i he
   injection h with h;subst h;exact⟨rfl,.inl (by simpa using he)⟩
  ·cases h
 |n+1,x,p,h=>by
  obtain⟨y,hy,hf⟩:=List.exists_of_findSome?_eq_some h;simp only[Option.map_eq_some_iff] at hf;obtain⟨q,hq,rfl⟩:=hf;obtain⟨h1,h2⟩:=tB l tqq n y.1 q hq;have hm:y.1∈kj l x:=by
   have:=List.mem_zipIdx_iff_getElem?.1 hy;exact List.mem_of_getElem? this
  refine⟨by simp[h1],.inr ?_⟩
  rcases h2 with h2|h2
  ·rw[←h2];exact .one hm
  ·exact(Up.one hm).trans h2
def gO (p:Option (List Nat)):List Int:=(p.getD []).map Int.ofNat
def cR (l:List dR) (a b:aj):Option (List Nat):=
 if Lk l && !decide (gT l a<0) && !decide (gT l b<0) then(List.range l.length).findSome? fun n=>qF l b n a else none
theorem lD {β γ δ:Type}(F:γ×Nat→Option β) (G:δ×Nat→Option β) (g:γ→δ):∀(row:List γ) (i0:Nat),(∀s∈row,∀k,F (s,k)=G (g s,k))→(row.zipIdx i0).findSome? F=((row.map g).zipIdx i0).findSome? G
 | [],_,_=>rfl
 |s :: row,i0,h=>by
  simp only[List.zipIdx_cons,List.map_cons,List.findSome?_cons];rw[h s (by simp) i0,lD F G g row (i0+1) (fun t ht k=>h t (by simp[ht]) k)]
theorem Am {l:List dR}(h:Sound l){b:Nat}(hb:b<l.length):∀(n a:Nat) (ha:a<l.length),qF l (l[b]'hb).name n (l[a]'ha).name=km (bj l) b n a
 |0,a,ha=>by
  simp only[qF,km]
  by_cases e:a=b
  ·subst e;simp
  ·rw[if_neg e,if_neg];intro hh;exact e (h.inj ha hb (by simpa using hh))
 |n+1,a,ha=>by
  simp only[qF,km];rw[h.sup ha];have hsc:bj l a=((l[a]'ha).sup).map fun s=>(gT l s).toNat:=by unfold bj;rw[cQ ha]
  rw[hsc];refine lD _ _ _ _ 0 (fun s hs k => ?_);obtain⟨j,hj,e,en⟩:=h.to ha hs;have ih:=Am h hb n j hj;simp only;rw[e,Int.toNat_natCast,←ih,en]
theorem CV {l:List dR}(ho:Lk l=true){a b:Nat}(ha:a<l.length) (hb:b<l.length) (x y:aj) (hx:(l[a]'ha).name=x) (hy:(l[b]'hb).name=y){f:Nat}(hf:1+fg (bj l) (fun _=>false) l.length≤f) :
  cR l x y=fN (bj l) b f (fun _=>false) [(a,[])]:=by
 have Vz:=(tx ho).1;rw[GI (N:=l.length) (fun x hx y hy=>ko Vz x hx y hy) ha hf];unfold cR kn;have e1:=Vz.at_ ha;have e2:=Vz.at_ hb;rw[hx] at e1;rw[hy] at e2;rw[ho,e1,e2];have h1:decide ((a:Int)<0)=false:=by simp
 have h2:decide ((b:Int)<0)=false:=by simp
 rw[h1,h2];simp only[Bool.not_false,Bool.and_self,↓reduceIte]
 congr 1
 funext n
 rw[←hx,←hy];exact Am Vz hb n a ha
section
variable (A : Option Addr) (cap:Nat) (l:List dR) (x y:aj) (w:World)
end
def gP (c t:aj) (x:cX):Bool:=x.cls == c&&x.aq == t
def iX (l:List cX) (c t:aj):Option Nat:=l.findIdx? (gP c t)
theorem GP {l:List cX}{c t:aj}{k:Nat}(hk:k<l.length) (hl:∀j (h:j<l.length),j<k→gP c t (l[j]'h)=false) (h:gP c t (l[k]'hk)=true):iX l c t=some k:=by
 unfold iX;rw[List.findIdx?_eq_some_iff_getElem];refine⟨hk,h,fun j hj => ?_⟩;rw[hl j (by omega) hj];simp
theorem GQ {l:List cX}{c t:aj}(hl:∀j (h:j<l.length),gP c t (l[j]'h)=false):iX l c t=none:=by
 unfold iX;rw[List.findIdx?_eq_none_iff];intro x hx;obtain⟨j,hj,rfl⟩:=List.mem_iff_getElem.1 hx;exact hl j hj
set_option maxRecDepth 10000
set_option maxHeartbeats 8000000
theorem OX (A:Option Addr) (cap:Nat) (l:List cX) (c t:aj) (w:World) (h:jD w A l) (hl:l.length≤9223372036854775806) :
  Calls Tryz.prog 192 #[.slice A l.length cap,encStr c,encStr t] w fun e w'=>e=.returned (.tuple #[.int .i64 ((iX l c t).getD 0:Nat),.bool (iX l c t).isSome])∧Ext w w':=by
 have H:=aa h;have xM:=aa (fun k hk => @GP l c t k hk);have qR:=aa (@GQ l c t);generalize iX l c t=R at *;clear h;go_enter Tryz.func192,Tryz.ntmps192;go_wp2
 go_loopw [12] (fun i wr=>∃k:Nat,k≤l.length∧i=.int .i64 k∧ahg (∀j (h:j<l.length),j<k→gP c t (l[j]'h)=false)∧ahg (Ext w wr)) (fun i _=>l.length - (intOf i).toNat)
 case atStart=>exact⟨0,ahj _,rfl,aa (fun j _ hj=>absurd hj (by omega)),aa (eR _)⟩
 case round=>
  obtain⟨k,hk,rfl,HJ,HX⟩:=hrel
  by_cases hlt:k<l.length
  ·have aS:(k:Int)<(l.length:Int):=by omega
   have dy:(0:Int)≤(k:Int):=by omega
   obtain⟨b,o,rfl,hb,q0,q1,q2,q3⟩:=(H.o.ext HX.o).at_ hlt;have oM:=aa (fun h=>xM.o k hlt HJ.o h);have mn:ahg (gP c t (l[k]'hlt)=false→∀j (h:j<l.length),j<k+1→gP c t (l[j]'h)=false):=aa (fun h0 j hj hjk=>by
    by_cases e:j=k
    ·subst e;exact h0
    ·exact HJ.o j hj (by omega))
   generalize l[k]'hlt=x at *;cases e1:(x.cls == c)
   ·have f1:¬x.cls=c:=by simpa using e1
    have Oc:=aa (mn.o (by unfold gP;rw[e1];rfl));clear oM mn;go_wp2;go_roundw
    case rel=>exact⟨k+1,hlt,by go_num,Oc,aa (HX.o.alloc _)⟩
    case measure=>simp[intOf];omega
   ·have f1:x.cls=c:=by simpa using e1
    cases e2:(x.aq == t)
    ·have f2:¬x.aq=t:=by simpa using e2
     have Oc:=aa (mn.o (by unfold gP;rw[e1,e2];rfl));clear oM mn f1;go_wp2;go_roundw
     case rel=>exact⟨k+1,hlt,by go_num,Oc,aa (HX.o.alloc _)⟩
     case measure=>simp[intOf];omega
    ·have f2:x.aq=t:=by simpa using e2
     have hR:R=some k:=oM.o (by unfold gP;rw[e1,e2];rfl);clear oM mn xM qR f1 f2;subst hR;have X2:=aa (HX.o.alloc (.cells #[encStr x.cls,encStr x.aq,.int .i64 x.n,.slice x.A x.preds.length x.cap] 70));go_wp2;go_ret2;exact⟨rfl,X2.o⟩
  ·have bU:¬(k:Int)<(l.length:Int):=by omega
   have hR:R=none:=qR.o (fun j hj=>HJ.o j hj (by omega));clear xM qR;subst hR;go_wp2;go_ret2;exact⟨rfl,HX.o⟩
theorem qG (p:Pd) (w:World) (h:eV w p):Calls Tryz.prog 57 #[jC p] w fun e w'=>e=.returned (.bool (!eQ p))∧Ext w w':=by
 have X0:ahg (Ext w (w.alloc (.cells #[encStr p.cls,encStr p.ty.aq,.int .i64 p.ty.var,.slice p.ty.A p.ty.args.length p.ty.cap] 55))):=aa ((eR w).alloc _);have HL:=aa (j4 p _ (h.ext X0.o));clear h;generalize eQ p=B at *;unfold jC at *;go_enter Tryz.func57,Tryz.ntmps57;go_wp2_with fail;refine HL.o.mono ?_;rintro e w2 ⟨rfl,hx⟩;have X2:=aa (X0.o.trans hx);clear hx HL;cases B
 ·go_wp2;go_ret;exact⟨rfl,X2.o⟩
 ·go_wp2;go_ret;exact⟨rfl,X2.o⟩
set_option maxRecDepth 512
set_option maxHeartbeats 200000
def fP (k:dK):dR:=⟨k.name,k.S,k.sc,k.cM,.slice k.A k.aX.length k.cap⟩
theorem xd (l:List dK):(l.map fP).flatMap wX.f=l.flatMap Ek.f:=by
 rw[List.flatMap_map];rfl
theorem xe {w:World}{A:Option Addr}{l:List dK}(h:ak Ek w A l):ak wX w A (l.map fP):=by
 unfold ak at h ⊢;rw[xd,List.length_map];exact h
theorem qH {w:World}{A:Option Addr}{l:List dK}(h:lj w A l):dP w A (l.map fP):=
 ⟨xe h.row,fun c hc=>by
  obtain⟨k,hk,rfl⟩:=List.mem_map.1 hc;exact(h.all k hk).JG,fun c hc=>by
  obtain⟨k,hk,rfl⟩:=List.mem_map.1 hc;exact⟨(h.all k hk).sle,(h.all k hk).QS⟩⟩
noncomputable def rO (cs:List dK) (c:aj) (t:Ty.Pure) (q:Pd):Option (List Nat):=if @decide (q.ty.pure=t) (Classical.propDecidable _)=true then cR (cs.map fP) q.cls c else none
def dC {α:Type}(f:α→Option (List Nat)):Nat→List α→Option (Nat×List Nat)
 |_,[]=>none
 |i,q :: r=>match f q with|some p=>some (i,p)|none=>dC f (i+1) r
theorem xf {α:Type}{f:α→Option (List Nat)}{l:List α}{k:Nat}(hk:k<l.length){p:List Nat}(h:f (l[k]'hk)=some p):dC f k (l.drop k)=some (k,p):=by
 rw[List.drop_eq_getElem_cons hk];show(match f (l[k]'hk) with|some p=>some (k,p)|none=>dC f (k+1) (l.drop (k+1)))=_;rw[h]
theorem zl {α:Type}{f:α→Option (List Nat)}{l:List α}{k:Nat}(hk:k<l.length) (h:f (l[k]'hk)=none):dC f k (l.drop k)=dC f (k+1) (l.drop (k+1)):=by
 rw[List.drop_eq_getElem_cons hk];show(match f (l[k]'hk) with|some p=>some (k,p)|none=>dC f (k+1) (l.drop (k+1)))=_;rw[h]
theorem xg {α:Type}{f:α→Option (List Nat)}{l:List α}{k:Nat}(hk:l.length≤k):dC f k (l.drop k)=none:=by
 rw[List.drop_eq_nil_of_le hk];rfl
theorem nH {cs:List dK}{c:aj}{t:Ty}{q:Pd}:rO cs c t.pure q=if bL q.ty t=true then cR (cs.map fP) q.cls c else none:=rfl
def dV (i:Nat) (path:List Nat):Pf.Pure:=path.foldl (fun(x:Pf.Pure) (n:Nat)=>.mk 2 (n:Int) [] [x]) (.mk 1 (i:Int) [] [])
theorem nX (i:Nat) (l:List Nat) (n:Nat):dV i (l++[n])=.mk 2 n [] [dV i l]:=by unfold dV;rw[List.foldl_append];rfl
noncomputable def qI (cs:List dK) (given:List Pd) (c:aj) (t:Ty.Pure):Option (Nat×List Nat):=dC (rO cs c t) 0 given
def Ty.Pure.args : Ty.Pure→List Ty.Pure | .mk _ _ l=>l
theorem CW (t:Ty):t.pure.args=t.args.map Ty.pure:=by rw[Ty.aG];rfl
def Ju (ins:List cX) (c:aj):Ty.Pure→Option (Nat×List (aj×Ty.Pure))
 | .mk aq _ args=>match iX ins c aq with
  |none=>none
  |some i=>match ins[i]? with
   |none=>none
   |some x=>if aq=[]∨x.n≠(args.length:Int) then none else some (i,x.preds.map fun p=>(p.cls,args.getD p.ty.var.toNat (.mk [] 0 [])))
def dx (f:aj→Ty.Pure→Except Int (Pf.Pure×Nat)):List (aj×Ty.Pure)→List Pf.Pure→Nat→Except Int (List Pf.Pure×Nat)
 | [],l,n=>.ok (l,n)
 |(c,t) :: r,l,n=>match f c t with
  | .error e=>.error e
  | .ok (q,m)=>if n+m>4096 then .error 2 else dx f r (l++[q]) (n+m)
noncomputable def gh (cs:List dK) (ins:List cX) (given:List Pd):Nat→aj→Ty.Pure→Except Int (Pf.Pure×Nat)
 |0,_,_=>.error 16
 |m+1,c,t=>match qI cs given c t with
  |some (i,path)=>.ok (dV i path,path.length+1)
  |none=>match Ju ins c t with
   |none=>.error 16
   |some (i,wants)=>match dx (gh cs ins given m) wants [] 1 with
    | .error e=>.error e
    | .ok (l,n)=>.ok (.mk 3 i t.args l,n)
def ix (cs:List dK) (ins:List cX):Bool:=Lk (cs.map fP)&&ins.all bN
noncomputable def tC (cs:List dK) (ins:List cX) (given:List Pd) (p:Pd):Except Int Pf.Pure:=
 if (eQ p&&given.all eQ&&ix cs ins)=false then .error 1
 else match gh cs ins given 5000 p.cls p.ty.pure with
  | .error e=>.error e
  | .ok (q,_)=>.ok q
theorem tD {f:aj→Ty.Pure→Except Int (Pf.Pure×Nat)}{c:aj}{t:Ty.Pure}{r:List (aj×Ty.Pure)}{l:List Pf.Pure}{n:Nat}{q:Pf.Pure}{m:Nat}(h:f c t=.ok (q,m)) :
  dx f ((c,t) :: r) l n=if n+m>4096 then .error 2 else dx f r (l++[q]) (n+m):=by
 simp only[dx,h]
theorem xh {f:aj→Ty.Pure→Except Int (Pf.Pure×Nat)}{c:aj}{t:Ty.Pure}{r:List (aj×Ty.Pure)}{l:List Pf.Pure}{n:Nat}{e:Int}(h:f c t=.error e) :
  dx f ((c,t) :: r) l n=.error e:=by
 simp only[dx,h]
theorem CX {f:aj→Ty.Pure→Except Int (Pf.Pure×Nat)}{w:List (aj×Ty.Pure)}{k:Nat}(hk:k<w.length){l:List Pf.Pure}{n:Nat}{q:Pf.Pure}{m:Nat}(h:f (w[k]'hk).1 (w[k]'hk).2=.ok (q,m)) :
  dx f (w.drop k) l n=if n+m>4096 then .error 2 else dx f (w.drop (k+1)) (l++[q]) (n+m):=by
 rw[List.drop_eq_getElem_cons hk];exact tD h
theorem rP {f:aj→Ty.Pure→Except Int (Pf.Pure×Nat)}{w:List (aj×Ty.Pure)}{k:Nat}(hk:k<w.length){l:List Pf.Pure}{n:Nat}{e:Int}(h:f (w[k]'hk).1 (w[k]'hk).2=.error e) :
  dx f (w.drop k) l n=.error e:=by
 rw[List.drop_eq_getElem_cons hk];exact xh h
theorem GR {f:aj→Ty.Pure→Except Int (Pf.Pure×Nat)}{w:List (aj×Ty.Pure)}{k:Nat}(hk:w.length≤k){l:List Pf.Pure}{n:Nat}:dx f (w.drop k) l n=.ok (l,n):=by
 rw[List.drop_eq_nil_of_le hk];rfl
theorem Lu {l:List cX}{c t:aj}{i:Nat}(h:iX l c t=some i):∃hi:i<l.length,(l[i]'hi).cls=c∧(l[i]'hi).aq=t:=by
 unfold iX at h;rw[List.findIdx?_eq_some_iff_getElem] at h;obtain⟨hi,h,-⟩:=h;unfold gP at h;rw[ahv,beq_iff_eq,beq_iff_eq] at h;exact⟨hi,h⟩
structure St where
 cls:Nat
 A:Option Addr
 cap:Nat
 path:List Nat
def Jv : fq St:=⟨2,fun s=>[.int .i64 s.cls,.slice s.A s.path.length s.cap],fun _=>rfl,by omega⟩
def St.key (s:St):Nat×List Nat:=(s.cls,s.path)
def ints (p:List Nat):List Int:=p.map Int.ofNat
theorem na (p:List Nat):(ints p).length=p.length:=by simp[ints]
structure oA (w:World) (nq:Option Nat) (sb:Nat) (s:St):Prop where
 row:Ints w s.A (ints s.path)
 le:s.path.length≤s.cap
 max:s.cap≤9223372036854775807
 nil:s.A=none→s.path=[]∧s.cap=0
 far:∀c o,s.A=some ⟨c,o,none⟩→nq≠some c∧c≠sb∧c<w.heap.size
theorem oA.keep {w w':World}{nq nq':Option Nat}{sb:Nat}{s:St}(h:oA w nq sb s){row:Option Nat}(g:w.grownBy w' row) (hr:row=nq∨row=some sb∨row=none) (hq:nq'=nq∨∃k,nq'=some k∧w.heap.size≤k):oA w' nq' sb s where
 row:=h.row.keep g.size fun b o e hb=>g.block b hb fun hbr=>by
  obtain⟨h1,h2,_⟩:=h.far b o e
  rcases hr with rfl|rfl|rfl
  ·exact h1 hbr.symm
  ·injection hbr with hbr;exact h2 hbr
  ·cases hbr
 le:=h.le
 max:=h.max
 nil:=h.nil
 far c o e:=by
  obtain⟨h1,h2,h3⟩:=h.far c o e;refine⟨?_,h2,Nat.lt_of_lt_of_le h3 g.size⟩
  rcases hq with rfl|⟨k,rfl,hk⟩
  ·exact h1
  ·intro Vi;injection Vi with Vi;omega
theorem CY {w:World}{base base':Nat}{e:TypeId}{size:Nat}{v:Value}{n:Nat}{xs:List Value}(h:w.ownsRow base e size v n xs) (hb:base'≤base):w.ownsRow base' e size v n xs:=by
 rcases h with ⟨h1,h2|⟨g,cap,cur,he,hg,h3⟩⟩
 ·exact⟨h1,.inl h2⟩
 ·exact⟨h1,.inr ⟨g,cap,cur,he,aho hb hg,h3⟩⟩
theorem CZ : (Tryz.prog.info? 4).map (fun i=>(i.zero,i.size,i.bytes))=some (some (.bool false),1,1):=by kernel_rfl
theorem C5 : (Tryz.prog.info? 292).map (fun i=>(i.zero,i.size,i.bytes))=some (some (.agg #[.int .i64 0,.slice none 0 0]),2,32):=by kernel_rfl
theorem zm (n:Nat) (hn:n≤1000) (w:World):(Instr.makeSlice 290 (.int .i64 n) (.int .i64 n)).run Tryz.prog w=.ok (.slice (some ⟨w.heap.size,0,none⟩) n n) (w.alloc (.cells (aT n (fun _=>false)) 4)):=by
 obtain⟨i1,hj,mM,gS,iv⟩:=info_parts CZ;have je:=run_make (P:=Tryz.prog) w 290 4 i1 _ Tryz.underlying290 hj mM .i64 .i64 n n (by omega) (Int.le_refl _) (by rw[iv];omega) (by omega);have Vu:madeCells (Value.bool false).cells ((n:Int).toNat*i1.size)=aT n (fun _=>false):=by
  rw[gS,kp,Int.toNat_natCast];exact Al _ _ rfl
 rw[Vu] at je;simpa using je
theorem C6 (succ:Nat→List Nat) (x:Nat) (p:List Nat){k:Nat}(hk:k<(succ x).length):(outs succ x p).take (k+1)=(outs succ x p).take k++[((succ x)[k]'hk,p++[k])]:=by
 rw[ahl (by simpa [outs] using hk)];simp[outs]
theorem GS (succ:Nat→List Nat) (x:Nat) (p:List Nat):(outs succ x p).length=(succ x).length:=by simp[outs]
theorem xi {l:List dR}(hl:l.length≤9) (hs:∀c∈l,c.sup.length≤9):fg (bj l) (fun _=>false) l.length≤81:=by
 have:∀n,n≤l.length→fg (bj l) (fun _=>false) n≤9*n:=by
  intro n
  induction n with
  |zero=>intro _;simp[fg]
  |succ n ih=>
   intro hn;have h1:=ih (by omega);have h2:(bj l n).length≤9:=by unfold bj;rw[List.length_map,cQ (by omega)];exact hs _ (ahh _)
   unfold fg at h1 ⊢;rw[List.range_succ,ahz,List.sum_append];simp at h1 ⊢;omega
 have:=this l.length (ahi _);omega
section
variable (A : Option Addr) (cap:Nat) (l:List dR) (x y:aj) (w:World)
set_option maxRecDepth 10000
set_option maxHeartbeats 8000000
theorem xj (h:dP w A l) (hl:l.length≤9) (hs:∀c∈l,c.sup.length≤9) (ho:Lk l=true) (a b:Nat) (ha:a<l.length) (hb:b<l.length) (hx:(l[a]'ha).name=x) (hy:(l[b]'hb).name=y)
  (ea:gT l x=a) (eb:gT l y=b) :
  Calls Tryz.prog 191 #[.slice A l.length cap,encStr x,encStr y] w fun e w'=>(∃A' cap',e=.returned (.tuple #[.slice A' (gO (cR l x y)).length cap',.bool (cR l x y).isSome])∧(gO (cR l x y)).length≤cap'∧cap'≤9223372036854775807∧Ints w' A' (gO (cR l x y)))∧Ext w w':=by
 obtain⟨i0,hi,hz0,hz1,hz2⟩:=info_parts mX;obtain⟨i2,hj,hw0,Jc,hw2⟩:=info_parts C5;have HC:=aa h;have HS:=aa hs;have hle:l.length≤9223372036854775807:=by omega
 have Ho:=aa (fun w' (e:Ext w w')=>aa (tA A cap l w' (h.ext e) hl hs));rw[ho] at Ho;have Ha:=aa (ki A cap l x w h hle);have Hb:=aa (ki A cap l y w h hle);rw[ea] at Ha;rw[eb] at Hb;have hB:=xi hl hs;have HB:ahg (fN (bj l) b (1+fg (bj l) (fun _=>false) l.length) (fun _=>false) [(a,[])]=cR l x y):=aa (CV ho ha hb x y hx hy (ahi _)).symm;have Hso:=aa (tx ho).1;have Hmk:=aa (zm l.length (by omega));have ha0:¬(a:Int)<0:=by omega
 have hb0:¬(b:Int)<0:=by omega
 clear h hs ea eb hx hy ho;generalize cR l x y=R at *;obtain⟨B,YE⟩:∃B,B=1+fg (bj l) (fun _=>false) l.length:=⟨_,rfl⟩;rw[←YE] at HB;have hBl:B≤90:=by omega
 have HBe:=aa YE;clear YE hB;have je:=Hmk.o;go_enter Tryz.func191,Tryz.ntmps191;go_wp2_with fail;refine Ha.o.mono ?_;rintro e w1 ⟨rfl,rfl⟩;go_wp2_with fail;refine Hb.o.mono ?_;rintro e w1 ⟨rfl,rfl⟩;go_wp2_with fail;refine(Ho.o _ (by repeat(first|exact eR _|exact eA (by assumption) _|refine eA ?_ _|refine eM ?_ _ _|refine eD ?_|refine eN ?_ _))).o.mono ?_;rintro e w2 ⟨rfl,l2,d2,rfl⟩;have vH:ahg ((((more w1 l2 d2).alloc (.cells (aT l.length (fun _=>false)) 4)).alloc (.cells #[.int .i64 a,.slice none 0 0] 292)).ownsRow w1.heap.size 292 2 (.slice (some ⟨((more w1 l2 d2).alloc (.cells (aT l.length (fun _=>false)) 4)).heap.size,0,none⟩) 1 1) 1 [.int .i64 a,.slice none 0 0]):=aa (World.ownsRow_lit _ _ 1 (by simp;omega) (by unfold maxLen;omega) (by simp));have HM0:ahg ((((more w1 l2 d2).alloc (.cells (aT l.length (fun _=>false)) 4)).alloc (.cells #[.int .i64 a,.slice none 0 0] 292)).heap[w1.heap.size+l2.length]?=some (.cells (aT l.length (fun _=>false)) 4 (0,0))):=aa (by
  have:=ah (more w1 l2 d2) (.cells (aT l.length (fun _=>false)) 4) (w1.heap.size+l2.length) (by simp);exact((Ext.alloc (eR _) _).heap (ae this)).trans this)
 obtain⟨sb,Je⟩:∃sb,sb=w1.heap.size+l2.length:=⟨_,rfl⟩;have Jf:(((more w1 l2 d2).alloc (.cells (aT l.length (fun _=>false)) 4)).heap.size)=sb+1:=by simp;omega
 rw[←Je] at HM0;rw[Jf] at vH;have YF:w1.heap.size≤sb:=by omega
 have Hsb:=aa Je;clear Je Jf;go_wp2;rw[←Hsb.o]
 go_loopw [11,12] (fun v u wr=>∃(i:Nat) (row:List St) (seen:Nat→Bool),i≤row.length∧row.length≤B∧u=.int .i64 i∧ahg (row.length+fg (bj l) seen l.length≤B)∧ahg (wr.ownsRow w1.heap.size 292 2 v row.length (row.flatMap Jv.f)) ∧
  ahg (wr.heap[sb]?=some (.cells (aT l.length seen) 4 (0,0)))∧ahg (∀s∈row,oA wr v.ownBlock sb s)∧ahg (∀s∈row,s.cls<l.length∧s.path.length≤i)∧ahg (v.ownBlock≠some sb)∧ahg (Ext w1 wr)∧ahg (fN (bj l) b (B - i) seen ((row.drop i).map St.key)=R)) (fun _ u _=>B - (intOf u).toNat)
 case atStart=>
  refine⟨0,[⟨a,none,0,[]⟩],fun _=>false,by simp,by simp;have:=HBe.o;omega,rfl,aa (by have:=HBe.o;simp;omega),vH,HM0,aa ?_,aa ?_,aa ?_,aa (by repeat(first|exact eR _|exact eA (by assumption) _|refine eA ?_ _|refine eM ?_ _ _|refine eD ?_|refine eN ?_ _)),aa (by simpa [St.key] using HB.o)⟩
  ·intro s hs;simp at hs;subst hs;exact⟨ak.nil _ _ _,ahi _,by simp,fun _=>⟨rfl,rfl⟩,by intro c o e;cases e⟩
  ·intro s hs;simp at hs;subst hs;exact⟨ha,by simp⟩
  ·intro e;simp[Value.ownBlock] at e
 case round=>
  obtain⟨i,row,seen,Ej,hrB,rfl,HM,HO,Ts,mi,sx,HV,HX,HG⟩:=hrel;obtain⟨wo,rfl⟩:∃wo:World,wo=wr:=⟨_,rfl⟩
  by_cases hlt:i<row.length
  ·obtain⟨A11,c11,rfl,z1,z2,z3,_⟩:=ak.own Jv HO.o;obtain⟨bq,oq,rfl,Jo,hcell⟩:=ak.at_ Jv z3 hlt;have q0:=hcell 0 (by decide);have q1:=hcell 1 (by decide);have nt:=aa (mi.o _ (ahh hlt));obtain⟨C8,hpl⟩:=sx.o _ (ahh hlt);have aS:(i:Int)<(row.length:Int):=by omega
   have aew:(0:Int)≤(i:Int):=by omega
   have Hdr:ahg ((row.drop i).map St.key=(row[i]'hlt).key :: (row.drop (i+1)).map St.key):=aa (by rw[List.drop_eq_getElem_cons hlt];rfl);have mj:ahg ((row[i]'hlt)∈row):=aa (ahh hlt);clear hcell z3;generalize hxs:row[i]'hlt=xs at *;obtain⟨cl,pA,pc,p⟩:=xs;simp only[Jv,ahq,ahr,Nat.add_zero] at q0 q1;simp only at C8 hpl;have YG:ahg ((if cl=b then some p else if seen cl then fN (bj l) b (B - (i+1)) seen ((row.drop (i+1)).map St.key) else fN (bj l) b (B - (i+1)) (fun j=>j == cl||seen j) ((row.drop (i+1)).map St.key++outs (bj l) cl p))=R):=aa (by
    have h1:=HG.o;rw[Hdr.o,show B - i=(B - (i+1))+1 by omega] at h1;exact h1)
   clear hxs;have Tn:(cl:Int)<(l.length:Int):=by omega
   have aey:(0:Int)≤(cl:Int):=by omega
   have Tt:sb<wo.heap.size:=ae Ts.o
   by_cases Lv:cl=b
   ·have hR:R=some p:=by rw[←YG.o,if_pos Lv]
    have hcb:((cl:Int) == (b:Int))=true:=by simp[Lv]
    have M0:(gO (some p)).length=p.length:=by simp[gO]
    subst hR;go_wp2;go_ret2;refine⟨⟨pA,pc,by rw[M0];rfl,by rw[M0];exact nt.o.le,nt.o.max,?_⟩,HX.o.trans (by repeat(first|exact eR _|exact eA (by assumption) _|refine eA ?_ _|refine eM ?_ _ _|refine eD ?_|refine eN ?_ _))⟩;have:=nt.o.row;exact ak.ext oV this (by repeat(first|exact eR _|exact eA (by assumption) _|refine eA ?_ _|refine eM ?_ _ _|refine eD ?_|refine eN ?_ _))
   ·have hcb:((cl:Int) == (b:Int))=false:=by simp;omega
    have hsc:wo.cell? ⟨sb,cl,none⟩=some (.bool (seen cl)):=by
     have h1:=Ts.o;rw[←lB l.length seen C8];generalize aT l.length seen=cs at *;simp[World.cell?,h1]
    have hsf:wo.frozen? ⟨sb,cl,none⟩=false:=by
     have h1:=Ts.o;generalize aT l.length seen=cs at *;simp[World.frozen?,h1]
    cases Tu:seen cl
    ·rw[Tu] at hsc;have vh:ahg (fN (bj l) b (B - (i+1)) (fun j=>j == cl||seen j) ((row.drop (i+1)).map St.key++outs (bj l) cl p)=R):=aa (by have:=YG.o;rwa [if_neg Lv,Tu] at this);obtain⟨bc,oc,hAe,WQ,k0,k1,k2⟩:=(HC.o.ext HX.o).at_ C8;subst hAe;have YH:=aa (HC.o.sup _ (ahh C8));have OW:ahg (∀s∈(l[cl]'C8).sup,∃j,∃hj:j<l.length,gT l s=(j:Int)∧(l[j]'hj).name=s):=aa (fun s hs=>Hso.o.to C8 hs);have hSl:=HS.o _ (ahh C8);have Jt:ahg (bj l cl=((l[cl]'C8).sup).map fun s=>(gT l s).toNat):=aa (by unfold bj;rw[cQ C8]);clear k0 k2;generalize (l[cl]'C8).sup=S at *;generalize (l[cl]'C8).A=A5 at *;generalize (l[cl]'C8).cap=c5 at *;have O2:ahg (((wo.setCell ⟨sb,cl,none⟩ (.bool true)).alloc (.cells #[.int .i64 cl,.slice pA p.length pc] 292)).ownsRow w1.heap.size 292 2 (.slice (some ⟨bq,oq,none⟩) row.length c11) row.length (row.flatMap Jv.f)):=aa ((HO.o.kept (kQ wo sb cl (.bool true)) (.inr HV.o)).alloc _);have S2:ahg (((wo.setCell ⟨sb,cl,none⟩ (.bool true)).alloc (.cells #[.int .i64 cl,.slice pA p.length pc] 292)).heap[sb]?=some (.cells (aT l.length (fun j=>j == cl||seen j)) 4 (0,0))):=aa (by
      have h1:=aw Ts.o cl (.bool true);rw[lC] at h1;exact((Ext.alloc (eR _) _).heap (ae h1)).trans h1)
     have K2:ahg (∀s∈row,oA ((wo.setCell ⟨sb,cl,none⟩ (.bool true)).alloc (.cells #[.int .i64 cl,.slice pA p.length pc] 292)) (Value.slice (some ⟨bq,oq,none⟩) row.length c11).ownBlock sb s):=aa (fun s hs=>((mi.o s hs).keep (kQ wo sb cl (.bool true)) (.inr (.inl rfl)) (.inl rfl)).keep (iW (Ext.alloc (eR _) _) none) (.inr (.inr rfl)) (.inl rfl));have Kx:ahg (oA ((wo.setCell ⟨sb,cl,none⟩ (.bool true)).alloc (.cells #[.int .i64 cl,.slice pA p.length pc] 292)) (Value.slice (some ⟨bq,oq,none⟩) row.length c11).ownBlock sb ⟨cl,pA,pc,p⟩):=aa (K2.o _ mj.o);have Tv:(wo.setCell ⟨sb,cl,none⟩ (.bool true)).heap.size=wo.heap.size:=by simp[World.setCell]
     have B2:ahg (((wo.setCell ⟨sb,cl,none⟩ (.bool true)).alloc (.cells #[.int .i64 cl,.slice pA p.length pc] 292)).heap[wo.heap.size]?=some (.cells #[.int .i64 cl,.slice pA p.length pc] 292 (0,0))):=aa (ah _ _ _ Tv.symm);have X2:ahg (Ext w1 ((wo.setCell ⟨sb,cl,none⟩ (.bool true)).alloc (.cells #[.int .i64 cl,.slice pA p.length pc] 292))):=aa ((Ext.setCell HX.o YF _).alloc _);have V2:ahg ((Value.slice (some ⟨bq,oq,none⟩) row.length c11).ownBlock≠some wo.heap.size):=aa (fun h=>by have:=(HO.o.lt _ h).2;omega);have VA:ahg (∀r2:Nat,r2=row.length+(bj l cl).length→r2+fg (bj l) (fun j=>j == cl||seen j) l.length≤B):=aa (fun r2 hr=>by have:=nG (bj l) Tu l.length C8;have:=HM.o;omega);have Lx:(bj l cl).length=S.length:=by rw[Jt.o];simp
     have Hot:ahg (∀k (hk:k<S.length) (j:Nat),gT l (S.getD k [])=(j:Int)→(outs (bj l) cl p).take (k+1)=(outs (bj l) cl p).take k++[(j,p++[k])]):=aa (by
      intro k hk j hj;have Kd:k<(bj l cl).length:=by rw[Lx];exact hk
      rw[C6 (bj l) cl p Kd];have:(bj l cl)[k]'Kd=j:=by
       simp only[Jt.o,List.getElem_map];simp[hk] at hj;rw[hj];simp
      rw[this])
     have Tw:ahg ((outs (bj l) cl p).take S.length=outs (bj l) cl p):=aa (ahm (by rw[GS,Lx];exact ahi _));have aeB:sb<wo.heap.size:=Tt;have YI:ahg (∀r2:Nat,r2=row.length+S.length→r2+fg (bj l) (fun j=>j == cl||seen j) l.length≤B):=aa (fun r2 hr=>VA.o r2 (by rw[Lx];exact hr));clear VA Lx Jt Tv;go_wp2
     go_loopw [11,71] (fun v u wr=>∃(k:Nat) (kZ:List St),k≤S.length∧u=.int .i64 k∧kZ.length=row.length+k∧ahg (wr.ownsRow w1.heap.size 292 2 v kZ.length (kZ.flatMap Jv.f)) ∧
      ahg (wr.heap[sb]?=some (.cells (aT l.length (fun j=>j == cl||seen j)) 4 (0,0)))∧ahg (∀s∈kZ,oA wr v.ownBlock sb s)∧ahg (∀s∈kZ,s.cls<l.length∧s.path.length≤i+1)∧ahg (v.ownBlock≠some sb)∧ahg (Ext w1 wr) ∧
      ahg ((kZ.drop (i+1)).map St.key=(row.drop (i+1)).map St.key++(outs (bj l) cl p).take k)∧ahg (wr.heap[wo.heap.size]?=some (.cells #[.int .i64 cl,.slice pA p.length pc] 292 (0,0)))∧ahg (v.ownBlock≠some wo.heap.size)∧ahg (oA wr v.ownBlock sb ⟨cl,pA,pc,p⟩)) (fun _ u _=>S.length - (intOf u).toNat)
     case atStart=>exact⟨0,row,ahj _,rfl,rfl,O2,S2,K2,aa (fun s hs=>⟨(sx.o s hs).1,by have:=(sx.o s hs).2;omega⟩),HV,X2,aa (by simp),B2,V2,Kx⟩
     case round=>
      obtain⟨k,kZ,hk,rfl,hr2,kh,OY,Tz,TC,YJ,qZ,qT,gy,HW2,uw⟩:=hrel
      by_cases Lz:k<S.length
      ·obtain⟨b5,o5,rfl,Mr,r0⟩:=(YH.o.ext qZ.o).at_ Lz;have abc:(k:Int)<(S.length:Int):=by omega
       have M4:ahg (S.getD k []∈S):=aa (by simp[Lz]);obtain⟨j,xF,ej,_⟩:=OW.o _ M4.o;have YK:=aa (Hot.o k Lz j ej);have HA:=aa (fun w' (e:Ext w1 w')=>aa (ki (some ⟨bc,oc,none⟩) cap l (S.getD k []) w' (HC.o.ext e) hle));rw[ej] at HA;have xX:=aa (fun w' (e:Ext wr w')=>aa (Lt pA pc (ints p) w' (ak.ext oV uw.o.row e) (by rw[na];omega) (fun hn=>⟨by have h1:p=[]:=(uw.o.nil hn).1;rw[h1];rfl,(uw.o.nil hn).2⟩)));rw[na] at xX;have OZ:wo.heap.size<wr.heap.size:=ae gy.o;have YL:sb<wr.heap.size:=ae OY.o;have hx1:wr.cell? ⟨wo.heap.size,1,none⟩=some (.slice pA p.length pc):=by have:=gy.o;simp[World.cell?,this]
       have abd:p.length≤100:=by omega
       have aeC:kZ.length≤200:=by omega
       generalize S.getD k []=sk at *;clear ej M4;go_wp2
       go_region_held3 (fun w'=>w'.cell? ⟨wo.heap.size,1,none⟩=some (.slice pA p.length pc)) (first|assumption|go_keep) (first
        |(
         go_at_call 136
         refine Calls.mono (HA.o _ ?e).o ?_
         case e=>first|(refine Ext.trans (qZ.o.trans X4.o) ?_;(repeat(first|exact eR _|exact eA (by assumption) _|refine eA ?_ _|refine eM ?_ _ _|refine eD ?_|refine eN ?_ _));done)|(refine Ext.trans (qZ.o.trans X3.o) ?_;(repeat(first|exact eR _|exact eA (by assumption) _|refine eA ?_ _|refine eM ?_ _ _|refine eD ?_|refine eN ?_ _));done)|(refine Ext.trans qZ.o ?_;(repeat(first|exact eR _|exact eA (by assumption) _|refine eA ?_ _|refine eM ?_ _ _|refine eD ?_|refine eN ?_ _));done)
         rintro e w8 ⟨rfl,rfl⟩)
        |(
         go_at_call 220
         refine Calls.mono (xX.o _ ?e).o ?_
         case e=>exact(by repeat(first|exact eR _|exact eA (by assumption) _|refine eA ?_ _|refine eM ?_ _ _|refine eD ?_|refine eN ?_ _))
         rintro e w3 ⟨⟨v3,rfl,ho3⟩,hx3⟩;have X3:ahg (Ext wr w3):=aa (Ext.trans (by repeat(first|exact eR _|exact eA (by assumption) _|refine eA ?_ _|refine eM ?_ _ _|refine eD ?_|refine eN ?_ _)) hx3);have Hx3:=aa hx3;have O3:ahg (w3.ownsRow wr.heap.size 3 1 v3 p.length ((ints p).map (Value.int .i64))):=aa (CY ho3 (Ext.size (by repeat(first|exact eR _|exact eA (by assumption) _|refine eA ?_ _|refine eM ?_ _ _|refine eD ?_|refine eN ?_ _))));have hs3:w3.cell? ⟨wo.heap.size,1,none⟩=some (.slice pA p.length pc):=(World.cell?_of_block (a:=⟨wo.heap.size,1,none⟩) (X3.o.heap OZ)).trans hx1;clear ho3 hx3)
        |(
         refine aI _ rfl (.tmp 82) (.tmp 84) 38 rfl wr.heap.size 3 i0 _ 1 8 Tryz.underlying38 hi hz0 hz1 hz2 rfl (by decide) v3 p.length ((ints p).map (Value.int .i64)) rfl (bk O3.o (by repeat(first|exact eR _|exact eA (by assumption) _|refine eA ?_ _|refine eM ?_ _ _|refine eD ?_|refine eN ?_ _))) (some ⟨_,0,none⟩) 1 1 [.int .i64 k] rfl (by first|(refine Row.Lr _ (ah _ _ _ ?_);simp;done)|(refine Row.Lr _ ((Hx3.o.heap ?_).trans (ah _ _ _ ?_))<;>simp;done)) (by intro u hu;simp at hu;subst hu;rfl) (by unfold maxLen;omega) (by omega) (Ext.size (X3.o.trans (by repeat(first|exact eR _|exact eA (by assumption) _|refine eA ?_ _|refine eM ?_ _ _|refine eD ?_|refine eN ?_ _)))) ?_;intro v4 w4 bB hg4 fc;obtain⟨A4,c4,rfl,t1,t2,t3,t4⟩:=Ints.own (l:=ints (p++[k])) (by have:=bB;simpa [ints] using this);have X4:ahg (Ext wr w4):=aa (Ext.app (X3.o.trans (by repeat(first|exact eR _|exact eA (by assumption) _|refine eA ?_ _|refine eM ?_ _ _|refine eD ?_|refine eN ?_ _))) hg4 (bk O3.o (by repeat(first|exact eR _|exact eA (by assumption) _|refine eA ?_ _|refine eM ?_ _ _|refine eD ?_|refine eN ?_ _))) (ahi _));have N4:ahg (oA w4 u11.ownBlock sb ⟨j,A4,c4,p++[k]⟩):=aa ⟨t3,by rw[←na];exact t1,t2,fun hn=>by have EY:A4=none:=hn;rw[EY] at t3;exact(absurd (t3.2 (by simp[ints])) (by rintro⟨_,_,h,_⟩;cases h)),fun c o e=>⟨fun h=>by have:=(kh.o.lt _ h).2;have:=(t4 c o e).1;omega,by have:=(t4 c o e).1;omega,(t4 c o e).2⟩⟩;have Qa:w4.cell? ⟨wo.heap.size,1,none⟩=some (.slice pA p.length pc):=(World.cell?_of_block (a:=⟨wo.heap.size,1,none⟩) (X4.o.heap OZ)).trans hx1;clear bB hg4 fc t1 t2 t3 t4)
        |(
         refine aI _ rfl (.tmp 76) (.tmp 87) 293 rfl w1.heap.size 292 i2 _ 2 32 Tryz.underlying293 hj hw0 Jc hw2 rfl (by decide) u11 kZ.length (kZ.flatMap Jv.f) rfl (bk kh.o (X4.o.trans (by repeat(first|exact eR _|exact eA (by assumption) _|refine eA ?_ _|refine eM ?_ _ _|refine eD ?_|refine eN ?_ _)))) (some ⟨_,0,none⟩) 1 1 [.int .i64 j,.slice A4 (ints (p++[k])).length c4] rfl (Row.Tj _ _ (ah _ _ _ (by simp))) (by intro u hu;simp at hu;rcases hu with rfl|rfl<;>rfl) (by unfold maxLen;omega) (by omega) (Ext.size (qZ.o.trans (X4.o.trans (by repeat(first|exact eR _|exact eA (by assumption) _|refine eA ?_ _|refine eM ?_ _ _|refine eD ?_|refine eN ?_ _))))) ?_;intro v5 w5 nP xG C9;have X5:ahg (Ext w1 w5):=aa (Ext.app (qZ.o.trans (X4.o.trans (by repeat(first|exact eR _|exact eA (by assumption) _|refine eA ?_ _|refine eM ?_ _ _|refine eD ?_|refine eN ?_ _)))) xG (bk kh.o (X4.o.trans (by repeat(first|exact eR _|exact eA (by assumption) _|refine eA ?_ _|refine eM ?_ _ _|refine eD ?_|refine eN ?_ _)))) (ahi _));have K5:ahg (∀s∈kZ,oA w5 v5.ownBlock sb s):=aa (fun s hs=>((Tz.o s hs).keep (iW (X4.o.trans (by repeat(first|exact eR _|exact eA (by assumption) _|refine eA ?_ _|refine eM ?_ _ _|refine eD ?_|refine eN ?_ _))) none) (.inr (.inr rfl)) (.inl rfl)).keep xG (.inl rfl) (C9.imp id (fun h=>⟨_,h,ahi _⟩)));have N5:ahg (oA w5 v5.ownBlock sb ⟨j,A4,c4,p++[k]⟩):=aa ((N4.o.keep (iW (by repeat(first|exact eR _|exact eA (by assumption) _|refine eA ?_ _|refine eM ?_ _ _|refine eD ?_|refine eN ?_ _)) none) (.inr (.inr rfl)) (.inl rfl)).keep xG (.inl rfl) (C9.imp id (fun h=>⟨_,h,ahi _⟩)));have Kx5:ahg (oA w5 v5.ownBlock sb ⟨cl,pA,pc,p⟩):=aa ((uw.o.keep (iW (X4.o.trans (by repeat(first|exact eR _|exact eA (by assumption) _|refine eA ?_ _|refine eM ?_ _ _|refine eD ?_|refine eN ?_ _))) none) (.inr (.inr rfl)) (.inl rfl)).keep xG (.inl rfl) (C9.imp id (fun h=>⟨_,h,ahi _⟩)));have VB:=((X4.o.heap YL).trans OY.o);have vw:=((X4.o.heap OZ).trans gy.o);have S5:ahg (w5.heap[sb]?=some (.cells (aT l.length (fun j=>j == cl||seen j)) 4 (0,0))):=aa ((xG.block sb (Nat.lt_of_lt_of_le (ae VB) (Ext.size (by repeat(first|exact eR _|exact eA (by assumption) _|refine eA ?_ _|refine eM ?_ _ _|refine eD ?_|refine eN ?_ _)))) (fun h=>YJ.o h.symm)).trans ((Ext.heap (by repeat(first|exact eR _|exact eA (by assumption) _|refine eA ?_ _|refine eM ?_ _ _|refine eD ?_|refine eN ?_ _)) (ae VB)).trans VB));have B5:ahg (w5.heap[wo.heap.size]?=some (.cells #[.int .i64 cl,.slice pA p.length pc] 292 (0,0))):=aa ((xG.block wo.heap.size (Nat.lt_of_lt_of_le (ae vw) (Ext.size (by repeat(first|exact eR _|exact eA (by assumption) _|refine eA ?_ _|refine eM ?_ _ _|refine eD ?_|refine eN ?_ _)))) (fun h=>HW2.o h.symm)).trans ((Ext.heap (by repeat(first|exact eR _|exact eA (by assumption) _|refine eA ?_ _|refine eM ?_ _ _|refine eD ?_|refine eN ?_ _)) (ae vw)).trans vw));have aeF:wr.heap.size≤w4.heap.size:=X4.o.size;have V5:ahg (v5.ownBlock≠some sb):=aa (fun h=>by
          rcases C9 with h5|h5
          ·rw[h5] at h;exact YJ.o h
          ·rw[h5] at h;injection h with h;simp at h;omega)
         have W5:ahg (v5.ownBlock≠some wo.heap.size):=aa (fun h=>by
          rcases C9 with h5|h5
          ·rw[h5] at h;exact HW2.o h
          ·rw[h5] at h;injection h with h;simp at h;omega)
         have hs5:w5.cell? ⟨wo.heap.size,1,none⟩=some (.slice pA p.length pc):=by have:=B5.o;simp[World.cell?,this]
         have O5:ahg (w5.ownsRow w1.heap.size 292 2 v5 (kZ++[(⟨j,A4,c4,p++[k]⟩:St)]).length ((kZ++[(⟨j,A4,c4,p++[k]⟩:St)]).flatMap Jv.f)):=aa (by
          have:=nP;rw[na] at this;simpa [Jv] using this)
         clear nP xG C9 VB vw))
       all_goals
        go_wp2;go_roundw
        case rel=>
         refine⟨k+1,kZ++[(⟨j,A4,c4,p++[k]⟩:St)],Lz,by go_num,by rw[ahn,hr2];simp;omega,O5,S5,aa ?_,aa ?_,V5,X5,aa ?_,B5,W5,Kx5⟩
         ·intro s hs
          rcases List.mem_append.1 hs with hs|hs
          ·exact K5.o s hs
          ·simp only[ahx] at hs;rw[hs];exact N5.o
         ·intro s hs
          rcases List.mem_append.1 hs with hs|hs
          ·exact TC.o s hs
          ·simp only[ahx] at hs;rw[hs];exact⟨xF,by simp;omega⟩
         ·rw[List.drop_append_of_le_length (by omega),ahz,qT.o,YK.o,List.append_assoc];rfl
        case measure=>simp[intOf];omega
      ·have aeG:(S.length:Int)≤(k:Int):=by omega
       have hkS:k=S.length:=by omega
       rw[hkS,Tw.o] at qT;have MZ:=YI.o kZ.length (by omega);clear hkS;go_wp2;go_roundw
       case rel=>
        refine⟨i+1,kZ,fun j=>j == cl||seen j,by omega,by omega,by go_num,aa MZ,kh,OY,Tz,TC,YJ,qZ,aa (by rw[qT.o];exact vh.o)⟩
       case measure=>simp[intOf];omega
    ·rw[Tu] at hsc;have vh:ahg (fN (bj l) b (B - (i+1)) seen ((row.drop (i+1)).map St.key)=R):=aa (by have:=YG.o;rwa [if_neg Lv,Tu,if_pos rfl] at this);go_wp2;go_roundw
     case rel=>
      refine⟨i+1,row,seen,hlt,hrB,by go_num,HM,aa (HO.o.alloc _),aa ((Ext.alloc (eR _) _).heap Tt |>.trans Ts.o),aa (fun s hs=>(mi.o s hs).keep (iW (Ext.alloc (eR _) _) none) (.inr (.inr rfl)) (.inl rfl)),aa (fun s hs=>⟨(sx.o s hs).1,by have:=(sx.o s hs).2;omega⟩),HV,aa (HX.o.alloc _),vh⟩
     case measure=>simp[intOf];omega
  ·have bU:(row.length:Int)≤(i:Int):=by omega
   have hR:=HG.o;rw[List.drop_eq_nil_of_le (by omega)] at hR;have hR2:R=none:=by rw[←hR];cases(B - i)<;>rfl
   subst hR2;obtain⟨A11,c11,rfl,z1,z2,z3,_⟩:=ak.own Jv HO.o;clear z3 hR;go_wp2;go_ret2;exact⟨⟨none,0,rfl,ahi _,by omega,ak.nil _ _ _⟩,HX.o⟩
set_option maxRecDepth 512
set_option maxHeartbeats 200000
end
section
variable (A : Option Addr) (cap:Nat) (l:List dR) (x y:aj) (w:World)
set_option maxRecDepth 10000
set_option maxHeartbeats 8000000
theorem GU (h:dP w A l) (hl:l.length≤9) (hs:∀c∈l,c.sup.length≤9) :
  Calls Tryz.prog 191 #[.slice A l.length cap,encStr x,encStr y] w fun e w'=>(∃A' cap',e=.returned (.tuple #[.slice A' (gO (cR l x y)).length cap',.bool (cR l x y).isSome])∧(gO (cR l x y)).length≤cap'∧cap'≤9223372036854775807∧Ints w' A' (gO (cR l x y)))∧Ext w w':=by
 have Ha:=aa (ki A cap l x w h (by omega));have Hb:=aa (ki A cap l y w h (by omega));have Ho:=aa (fun w' (e:Ext w w')=>aa (tA A cap l w' (h.ext e) hl hs))
 rcases iU l x with ⟨e1,_,_⟩|⟨a,ha,e1,_,ex⟩
 ·have hR:cR l x y=none:=by unfold cR;rw[e1];simp
  rw[e1] at Ha;rw[hR];clear h hs e1 hR;generalize gT l y=b at *;go_enter Tryz.func191,Tryz.ntmps191;go_wp2_with fail;refine Ha.o.mono ?_;rintro e w1 ⟨rfl,rfl⟩;go_wp2_with fail;refine Hb.o.mono ?_;rintro e w1 ⟨rfl,rfl⟩;go_wp2;go_ret2;exact⟨⟨none,0,rfl,ahi _,by omega,ak.nil _ _ _⟩,(by repeat(first|exact eR _|exact eA (by assumption) _|refine eA ?_ _|refine eM ?_ _ _|refine eD ?_|refine eN ?_ _))⟩
 ·rcases iU l y with ⟨e2,_,_⟩|⟨b,hb,e2,_,ey⟩
  ·have hR:cR l x y=none:=by unfold cR;rw[e2];simp
   rw[e1] at Ha;rw[e2] at Hb;rw[hR];have ha0:¬(a:Int)<0:=by omega
   clear h hs e1 hR e2;go_enter Tryz.func191,Tryz.ntmps191;go_wp2_with fail;refine Ha.o.mono ?_;rintro e w1 ⟨rfl,rfl⟩;go_wp2_with fail;refine Hb.o.mono ?_;rintro e w1 ⟨rfl,rfl⟩;go_wp2;go_ret2;exact⟨⟨none,0,rfl,ahi _,by omega,ak.nil _ _ _⟩,(by repeat(first|exact eR _|exact eA (by assumption) _|refine eA ?_ _|refine eM ?_ _ _|refine eD ?_|refine eN ?_ _))⟩
  ·cases ho:Lk l
   ·have hR:cR l x y=none:=by unfold cR;rw[ho];simp
    rw[e1] at Ha;rw[e2] at Hb;rw[ho] at Ho;rw[hR];have ha0:¬(a:Int)<0:=by omega
    have hb0:¬(b:Int)<0:=by omega
    clear h hs e1 hR e2 ho;go_enter Tryz.func191,Tryz.ntmps191;go_wp2_with fail;refine Ha.o.mono ?_;rintro e w1 ⟨rfl,rfl⟩;go_wp2_with fail;refine Hb.o.mono ?_;rintro e w1 ⟨rfl,rfl⟩;go_wp2_with fail;refine(Ho.o _ (by repeat(first|exact eR _|exact eA (by assumption) _|refine eA ?_ _|refine eM ?_ _ _|refine eD ?_|refine eN ?_ _))).o.mono ?_;rintro e w2 ⟨rfl,l2,d2,rfl⟩;go_wp2;go_ret2;exact⟨⟨none,0,rfl,ahi _,by omega,ak.nil _ _ _⟩,(by repeat(first|exact eR _|exact eA (by assumption) _|refine eA ?_ _|refine eM ?_ _ _|refine eD ?_|refine eN ?_ _))⟩
   ·exact xj A cap l x y w h hl hs ho a b ha hb ex ey e1 e2
set_option maxRecDepth 512
set_option maxHeartbeats 200000
end
section
variable (A B:Option Addr) (cap cap':Nat) (l:List dR) (ns:List aj) (w:World)
end
end Go.Proofs.YtigafbmabjglfaaGreatDoor
