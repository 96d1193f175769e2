import Derived.Test.YtigafbmabjglfaaGreatDoorJT14
import Derived.Laws.CopyOwn
import Derived.Laws.CopyRow
namespace Go.Proofs.YtigafbmabjglfaaGreatDoor
open Go.RowKit
theorem mJ {P:Program}(w:World) (dT sT ty elem:TypeId) (k g o nv tX:Nat) (a:Addr) (nw tY:Nat) (cur:Array Value) (t:TypeId) (cs:List Value) (n:Nat)
  (hu:P.underlying dT=some (.slice elem)) (hs:(P.info? elem).map (·.size)=some k)
  (hg:w.heap[g]?=some (.cells cur t (0,0))) (hn:n=Nat.min nw nv) (hc:cs.length=n*k)
  (yb:∀j v,cs[j]?=some v→w.cell? (a.add j)=some v) (ye:o+cs.length≤cur.size) (h1:∀v∈cs,v.oneCell'=true) :
  (Builtin.copy_ #[dT,sT] ty #[.slice (some ⟨g,o,none⟩) nv tX,.slice (some a) nw tY]).run P w =
   .ok (goInt n) (w.setRow g (cur.toList.take o++cs++cur.toList.drop (o+cs.length)).toArray):=by
 have hl:=run_loadCells_list (P:=P) w a cs yb;have hst:=run_storeCells_at P g o t cs 0 cur w hg (by simpa using ye) h1;cases hq:P.info? elem with
 |none=>simp[hq] at hs
 |some i=>
  have hi:i.size=k:=by simpa [hq] using hs
  rw[hc] at hl;simp[Builtin.copy_,run_underlying hu,Builtin.lenOf,Builtin.firstCells,sizeOf,typeInfo,hq,hi,←hn,hl];rw[hst];simp
theorem mL (w:World) (g:Nat) (cs:Array Value):w.grownBy (w.setRow g cs) (some g):=
 ⟨rfl,rfl,rfl,by simp[World.setRow],fun k _ hk=>setRow_other w g k cs (fun e=>hk (by rw[e]))⟩
theorem aR {a b c:World}{row:Option Nat}(h:a.grownBy b row) (k:b.grownBy c row):a.grownBy c row:=
 ⟨k.os.trans h.os,k.tape.trans h.tape,k.output.trans h.output,aho h.size k.size,fun j hj hne=>(k.block j (Nat.lt_of_lt_of_le hj h.size) hne).trans (h.block j hj hne)⟩
theorem ie (w:World) (g:Nat) (cs:Array Value):(w.setRow g cs).heap.size=w.heap.size:=by simp[World.setRow]
theorem ll {P:Program}{w:World}{ops:Array Oper}{rest:List Oper}{o:Oper}{a:Act}{Q:Exit→Act→World→Prop}(hgd:o.guard=none) (d s:Operand) (dT sT:TypeId)
  (ho:o.op=.call { callee:=.builtin .copy,args:=#[d,s],argTypes:=#[dT,sT] }) (elem:TypeId) (hu:P.underlying dT=some (.slice elem)) (k:Nat) (hsz:(P.info? elem).map (·.size)=some k)
  (g off nv tX:Nat) (ad:Addr) (nw tY:Nat) (hd:a.eval d=.slice (some ⟨g,off,none⟩) nv tX) (hs:a.eval s=.slice (some ad) nw tY)
  (cur:List Value) (t:TypeId) (hg:w.heap[g]?=some (.cells cur.toArray t (0,0))) (cs:List Value) (n:Nat) (hn:n=Nat.min nw nv) (hc:cs.length=n*k)
  (yb:∀j v,cs[j]?=some v→w.cell? (ad.add j)=some v) (ye:off+cs.length≤cur.length) (h1:∀v∈cs,v.oneCell'=true)
  (h:∀w',ahg (w'.heap[g]?=some (.cells (splice cur off cs).toArray t (0,0)))→ahg (w.grownBy w' (some g))→w'.heap.size=w.heap.size→wpList P ops Q rest (a.put o.dst (goInt n)) w'):wpList P ops Q (o :: rest) a w:=by
 refine wpList_plain hgd fun K hK => ?_
 have hrun:=mJ (P:=P) w dT sT o.type elem k g off nv tX ad nw tY cur.toArray t cs n hu hsz hg hn hc yb (by simpa using ye) h1;unfold Oper.wp;simp[execOp,ho,resolve,invoke,builtin,hd,hs,hrun,Result.andThen];exact hK _ _ (h _ (show _=_ by simpa [splice] using setRow_heap w g _ _ t _ hg) (mL _ _ _) (ie _ _ _))
theorem nN {P:Program}{ops:Array Oper}{o:Oper}{a:Act}{w:World}{K:Act→World→Prop}{Q:Exit→Act→World→Prop}{E:Prop}(hgd:o.guard=none) (d s:Operand) (dT sT:TypeId)
  (ho:o.op=.call { callee:=.builtin .copy,args:=#[d,s],argTypes:=#[dT,sT] }) (elem:TypeId) (hu:P.underlying dT=some (.slice elem)) (k:Nat) (hsz:(P.info? elem).map (·.size)=some k)
  (g off nv tX:Nat) (ad:Addr) (nw tY:Nat) (hd:a.eval d=.slice (some ⟨g,off,none⟩) nv tX) (hs:a.eval s=.slice (some ad) nw tY)
  (cur:List Value) (t:TypeId) (hg:w.heap[g]?=some (.cells cur.toArray t (0,0))) (cs:List Value) (n:Nat) (hn:n=Nat.min nw nv) (hc:cs.length=n*k)
  (yb:∀j v,cs[j]?=some v→w.cell? (ad.add j)=some v) (ye:off+cs.length≤cur.length) (h1:∀v∈cs,v.oneCell'=true)
  (h:∀w',ahg (w'.heap[g]?=some (.cells (splice cur off cs).toArray t (0,0)))→ahg (w.grownBy w' (some g))→w'.heap.size=w.heap.size→K (a.put o.dst (goInt n)) w') :
  if Region.wanted o (yielded ops a.tmps)=true then Oper.wp P o a w K Q else E:=by
 have hw:Region.wanted o (yielded ops a.tmps)=true:=by simp[Region.wanted,hgd]
 rw[if_pos hw];have hrun:=mJ (P:=P) w dT sT o.type elem k g off nv tX ad nw tY cur.toArray t cs n hu hsz hg hn hc yb (by simpa using ye) h1;unfold Oper.wp;simp[execOp,ho,resolve,invoke,builtin,hd,hs,hrun,Result.andThen];exact h _ (show _=_ by simpa [splice] using setRow_heap w g _ _ t _ hg) (mL _ _ _) (ie _ _ _)
theorem Bx {α:Type}(L Y Z:List α) (a b c:Nat) (hY:Y.length=b) (hZ:Z.length=c) (h:a+b+c≤L.length) :
  (splice (splice L a Y) (a+b) Z).length=L.length∧(splice (splice L a Y) (a+b) Z).take (a+b+c)=L.take a++(Y++Z):=by
 have h1:(splice L a Y).length=L.length:=length_splice L a Y (by omega);refine⟨by rw[length_splice _ _ _ (by omega),h1],?_⟩;have e1:(splice L a Y).take (a+b)=L.take a++Y:=by
  unfold splice;rw[←List.append_assoc,List.take_append_of_le_length (by rw[ahn,List.length_take];omega),ahm (by rw[ahn,List.length_take];omega)]
 show((splice L a Y).take (a+b)++(Z++_)).take _=_;rw[e1,←List.append_assoc,List.take_append_of_le_length (by simp;omega),ahm (by simp;omega),List.append_assoc]
theorem tZ {α:Type}(L Y Z:List α) (a b c:Nat) (hY:Y.length=b) (hZ:Z.length=c) (h:a+b+c≤L.length) :
  (splice (splice L (a+b) Z) a Y).length=L.length∧(splice (splice L (a+b) Z) a Y).take (a+b+c)=L.take a++(Y++Z):=by
 have h1:(splice L (a+b) Z).length=L.length:=length_splice L (a+b) Z (by omega);refine⟨by rw[length_splice _ _ _ (by omega),h1],?_⟩;have e1:(splice L (a+b) Z).take a=L.take a:=by
  unfold splice;rw[List.take_append_of_le_length (by rw[List.length_take];omega),List.take_take,Nat.min_eq_left (by omega)]
 have e2:(splice L (a+b) Z).drop (a+Y.length)=Z++L.drop (a+b+c):=by
  unfold splice;rw[hY,hZ,List.drop_append_of_le_length (by rw[List.length_take];omega),List.drop_take_self,List.nil_append]
 unfold splice at e1 e2 ⊢;rw[e1,e2,←List.append_assoc,←List.append_assoc,List.take_append_of_le_length (by simp;omega),ahm (by simp;omega),List.append_assoc]
end Go.Proofs.YtigafbmabjglfaaGreatDoor
