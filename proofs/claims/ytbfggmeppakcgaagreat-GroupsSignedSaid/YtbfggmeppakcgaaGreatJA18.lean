/- Contract: groups sorted by their least vertices. -/
import Derived.Test.YtbfggmeppakcgaaGreatJA17
import Derived.Test.YtbfggmeppakcgaaGreatSrt
import Derived.Deep.RegionHeld3
/- Contract: groups sorted by their least vertices. -/
namespace Go.Proofs.YtbfggmeppakcgaaGreat
open Go.RowKit Go.Sort Go.Shelf

section
variable {α : Type} [Inhabited α] (enc : α → Value) (w : World) (blk off m : Nat) (dk : Array α) (os : Array Obj)
theorem sw_heap {k : Nat} (h1 : k ≠ blk) (h2 : k < w.heap.size) : (sortWorld enc w blk off m dk os).heap[k]? = w.heap[k]? := by
  have e1 : (sortWorld enc w blk off m dk os).heap = w.heap.modify blk (onCells (putCells enc off dk)) ++ os := rfl
  rw [e1, Array.getElem?_append_left (by simpa using h2), Array.getElem?_modify, if_neg (fun e => h1 e.symm)]
theorem sw_size : w.heap.size ≤ (sortWorld enc w blk off m dk os).heap.size := by
  have e1 : (sortWorld enc w blk off m dk os).heap = w.heap.modify blk (onCells (putCells enc off dk)) ++ os := rfl
  rw [e1, Array.size_append, Array.size_modify]
  omega
theorem sw_grown : w.grownBy (sortWorld enc w blk off m dk os) (some blk) :=
  ⟨rfl, rfl, rfl, sw_size enc w blk off m dk os, fun _ hk hn => sw_heap enc w blk off m dk os (fun e => hn (by rw [e])) hk⟩
theorem sw_cell {d0 : Array α} (h0 : Holds enc w blk off d0) (hs : dk.size = d0.size) (hb : blk < w.heap.size) {j : Nat} (hj : j < dk.size) : (sortWorld enc w blk off m dk os).cell? ⟨blk, off + j, none⟩ = some (enc dk[j]!) := by
  have h1 : (sortWorld enc w blk off m dk os).heap[blk]? = (putRow enc w blk off dk).heap[blk]? := by
    have e1 : (sortWorld enc w blk off m dk os).heap = (putRow enc w blk off dk).heap ++ os := rfl
    rw [e1, Array.getElem?_append_left (by simpa using hb)]
  exact (World.cell?_of_block (a := ⟨blk, off + j, none⟩) h1).trans (cell?_putRow enc w blk off d0 dk h0 hs j hj)
end

theorem g_sort (K bl wb vb cL : Nat) (AL : Option Addr) (L : List Nat) (w : World) (hK : L.length = K) (hK2 : K ≤ 1000)
    (hbl : w.heap[bl]? = some (.cells (cellsOf K fun j => .int .i64 (j : Int)) 3 (0, 0)))
    (hv : w.heap[vb]? = some (.cells #[.pointer (some ⟨wb, 0, none⟩)] 56 (0, 0)))
    (hl : w.cell? ⟨wb, 3003, none⟩ = some (.slice AL K cL)) (hwb : wb < w.heap.size) (hr : Ints w AL (zs L)) (hb : ∀ z ∈ L, z < 1000) (h1 : bl ≠ vb) (h2 : bl ≠ wb) (h3 : ∀ c o, AL = some ⟨c, o, none⟩ → c ≠ bl) :
    Calls Tryz.prog 25 #[.slice (some ⟨bl, 0, none⟩) K K, .func (.func 26) #[] #[.pointer (some ⟨vb, 0, none⟩)]] w fun e w' => e = .returned (.tuple #[]) ∧ w.grownBy w' (some bl) ∧
      ∃ by_ : List Nat, by_.Perm (List.range K) ∧ by_.Pairwise (fun a b => L.getD a 0 ≤ L.getD b 0) ∧ Ints w' (some ⟨bl, 0, none⟩) (zs by_) := by
  cases K with
  | zero =>
    have h := AnyF.slices_SortFunc_none (P := Tryz.prog) (ρ := Tryz.sortI_ren) { Tryz.sortI with } (some ⟨bl, 0, none⟩) 0 (.func (.func 26) #[] #[.pointer (some ⟨vb, 0, none⟩)]) w
    change Calls Tryz.prog 25 _ _ _ at h
    refine h.mono ?_
    rintro e w' ⟨rfl, rfl⟩
    exact ⟨rfl, World.grownBy.refl _ _, [], by simp, List.Pairwise.nil, RowOf.nil _ _ _⟩
  | succ n =>
    have hH : Holds (fun x : Fin (n + 1) => Value.int .i64 (x.val : Int)) w bl 0 (Array.ofFn fun x : Fin (n + 1) => x) := by
      intro j hj
      have hj' : j < n + 1 := by simpa using hj
      have e1 : (cellsOf (n + 1) fun j => Value.int .i64 (j : Int))[j]? = some (.int .i64 (j : Int)) := cellsOf_get _ _ hj'
      refine ⟨?_, by simp [World.frozen?, hbl]⟩
      rw [getElem!_pos _ j hj, Array.getElem_ofFn]
      generalize (cellsOf (n + 1) fun j => Value.int .i64 (j : Int)) = cs at *
      simp [World.cell?, hbl, e1]
    have hLn : ∀ x : Fin (n + 1), x.val < L.length := fun x => by rw [hK]; exact x.isLt
    have hO : SWO (ltOf fun x y : Fin (n + 1) => ((zs L)[x.val]'(by rw [zs_len]; exact hLn x)) - (zs L)[y.val]'(by rw [zs_len]; exact hLn y)) := by
      refine ⟨fun x => ?_, fun x y z h1 h2 => ?_, fun x y z h1 h2 => ?_⟩ <;> simp only [ltOf, decide_eq_true_eq, decide_eq_false_iff_not] at * <;> omega
    have eg : ∀ args w, (callFunc 26 args).run Tryz.prog w = .ok (.enter 26 args) w := enters_of Tryz.func26 (by kernel_rfl) rfl
    have hcmp : CmpReads Tryz.prog 26 #[.pointer (some ⟨vb, 0, none⟩)] (fun x : Fin (n + 1) => Value.int .i64 (x.val : Int)) (fun x y : Fin (n + 1) => ((zs L)[x.val]'(by rw [zs_len]; exact hLn x)) - (zs L)[y.val]'(by rw [zs_len]; exact hLn y)) bl 0 (Array.ofFn fun x : Fin (n + 1) => x).size w := by
      intro m os dk hdk x y
      refine g_cmp x.val y.val wb vb cL AL (zs L) _ ?_ ?_ ?_ (by rw [zs_len]; exact hLn x) (by rw [zs_len]; exact hLn y) ?_
      · have := (sw_heap (fun x : Fin (n + 1) => Value.int .i64 (x.val : Int)) w bl 0 m dk os (fun e => h1 e.symm) (lt_of_obj hv)).trans hv
        simp [World.cell?, this]
      · rw [zs_len, hK]
        exact (World.cell?_of_block (a := ⟨wb, 3003, none⟩) (sw_heap (fun x : Fin (n + 1) => Value.int .i64 (x.val : Int)) w bl 0 m dk os (fun e => h2 e.symm) hwb)).trans hl
      · exact Row.keep hr (sw_size _ _ _ _ _ _ _) (fun c o e hc => sw_heap _ _ _ _ _ _ _ (h3 c o e) hc)
      · intro z hz
        unfold zs at hz
        obtain ⟨z', hz1, rfl⟩ := List.mem_map.1 hz
        have := hb z' hz1
        exact ⟨Int.natCast_nonneg _, by show (z' : Int) < 1000; omega⟩
    have hs0 : (Array.ofFn fun x : Fin (n + 1) => x).size = n + 1 := by simp
    have h := Any.slices_SortFunc (P := Tryz.prog) (ρ := Tryz.sortI_ren) Tryz.sortI (fun x : Fin (n + 1) => Value.int .i64 (x.val : Int)) (fun _ => rfl) _ hO 26 _ bl 0 (n + 1) (Array.ofFn fun x : Fin (n + 1) => x) w eg hcmp.lays hH (lt_of_obj hbl) (by omega)
    change Calls Tryz.prog 25 _ _ _ at h
    rw [hs0] at h
    refine h.mono ?_
    rintro e w' ⟨rfl, d', q, os, hp, hsrt, rfl⟩
    obtain ⟨p1, -, p3⟩ := hp
    rw [hs0] at p1
    refine ⟨rfl, sw_grown _ _ _ _ _ _ _, d'.toList.map Fin.val, ?_, ?_, ?_⟩
    · have e1 : d'.extract 0 (n + 1) = d' := Array.extract_eq_self_of_le (by omega)
      have e2 : (Array.ofFn fun x : Fin (n + 1) => x).extract 0 (n + 1) = Array.ofFn fun x : Fin (n + 1) => x := Array.extract_eq_self_of_le (by omega)
      rw [e1, e2] at p3
      have p4 := p3.map Fin.val
      refine p4.trans (List.Perm.of_eq ?_)
      apply List.ext_getElem
      · simp
      · intro i h1 h2
        rw [List.getElem_map, Array.getElem_toList, Array.getElem_ofFn, List.getElem_range]
    · rw [List.pairwise_map, List.pairwise_iff_getElem]
      intro i j hi hj hij
      have hi' : i < d'.size := by simpa using hi
      have hj' : j < d'.size := by simpa using hj
      have := hsrt i j (Nat.zero_le _) hij (by omega)
      rw [getElem!_pos _ i hi', getElem!_pos _ j hj'] at this
      simp only [ltOf, decide_eq_false_iff_not] at this
      simp only [Array.getElem_toList]
      have g1 := hLn (d'[i]'hi')
      have g2 := hLn (d'[j]'hj')
      rw [zs_get _ _ g1, zs_get _ _ g2] at this
      simp only [List.getD_eq_getElem?_getD, List.getElem?_eq_getElem g1, List.getElem?_eq_getElem g2, Option.getD_some]
      omega
    · refine ⟨flat_len _ _ intC.hf _, fun _ => ⟨bl, 0, rfl, Nat.lt_of_lt_of_le (lt_of_obj hbl) (sw_size _ _ _ _ _ _ _), fun j u hu => ?_⟩⟩
      rw [show (zs (d'.toList.map Fin.val)).flatMap intC.f = (zs (d'.toList.map Fin.val)).map (Value.int .i64) from flat_one _ _] at hu
      have hj : j < d'.size := by
        have := (List.getElem?_eq_some_iff.1 hu).1
        simpa [zs] using this
      have e1 := sw_cell (fun x : Fin (n + 1) => Value.int .i64 (x.val : Int)) w bl 0 q d' os hH (p1.trans hs0.symm) (lt_of_obj hbl) hj
      rw [e1, ← hu]
      simp [zs, hj]

end Go.Proofs.YtbfggmeppakcgaaGreat

/- A quiet call of a Go function as one step of a region that draws. No program in sight. -/
namespace Go.Proofs.YtbfggmeppakcgaaGreat
open Go.RowKit

section
variable {P : Program} (w : World)
theorem run_enter {o : Oper} {a : Act} {f : FuncId} {fn : Func} {args : Array Operand} {ats : Array TypeId} (ho : o.op = .call { callee := .value (.func f), args := args, argTypes := ats })
    (hf : P.funcs[f]? = some fn) (hn : (fn.name == "runtime.NumGoroutine") = false) (hb : fn.body.isNone = false) : (execOp a.eval o).run P w = .ok (.enter f (args.map a.eval)) w := by
  have h1 : ¬ fn.name = "runtime.NumGoroutine" := by simpa using hn
  have h2 : ¬ fn.body = none := by intro e; rw [e] at hb; cases hb
  unfold execOp
  simp [ho, resolve, Deferred.ofValue, invoke, callFunc, hf, h1, h2, Act.eval]
/-- A quiet call of a Go function as one step of a region that draws ('go_region_law'). -/
theorem step_callP {ops : Array Oper} {o : Oper} {a : Act} {K : Act → World → Prop} {Q : Exit → Act → World → Prop} {E : Prop} {α : Type} (g : α → Value) (p : α → Prop) (hgd : o.guard = none) {f : FuncId} {fn : Func} {args : Array Operand} {ats : Array TypeId} (vs : Array Value)
    (ho : o.op = .call { callee := .value (.func f), args := args, argTypes := ats }) (hf : P.funcs[f]? = some fn) (hn : (fn.name == "runtime.NumGoroutine") = false) (hb : fn.body.isNone = false)
    (hv : args.toList.map a.eval = vs.toList) (hc : Calls P f vs w fun e w' => (∃ m, e = .returned (g m) ∧ p m) ∧ w' = w) (h : ∀ m, p m → K (a.put o.dst (g m)) w) :
    if Region.wanted o (yielded ops a.tmps) = true then Oper.wp P o a w K Q else E := by
  have hv' : args.map a.eval = vs := by rw [← Array.toList_inj, Array.toList_map]; exact hv
  have hw : Region.wanted o (yielded ops a.tmps) = true := by simp [Region.wanted, hgd]
  rw [if_pos hw]
  unfold Oper.wp
  rw [run_enter w ho hf hn hb, Oper.upon_enter, hv']
  refine hc.mono fun e w'' hh => ?_
  obtain ⟨⟨m, rfl, hp⟩, rfl⟩ := hh
  exact h m hp
end

end Go.Proofs.YtbfggmeppakcgaaGreat

/- Contract: a visit of the search for groups. -/
namespace Go.Proofs.YtbfggmeppakcgaaGreat
open Go.RowKit

set_option maxRecDepth 10000 in
set_option maxHeartbeats 4000000 in
theorem g_visit (rb wb b n base : Nat) (hrb : wb < rb) (ts : List SlV) (w0 : World) (hts : ts.length = n) (hn : n ≤ 1000) (hT : TosI 30 3 base w0 b ts) (hwb : w0.heap.size ≤ wb) (hin : AllIn ts) : ∀ (c : Nat) (S : TS) (G : List Nat) (v : Nat) (sv lv : Value) (w : World),
    white n S = c → TInv (succOf ts) n S G → Counts n S → S.index v = 0 → v < n → (∀ g ∈ G, RS (succOf ts) g v) → Below w0.heap.size w0 w → rb ≤ w.heap.size →
    Mem 62 3 rb w wb (.slice (some ⟨b, 0, none⟩) n n) S sv lv →
    Calls Tryz.prog 24 #[.pointer (some ⟨wb, 0, none⟩), .int .i64 v] w fun e w' => e = .returned (.tuple #[]) ∧ But rb wb w w' ∧ ∃ S' sv' lv', Mem 62 3 rb w' wb (.slice (some ⟨b, 0, none⟩) n n) S' sv' lv' ∧ VPost (succOf ts) n G S S' v ∧ Counts n S' := by
  obtain ⟨i0, hi, hz0, hz1, hz2⟩ := info_parts int_info
  intro c
  induction c using Nat.strongRecOn with
  | _ c ih =>
    intro S G v sv lv w hc hI hC hv hvn hG hB hrs hM
    have hcl := hC.lt hv hvn
    have hv1 : v < 1000 := by omega
    have hv2 : (v : Int) < 1000 := by omega
    have hv0 : (0 : Int) ≤ (v : Int) := by omega
    have hwlt := hM.blk.lt
    have hcell := hM.blk.count_
    have hfree := hM.blk.free
    have hcnt : (S.count : Int) < 1000 := by omega
    have hcnt0 : (0 : Int) ≤ (S.count : Int) := by omega
    have W0 := hide hM.blk
    have ST := hide hM.st
    have LS := hide hM.ls
    have DS := hide hM.dis
    have HI := hide hI
    have HC := hide hC
    have Hv := hide hv
    have HG := hide hG
    have HB := hide hB
    have Hin := hide hin
    have HT := hide hT
    have Hc := hide hc
    have IH := hide ih
    clear hc hI hC hv hG hB hM hT hin ih
    dsimp only at hcell
    generalize hcc : S.count = cc at *
    have Hcc := hide hcc
    clear hcc
    go_enter Tryz.func24, Tryz.ntmps24
    go_wp2
    have W1 : Hid (Wk 62 (w.setCell ⟨wb, 1, none⟩ (.int .i64 ((cc : Int) + 1))) wb ⟨.slice (some ⟨b, 0, none⟩) n n, cc + 1, S.index, S.low, S.opn, sv, lv, S.group⟩) := hide (W0.out.setCount (cc + 1))
    have B1 : Hid (But rb wb w (w.setCell ⟨wb, 1, none⟩ (.int .i64 ((cc : Int) + 1)))) := hide (but_set _ _ _ _ _)
    have ST1 := hide (own_set (i := 1) (x := .int .i64 ((cc : Int) + 1)) ST.out hrb)
    have LS1 := hide (own_set (i := 1) (x := .int .i64 ((cc : Int) + 1)) LS.out hrb)
    generalize w.setCell ⟨wb, 1, none⟩ (.int .i64 ((cc : Int) + 1)) = w1 at *
    clear hfree ST LS W0
    have hcell1 := W1.out.count_
    have hfree1 := W1.out.free
    have hwlt1 := W1.out.lt
    have hi1 := W1.out.index_ hv1
    have hl1 := W1.out.low_ hv1
    dsimp only at hcell1 hi1 hl1
    clear hwlt
    go_region
    have W2 : Hid (Wk 62 ((w1.setCell ⟨wb, 2 + v, none⟩ (.int .i64 ((cc : Int) + 1))).setCell ⟨wb, 1002 + v, none⟩ (.int .i64 ((cc : Int) + 1))).drew wb ⟨.slice (some ⟨b, 0, none⟩) n n, cc + 1, upd S.index v (cc + 1), upd S.low v (cc + 1), S.opn, sv, lv, S.group⟩) := hide ((W1.out.setIndex hv1 (cc + 1)).setLow hv1 (cc + 1))
    have B2 : Hid (But rb wb w ((w1.setCell ⟨wb, 2 + v, none⟩ (.int .i64 ((cc : Int) + 1))).setCell ⟨wb, 1002 + v, none⟩ (.int .i64 ((cc : Int) + 1))).drew) := hide ((B1.out.trans (but_set _ _ _ _ _)).trans (but_set _ _ _ _ _)).drew
    have ST2 : Hid (((w1.setCell ⟨wb, 2 + v, none⟩ (.int .i64 ((cc : Int) + 1))).setCell ⟨wb, 1002 + v, none⟩ (.int .i64 ((cc : Int) + 1))).drew.ownsRow _ _ _ _ _ _) := hide (own_ext_drew (own_set (own_set ST1.out hrb) hrb))
    have LS2 : Hid (((w1.setCell ⟨wb, 2 + v, none⟩ (.int .i64 ((cc : Int) + 1))).setCell ⟨wb, 1002 + v, none⟩ (.int .i64 ((cc : Int) + 1))).drew.ownsRow _ _ _ _ _ _) := hide (own_ext_drew (own_set (own_set LS1.out hrb) hrb))
    generalize ((w1.setCell ⟨wb, 2 + v, none⟩ (.int .i64 ((cc : Int) + 1))).setCell ⟨wb, 1002 + v, none⟩ (.int .i64 ((cc : Int) + 1))).drew = w2 at *
    clear hfree1 hwlt1 hi1 hl1 hcell1 W1 B1 ST1 LS1
    have hfree2 := W2.out.free
    have ho2 := W2.out.opn_ hv1
    have W3 := hide (W2.out.setOpn hv1 true)
    have ST3 := hide (own_set (i := 2002 + v) (x := .bool true) ST2.out hrb)
    have LS3 := hide (own_set (i := 2002 + v) (x := .bool true) LS2.out hrb)
    have B3 : Hid (But rb wb w (w2.setCell ⟨wb, 2002 + v, none⟩ (.bool true))) := hide (B2.out.trans (but_set _ _ _ _ _))
    dsimp only at ho2
    have hs2 := W2.out.stack_
    dsimp only at hs2
    have hwlt2 := W2.out.lt
    have hsl : S.stack.length ≤ n := HI.out.stack_len
    have hzl : (zs S.stack).length ≤ 1000 := by rw [zs_len]; omega
    have hvn' : (v : Int) < (n : Int) := by omega
    have hbl := HT.out.lt
    have hbne : ¬ b = wb := by omega
    have hbne2 : ¬ wb = b := by omega
    have hvt : v < ts.length := by omega
    obtain ⟨A1, c1, he, hc1, hc2, hrow, hblk⟩ := Ints.own (HT.out.own v hvt)
    have Hcb := hide (HT.out.cell hvt)
    rw [he] at Hcb
    have Hrow := hide hrow
    have Hblk := hide hblk
    have Hs : Hid (succOf ts v = ((ts[v]'hvt).l).map Int.toNat) := hide (by unfold succOf; simp [hvt])
    have Hl := hide (Hin.out _ (List.getElem_mem hvt))
    clear he hrow hblk
    generalize (ts[v]'hvt).l = L at *
    go_wp2_with (at_builtin; refine wpList_append_row _ rfl _ _ 30 rfl rb 3 i0 _ 1 8 Tryz.underlying30 hi hz0 hz1 hz2 rfl (by decide) sv (zs S.stack).length ((zs S.stack).map (Value.int .i64)) rfl (ST3.out.alloc _) _ 1 1 [.int .i64 v] rfl ?c2 ?c3 ?c4 ?c5 ?c6 ?_)
    case c2 => exact Row.boxV _ (at_newB _ _ _ (by simp))
    case c3 => first | rfl | (intro y hy; simp at hy; subst hy; rfl)
    case c4 => unfold maxLen; omega
    case c5 => omega
    case c6 => have h9 := Nat.le_trans hrs B3.out.size; simp at h9; first | omega | (simp; omega)
    intro v4 w4 hown4 hg4 hat4
    have hkb : w4.heap[wb]? = (w2.setCell ⟨wb, 2002 + v, none⟩ (.bool true)).heap[wb]? :=
      (hg4.block wb (by first | omega | (simp; omega)) (fun e => by have := (ST3.out.lt _ e.symm).1; omega)).trans (Below.heap_alloc _ _ _ (by first | omega | (simp; omega)))
    have W4 := hide (W3.out.keep hkb)
    have ST4 : Hid (w4.ownsRow rb 3 1 v4 (zs (S.stack ++ [v])).length ((zs (S.stack ++ [v])).map (Value.int .i64))) := hide (by simpa [zs] using hown4)
    have LS4 := hide (kept2 (LS3.out.alloc (.cells #[.int .i64 v] 3)) hg4 DS.out)
    have DS4 : Hid (∀ k, v4.ownBlock = some k → lv.ownBlock ≠ some k) := hide (by
      intro k hk
      rcases hat4 with h | h
      · exact DS.out k (h ▸ hk)
      · intro hl
        have := (LS3.out.lt k hl).2
        rw [h] at hk
        injection hk with hk
        first | omega | (simp at hk this; omega))
    have B4 : Hid (But rb wb w w4) := hide ((B3.out.alloc (Nat.le_trans hrs B3.out.size) _).grown hg4 (Nat.le_trans (Nat.le_trans hrs B3.out.size) (Ext.size ((Ext.refl _).alloc _))) (fun k hk => (ST3.out.lt k hk).1))
    have hB0 : Below w0.heap.size w0 w4 := HB.out.trans (B4.out.below hwb hrb)
    have HB4 := hide hB0
    have hcb4 : w4.cell? ⟨b, v, none⟩ = some (.slice A1 L.length c1) := (hB0.cell (p := ⟨b, v, none⟩) hbl).trans Hcb.out
    obtain ⟨A4, c4, rfl, hc41, hc42, -, -⟩ := Ints.own ST4.out
    have hc4 := W4.out.to_
    have hs4 := W4.out.stack_
    have hf4 := W4.out.free
    have hw4 := W4.out.lt
    dsimp only at hc4 hs4
    clear hB0 hkb hown4 hg4 hat4 hs2 hfree2 hwlt2 ho2 W2 W3 ST2 ST3 LS2 LS3 B2 B3 DS
    have hLf : (zs S.stack).length + 1 = (zs (S.stack ++ [v])).length := by simp [zs]
    have M5 : Hid (Mem 62 3 rb (w4.setCell ⟨wb, 3002, none⟩ (.slice A4 (zs (S.stack ++ [v])).length c4)) wb (.slice (some ⟨b, 0, none⟩) n n) (S.start v) (.slice A4 (zs (S.stack ++ [v])).length c4) lv) := hide (by
      refine ⟨?_, own_set ST4.out hrb, own_set LS4.out hrb, DS4.out⟩
      have h1 := W4.out.setStack (.slice A4 (zs (S.stack ++ [v])).length c4)
      have h2 : upd S.opn v true = fun z => z == v || S.opn z := by
        funext z
        unfold upd
        by_cases e : z = v <;> simp [e]
      rw [h2, ← Hcc.out] at h1
      exact h1)
    have HB5 : Hid (But rb wb w (w4.setCell ⟨wb, 3002, none⟩ (.slice A4 (zs (S.stack ++ [v])).length c4))) := hide (B4.out.trans (but_set _ _ _ _ _))
    have Hfin : Hid ((L.map Int.toNat).take L.length = succOf ts v) := hide (by rw [Hs.out]; exact List.take_of_length_le (by simp))
    have HBw := hide (HB.out)
    clear hLf B4 HB4 W4 ST4 LS4 DS4 HB hc41 hc42 hzl hsl
    go_wp2
    go_loopw [57] (fun i wr => ∃ (k : Nat), k ≤ L.length ∧ i = .int .i64 k ∧ Hid (But rb wb w wr) ∧ Hid (∃ T svT lvT, Mem 62 3 rb wr wb (.slice (some ⟨b, 0, none⟩) n n) T svT lvT ∧ LInv (succOf ts) n G S T v ((L.map Int.toNat).take k) ∧ Counts n T)) (fun i _ => L.length - (intOf i).toNat)
    case atStart => exact ⟨0, Nat.zero_le _, rfl, HB5, hide ⟨_, _, _, M5.out, LInv.start HI.out Hv.out hvn HG.out, HC.out.start Hv.out hvn⟩⟩
    case round =>
      obtain ⟨k, hk, rfl, HBk, HM⟩ := hrel
      obtain ⟨T, svT, lvT, hM, hL, hC⟩ := HM.out
      clear HM hcb4 hc4 hs4 hf4 hw4 M5 HB5
      have HMT := hide hM
      have HL := hide hL
      have HCT := hide hC
      have hfr := hM.blk.free
      have hwr := hM.blk.lt
      have hB0 : Below w0.heap.size w0 wr := HBw.out.trans (HBk.out.below hwb hrb)
      by_cases hlt : k < L.length
      · have HR : Hid (Ints wr A1 L) := hide (Row.keep Hrow.out hB0.size (fun b o e hb => hB0.block b hb))
        have HB0 := hide hB0
        obtain ⟨b1, o1, rfl, hb1, q1⟩ := HR.out.at_ hlt
        have hlt' : (k : Int) < (L.length : Int) := by omega
        obtain ⟨hu0, hu1⟩ := Hl.out _ (List.getElem_mem hlt)
        obtain ⟨u, hu⟩ := Int.eq_ofNat_of_zero_le hu0
        have Htk : Hid ((L.map Int.toNat).take (k + 1) = (L.map Int.toNat).take k ++ [u]) := hide (by
          rw [List.take_succ_eq_append_getElem (by simpa using hlt)]
          simp [hu])
        have Hmem : Hid (u ∈ succOf ts v) := hide (by
          rw [Hs.out, List.mem_map]
          exact ⟨_, List.getElem_mem hlt, by rw [hu]; simp⟩)
        rw [hu] at q1 hu1
        have huN : u < n := by omega
        have huN1 : u < 1000 := by omega
        have hu2 : (u : Int) < 1000 := by omega
        have hu3 : (0 : Int) ≤ (u : Int) := by omega
        have hci := hM.blk.index_ huN1
        have hcl := hM.blk.low_ hv1
        have hco := hM.blk.opn_ huN1
        dsimp only at hci hcl hco
        clear hu hu0 hu1 hM hL hC hB0
        by_cases hTu : T.index u = 0
        · rw [hTu] at hci
          simp only [Int.natCast_zero] at hci
          have Hcall := hide (IH.out (white n T) (by
            have h1 := white_start Hv.out hvn
            have h2 := Hc.out
            have h3 : white n T ≤ white n (S.start v) := white_mono (by
              intro x hx
              by_cases e : x = v
              · subst e; have := HL.out.idx; omega
              · have h4 : 0 < S.index x := by simpa [TS.start, e] using hx
                have := (HL.out.keep x h4).1
                omega)
            omega) T (v :: G) u svT lvT wr rfl HL.out.inv HCT.out hTu huN (by
              intro g hg
              rcases List.mem_cons.1 hg with e | hg
              · subst e; exact RS.edge Hmem.out
              · exact (HG.out g hg).trans (RS.edge Hmem.out)) HB0.out (Nat.le_trans hrs HBk.out.size) HMT.out)
          have HTu := hide hTu
          clear hTu
          go_wp2_with fail
          refine Hcall.out.mono ?_
          rintro e w3 ⟨rfl, hb3, T3, sv3, lv3, hM3, hP3, hC3⟩
          have HM3 := hide hM3
          have HL3 := hide (HL.out.white Hmem.out HTu.out hP3 HI.out)
          have HC3 := hide hC3
          have HB3 := hide (HBk.out.trans hb3)
          have hl3 := hM3.blk.low_ hv1
          have hm3 := hM3.blk.low_ huN1
          have hf3 := hM3.blk.free
          have hw3 := hM3.blk.lt
          dsimp only at hl3 hm3
          clear hb3 hM3 hP3 hC3 HL HCT HMT HBk hfr hwr hci hcl hco q1 Hcall
          generalize hlv : T3.low v = l1 at *
          generalize hlu : T3.low u = l2 at *
          clear hlv hlu
          go_wp2
          go_region
          have M6 := hide (HM3.out.low hrb hv1 l1 l2)
          have HB6 : Hid (But rb wb w (w3.setCell ⟨wb, 1002 + v, none⟩ (.int .i64 (if l2 < l1 then (l2 : Int) else (l1 : Int)))).drew) := hide (HB3.out.trans (but_set _ _ _ _ _)).drew
          have hmn : (if l2 < l1 then (l2 : Int) else (l1 : Int)) = min (l1 : Int) (l2 : Int) := by rw [Int.min_def]; split <;> split <;> omega
          rw [hmn] at M6 HB6
          try rw [hmn]
          clear hmn
          generalize (w3.setCell ⟨wb, 1002 + v, none⟩ (.int .i64 (min (l1 : Int) (l2 : Int)))).drew = w6 at *
          clear HM3 hl3 hm3 hf3 hw3 HB3
          go_wp2
          go_roundw
          case rel => exact ⟨k + 1, hlt, by go_num, HB6, hide ⟨_, _, _, M6.out, by rw [Htk.out]; exact HL3.out, HC3.out.setLow⟩⟩
          case measure => simp [intOf]; omega
        · have hTu0 : ¬ (T.index u : Int) = 0 := by omega
          have HTp : Hid (0 < T.index u) := hide (by omega)
          clear hTu
          cases hop : T.opn u
          · rw [hop] at hco
            have HL3 := hide (HL.out.seen HTp.out hop)
            clear hop HL
            go_wp2
            go_roundw
            case rel => exact ⟨k + 1, hlt, by go_num, HBk, hide ⟨T, svT, lvT, HMT.out, by rw [Htk.out]; exact HL3.out, HCT.out⟩⟩
            case measure => simp [intOf]; omega
          · rw [hop] at hco
            have HL3 := hide (HL.out.open Hmem.out hop HI.out)
            clear hop HL
            generalize hlv : T.low v = l1 at *
            generalize hlu : T.index u = l2 at *
            clear hlv hlu
            go_wp2
            go_region
            have M6 := hide (HMT.out.low hrb hv1 l1 l2)
            have HB6 : Hid (But rb wb w (wr.setCell ⟨wb, 1002 + v, none⟩ (.int .i64 (if l2 < l1 then (l2 : Int) else (l1 : Int)))).drew) := hide (HBk.out.trans (but_set _ _ _ _ _)).drew
            have hmn : (if l2 < l1 then (l2 : Int) else (l1 : Int)) = min (l1 : Int) (l2 : Int) := by rw [Int.min_def]; split <;> split <;> omega
            rw [hmn] at M6 HB6
            try rw [hmn]
            clear hmn
            generalize (wr.setCell ⟨wb, 1002 + v, none⟩ (.int .i64 (min (l1 : Int) (l2 : Int)))).drew = w6 at *
            clear HMT hci hcl hco hfr hwr HBk
            go_wp2
            go_roundw
            case rel => exact ⟨k + 1, hlt, by go_num, HB6, hide ⟨_, _, _, M6.out, by rw [Htk.out]; exact HL3.out, HCT.out.setLow⟩⟩
            case measure => simp [intOf]; omega
      · have hge : (L.length : Int) ≤ (k : Int) := by omega
        have hkl : k = L.length := by omega
        rw [hkl, Hfin.out] at HL
        clear hkl hL hM hC
        have hil := HMT.out.blk.low_ hv1
        have hii := HMT.out.blk.index_ hv1
        dsimp only at hil hii
        have HBr : Hid (But rb wb w wr.drew) := hide HBk.out.drew
        by_cases hlow : T.low v < T.index v
        · have HP := hide (HL.out.stay (fun _ h => h) hlow)
          generalize T.low v = l1 at *
          generalize T.index v = l2 at *
          have hlow' : (l1 : Int) < (l2 : Int) := by omega
          go_wp2
          go_region
          go_wp2
          ((try simp only [Exit.inBlock, Exit.then]); refine bodyPost_ret (results_none rfl _ _ _) rfl ?_)
          exact ⟨rfl, HBr.out, T, svT, lvT, ⟨HMT.out.blk, HMT.out.st, HMT.out.ls, HMT.out.dis⟩, HP.out, HCT.out⟩
        · have HL2 := hide hlow
          obtain ⟨s, hst, -⟩ := HL.out.stk
          have Hst := hide hst
          obtain ⟨he1, he2⟩ := HL.out.inv.idx hst
          have hsn : T.stack.length ≤ n := HL.out.inv.stack_len
          have HMd : Hid (Mem 62 3 rb wr.drew wb (.slice (some ⟨b, 0, none⟩) n n) T svT lvT) := hide ⟨HMT.out.blk, HMT.out.st, HMT.out.ls, HMT.out.dis⟩
          have HV0 : Hid (∀ q', q' ∈ v :: s → (∀ x ∈ v :: s, q' ≤ x) → VPost (succOf ts) n G S (T.pop S.stack (v :: s) q') v) := hide (fun q' h1 h2 => HL.out.pop (fun _ h => h) hlow HI.out Hst.out h1 h2)
          generalize hlv : T.low v = l1 at *
          generalize hlu : T.index v = l2 at *
          clear hlv hlu
          have hlow' : ¬ (l1 : Int) < (l2 : Int) := by omega
          clear hst he1 he2
          go_wp2
          go_region
          generalize wr.drew = w7 at *
          clear HMT HBk hfr hwr hil hii hB0
          obtain ⟨AT, cT, rfl, hT1, hT2, hTr, hTb⟩ := Ints.own HMd.out.st
          have hlen : (zs T.stack).length = S.stack.length + (s.length + 1) := by rw [zs_len, Hst.out]; simp
          have Hix := hide (index_i AT cT (zs T.stack) v w7 hTr (by omega))
          have hidx : idxI (zs T.stack) (v : Int) = (S.stack.length : Nat) := by
            refine idxI_at (d := 0) _ _ (by rw [zs_len, Hst.out]; simp) (fun j hj => ?_) ?_
            · have h1 : v ∉ S.stack := (HL.out.inv.idx Hst.out).2
              rw [Hst.out]
              unfold zs
              rw [List.getD_eq_getElem?_getD, List.getElem?_map, List.getElem?_append_left hj, List.getElem?_eq_getElem hj]
              simp only [Option.map_some, Option.getD_some, beq_eq_false_iff_ne]
              intro e
              have : S.stack[j]'hj = v := by have e2 : ((S.stack[j]'hj : Nat) : Int) = (v : Int) := e; omega
              exact h1 (this ▸ List.getElem_mem hj)
            · rw [Hst.out]
              unfold zs
              simp
          rw [hidx] at Hix
          have hs7 := HMd.out.blk.stack_
          have hf7 := HMd.out.blk.free
          have hw7 := HMd.out.blk.lt
          obtain ⟨bT, oT, hAT, hbT, q0⟩ := hTr.at_ (i := 0) (by omega)
          clear q0
          subst hAT
          have Hcut : Hid (Ints w7 (if cT = S.stack.length then some ⟨bT, oT, none⟩ else (some ⟨bT, oT, none⟩ : Option Addr).map (·.add (S.stack.length * 1))) (zs (v :: s))) := hide (by
            have := RowOf.cut intC hTr (k := S.stack.length) (by omega) hT1
            have e : (zs T.stack).drop S.stack.length = zs (v :: s) := by
              rw [Hst.out]; unfold zs; rw [List.map_append, List.drop_left' (by simp)]
            rwa [e] at this)
          have hne : ¬ cT = S.stack.length := by omega
          have HTb := hide (hTb bT oT rfl)
          dsimp only at hs7
          have hTs : (zs T.stack).length ≤ cT := hT1
          clear hidx
          clear hTr hTb
          have hat1 : S.stack.length < (zs T.stack).length := by omega
          have hat8 : S.stack.length ≤ (zs T.stack).length := by omega
          have hat3 : (zs T.stack).length ≤ 1000 := by rw [zs_len]; omega
          have Hlen := hide hlen
          clear hlen
          have HaS : Hid (S.stack.length = S.stack.length) := hide rfl
          generalize hat : S.stack.length = at_ at *
          generalize hnT : (zs T.stack).length = nT at *
          have Hat := hide hat
          have HnT := hide hnT
          clear hat hnT HaS
          have hat2 : (at_ : Int) < (nT : Int) := by omega
          have hat4 : (nT : Int) ≤ (cT : Int) := by omega
          have hat5 : (0 : Int) ≤ (at_ : Int) := by omega
          obtain ⟨AL, cL, rfl, hL1, hL2, -, -⟩ := Ints.own HMd.out.ls
          have HP : Hid (Ints w7 (some ⟨bT, oT + at_, none⟩) (zs (v :: s))) := hide (by
            have := Hcut.out
            rw [if_neg hne] at this
            simp only [Option.map_some, Nat.mul_one, Addr.add] at this
            split at this
            · rename_i h0; subst h0; exact this
            · exact this)
          have HpL : Hid ((zs (v :: s)).length = nT - at_) := hide (by have h1 := Hlen.out; have h2 : (zs (v :: s)).length = s.length + 1 := zs_len _; omega)
          have Hpn : Hid (∀ x ∈ v :: s, x < n) := hide (fun x hx => HL.out.inv.bound x (HL.out.inv.vis x (by rw [Hst.out]; exact List.mem_append_right _ hx)))
          have HMk : Hid (Mem 62 3 rb w7 wb (.slice (some ⟨b, 0, none⟩) n n) (T.mark []) (.slice (some ⟨bT, oT, none⟩) nT cT) (.slice AL (zs T.least).length cL)) := hide (by
            rw [TS.mark_nil, ← HnT.out]
            have := HMd.out
            rw [← HnT.out] at this
            exact this)
          have hm0 : at_ + (nT - at_) = nT := by omega
          have Hm0 := hide hm0
          clear hm0 Hcut
          have HMd2 := hide HMd.out
          clear HMd
          generalize hnp : nT - at_ = m at *
          have Hnp := hide hnp
          have HmL := hide HpL.out
          clear HpL
          go_wp2_with fail
          refine Hix.out.mono ?_
          rintro e w8 ⟨rfl, rfl⟩
          go_wp2
          go_loopw [140] (fun i wr => ∃ (k : Nat), k ≤ m ∧ i = .int .i64 k ∧ Hid (But rb wb w wr) ∧ Hid (Mem 62 3 rb wr wb (.slice (some ⟨b, 0, none⟩) n n) (T.mark ((v :: s).take k)) (.slice (some ⟨bT, oT, none⟩) nT cT) (.slice AL (zs T.least).length cL)) ∧ Hid (Ints wr (some ⟨bT, oT + at_, none⟩) (zs (v :: s)))) (fun i _ => m - (intOf i).toNat)
          case atStart => exact ⟨0, Nat.zero_le _, rfl, HBr, HMk, HP⟩
          case round =>
            obtain ⟨k2, hk2, rfl, HB2, HM2, HP2⟩ := hrel
            clear hs7 hf7 hw7 HMk HP HBr
            by_cases hlt2 : k2 < m
            · have hlz : k2 < (zs (v :: s)).length := by rw [HmL.out]; exact hlt2
              have hls : k2 < (v :: s).length := by rw [zs_len] at hlz; exact hlz
              obtain ⟨b9, o9, e9, hb9, q9⟩ := HP2.out.at_ hlz
              obtain ⟨e3, e4⟩ : b9 = bT ∧ o9 = oT + at_ := by injection e9 with e9; injection e9 with e3 e4; exact ⟨e3.symm, e4.symm⟩
              rw [e3, e4] at q9
              rw [e3] at hb9
              clear e9 e3 e4
              have hx9 : (zs (v :: s))[k2]'hlz = (((v :: s)[k2]'hls : Nat) : Int) := zs_get _ hlz hls
              rw [hx9] at q9
              have Htk2 : Hid ((v :: s).take (k2 + 1) = (v :: s).take k2 ++ [(v :: s)[k2]'hls]) := hide (List.take_succ_eq_append_getElem hls)
              have hxn : (v :: s)[k2]'hls < n := Hpn.out _ (List.getElem_mem hls)
              clear hx9
              generalize (v :: s)[k2]'hls = x at *
              have hx1 : x < 1000 := by omega
              have hx2 : (x : Int) < 1000 := by omega
              have hx3 : (0 : Int) ≤ (x : Int) := by omega
              have hlt2' : (k2 : Int) < (m : Int) := by omega
              have ho2 := HM2.out.blk.opn_ hx1
              have hf2 := HM2.out.blk.free
              have hw2 := HM2.out.blk.lt
              dsimp only at ho2
              generalize (T.mark (List.take k2 (v :: s))).opn x = ob at ho2
              have W8 := hide (HM2.out.opn1 hx1)
              have S8 := hide (own_set (i := 2002 + x) (x := .bool false) HM2.out.st hrb)
              have L8 := hide (own_set (i := 2002 + x) (x := .bool false) HM2.out.ls hrb)
              have D8 := hide HM2.out.dis
              have P8 : Hid (Ints (wr.setCell ⟨wb, 2002 + x, none⟩ (.bool false)) (some ⟨bT, oT + at_, none⟩) (zs (v :: s))) := hide (HP2.out.set (by intro c o e; injection e with e; injection e with e _; have := HTb.out.1; omega))
              have B8 : Hid (But rb wb w (wr.setCell ⟨wb, 2002 + x, none⟩ (.bool false))) := hide (HB2.out.trans (but_set _ _ _ _ _))
              go_wp2
              generalize wr.setCell ⟨wb, 2002 + x, none⟩ (.bool false) = w9 at *
              have hl9 := W8.out.least_
              have hg9 := W8.out.group_ hx1
              have hf9 := W8.out.free
              have hw9 := W8.out.lt
              dsimp only at hl9 hg9
              generalize (T.mark (List.take k2 (v :: s))).group x = gx at hg9
              clear HM2 HB2 ho2 hf2 hw2 q9 hb9
              go_region
              have M9 := hide (Mem.grp1 hrb hx1 W8.out S8.out L8.out D8.out)
              have P9 : Hid (Ints (w9.setCell ⟨wb, 3004 + x, none⟩ (.int .i64 (((zs T.least).length : Nat) : Int))).drew (some ⟨bT, oT + at_, none⟩) (zs (v :: s))) := hide (P8.out.set (by intro c o e; injection e with e; injection e with e _; have := HTb.out.1; omega))
              have B9 : Hid (But rb wb w (w9.setCell ⟨wb, 3004 + x, none⟩ (.int .i64 (((zs T.least).length : Nat) : Int))).drew) := hide (B8.out.trans (but_set _ _ _ _ _)).drew
              rw [← Htk2.out] at M9
              generalize (w9.setCell ⟨wb, 3004 + x, none⟩ (.int .i64 (((zs T.least).length : Nat) : Int))).drew = w10 at *
              clear W8 S8 L8 D8 P8 B8 hl9 hg9 hf9 hw9
              go_wp2
              go_roundw
              case rel => exact ⟨k2 + 1, hlt2, by go_num, B9, M9, P9⟩
              case measure => simp [intOf]; omega
            · have hge2 : (m : Int) ≤ (k2 : Int) := by omega
              have hkm : k2 = m := by omega
              have Hall : Hid ((v :: s).take k2 = v :: s) := hide (List.take_of_length_le (by have := HmL.out; rw [zs_len] at this; omega))
              rw [Hall.out] at HM2
              clear hkm
              have hs2 := HM2.out.blk.stack_
              have hl2 := HM2.out.blk.least_
              have hf2 := HM2.out.blk.free
              have hw2 := HM2.out.blk.lt
              dsimp only at hs2 hl2
              have Hmn : Hid (∀ w', Ext wr w' → Hid (Calls Tryz.prog 33 #[.slice (some ⟨bT, oT + at_, none⟩) m (cT - at_)] w' fun e w'' => (∃ q, e = .returned (.int .i64 q) ∧ q ∈ zs (v :: s) ∧ ∀ x ∈ zs (v :: s), q ≤ x) ∧ w'' = w')) := hide (by
                intro w' e
                have := min_i (some ⟨bT, oT + at_, none⟩) (cT - at_) (zs (v :: s)) w' (RowOf.ext intC HP2.out e) (by rw [zs_len]; simp) (by rw [HmL.out]; have := Hm0.out; omega)
                rw [HmL.out] at this
                exact this)
              have hmn1 : (Tryz.f33.name == "runtime.NumGoroutine") = false := by kernel_rfl
              have hmn2 : Tryz.f33.body.isNone = false := rfl
              have LS2 : Hid (wr.ownsRow rb 3 1 (.slice AL (zs T.least).length cL) (zs T.least).length ((zs T.least).map (Value.int .i64))) := hide HM2.out.ls
              have hLn : (zs T.least).length ≤ 1000 := by rw [zs_len]; have := HL.out.inv.least_len; omega
              have hrw : rb ≤ wr.heap.size := Nat.le_trans hrs HB2.out.size
              have hmx : (zs T.least).length + 1 ≤ maxLen := by unfold maxLen; omega
              clear Hix hc1 hc2 Hblk Hcb Hrow Hs Hl Hfin hlow hlow' IH hcl hcnt hcnt0 hvn' hbl hbne hbne2 hvt hk hlt hge hsn hcell
              go_wp2
              go_region_law (first
                | (refine step_callP _ (fun q : Int => .int .i64 q) (fun q => q ∈ zs (v :: s) ∧ ∀ x ∈ zs (v :: s), q ≤ x) rfl #[.slice (some ⟨bT, oT + at_, none⟩) m (cT - at_)] rfl Tryz.func33 hmn1 hmn2 rfl (Hmn.out _ (Ext.drew (Ext.refl _))).out ?_
                   rintro q ⟨hq1, hq2⟩
                   have HQ1 := hide hq1
                   have HQ2 := hide hq2
                   clear hq1 hq2)
                | (refine step_append_rowB _ rfl (.tmp 164) (.tmp 172) 30 rfl rb 3 i0 _ 1 8 Tryz.underlying30 hi hz0 hz1 hz2 rfl (by decide) (.slice AL (zs T.least).length cL) (zs T.least).length ((zs T.least).map (Value.int .i64)) rfl (own_extB LS2.out ((Ext.refl wr).drew.alloc _)) (some ⟨_, 0, none⟩) 1 1 [.int .i64 q] rfl (Row.boxV _ (at_newB _ _ _ rfl)) (one_ints [q]) hmx (by omega) (Nat.le_trans hrw (Ext.size ((Ext.refl wr).drew.alloc _))) ?_
                   intro v3 w4 hown3 hg3 hat3
                   have hk4 : w4.heap[wb]? = wr.heap[wb]? := (hg3.block wb (Nat.lt_of_lt_of_le hw2 (Ext.size ((Ext.refl wr).drew.alloc _))) (fun e => by have := (LS2.out.lt _ e.symm).1; omega)).trans (Below.heap_alloc _ _ _ hw2)
                   have W4 := hide (HM2.out.blk.keep hk4)
                   have ST4 := hide (kept2 (own_extB HM2.out.st ((Ext.refl wr).drew.alloc _)) hg3 (fun k hk => fun h => HM2.out.dis k h hk))
                   have B4 : Hid (But rb wb w w4) := hide ((HB2.out.drew.alloc hrw _).grown hg3 (Nat.le_trans hrw (Ext.size ((Ext.refl wr).drew.alloc _))) (fun k hk => (LS2.out.lt k hk).1))
                   have D4 : Hid (∀ k, (Value.slice (some ⟨bT, oT, none⟩) nT cT).ownBlock = some k → v3.ownBlock ≠ some k) := hide (by
                     intro k hk h3
                     rcases hat3 with h | h
                     · exact HM2.out.dis k hk (h ▸ h3)
                     · rw [h] at h3
                       injection h3 with h3
                       have h4 := (HM2.out.st.lt k hk).2
                       have h5 : wr.heap.size ≤ k := h3 ▸ Ext.size ((Ext.refl wr).drew.alloc _)
                       omega)
                   obtain ⟨A3, c3, hv3, g1, g2, -, -⟩ := Ints.own (l := zs T.least ++ [q]) (by simpa using hown3)
                   rw [List.length_append, List.length_singleton] at hv3
                   subst hv3
                   have O4 := hide hown3
                   have hd1 := W4.out.least_
                   have hd2 := W4.out.stack_
                   have hd3 := W4.out.free
                   have hd4 := W4.out.lt
                   dsimp only at hd1 hd2
                   clear hk4 hown3 hg3 hat3 g1 g2))
              all_goals
                have hq0 : Hid (∃ q' : Nat, q = (q' : Int) ∧ q' ∈ v :: s ∧ ∀ x ∈ v :: s, q' ≤ x) := hide (by
                  have h1 := HQ1.out
                  unfold zs at h1
                  obtain ⟨q', h2, h3⟩ := List.mem_map.1 h1
                  refine ⟨q', h3.symm, h2, fun x hx => ?_⟩
                  have h4 := HQ2.out (Int.ofNat x) (by unfold zs; exact List.mem_map_of_mem hx)
                  rw [← h3] at h4
                  exact Int.ofNat_le.1 h4)
                obtain ⟨q', rfl, hq1, hq2⟩ := hq0.out
                have HV := hide (HV0.out q' hq1 hq2)
                have M11 : Hid (Mem 62 3 rb ((w4.setCell ⟨wb, 3003, none⟩ (.slice A3 ((zs T.least).length + 1) c3)).setCell ⟨wb, 3002, none⟩ (.slice (some ⟨bT, oT, none⟩) at_ cT)) wb (.slice (some ⟨b, 0, none⟩) n n) (T.pop S.stack (v :: s) q') (.slice (some ⟨bT, oT, none⟩) at_ cT) (.slice A3 ((zs T.least).length + 1) c3)) := hide (by
                  have e1 : (zs (T.mark (v :: s)).stack).length = nT := HnT.out
                  have e2 : (((zs (T.mark (v :: s)).stack).map (Value.int .i64)).take at_) = (zs S.stack).map (Value.int .i64) := by
                    show ((zs T.stack).map (Value.int .i64)).take at_ = _
                    rw [Hst.out]
                    unfold zs
                    rw [List.map_append, List.map_append, List.take_left' (by simpa using Hat.out)]
                  refine ⟨(W4.out.setLeast _).setStack _, ?_, ?_, ?_⟩
                  · have h1 := ST4.out
                    rw [e1] at h1
                    have h2 := own_cut h1 (k := at_) (by have := Hm0.out; omega)
                    rw [e2] at h2
                    show World.ownsRow _ _ _ _ _ (zs S.stack).length _
                    rw [show (zs S.stack).length = at_ from (zs_len _).trans Hat.out]
                    exact own_set (own_set h2 hrb) hrb
                  · have h1 := O4.out
                    show World.ownsRow _ _ _ _ _ (zs (T.least ++ [q'])).length ((zs (T.least ++ [q'])).map (Value.int .i64))
                    have e3 : (zs (T.least ++ [q'])).length = (zs T.least).length + 1 := by simp [zs]
                    have e4 : (zs (T.least ++ [q'])).map (Value.int .i64) = (zs T.least).map (Value.int .i64) ++ [.int .i64 (q' : Int)] := by simp [zs]
                    rw [e3, e4]
                    exact own_set (own_set h1 hrb) hrb
                  · intro k hk
                    exact D4.out k hk)
                have B11 : Hid (But rb wb w ((w4.setCell ⟨wb, 3003, none⟩ (.slice A3 ((zs T.least).length + 1) c3)).setCell ⟨wb, 3002, none⟩ (.slice (some ⟨bT, oT, none⟩) at_ cT))) := hide ((B4.out.trans (but_set _ _ _ _ _)).trans (but_set _ _ _ _ _))
                have hat6 : at_ ≤ cT := by have := Hm0.out; omega
                have hat7 : (at_ : Int) ≤ (cT : Int) := by omega
                clear hq1 hq2
                go_wp2
                go_end0
                exact ⟨rfl, B11.out, _, _, _, M11.out, HV.out, HCT.out.pop⟩

end Go.Proofs.YtbfggmeppakcgaaGreat

/- A region that draws its order, of which the last operation alone turns what the others read. No program in sight. -/
namespace Go.Proofs.YtbfggmeppakcgaaGreat
open Go.RowKit

section
variable {P : Program} {md : Region.Mode} {ops : Array Oper} {Q : Exit → Act → World → Prop} {S : World → Prop} {last : Nat}
/-- Whatever order is picked from here on, and S holds behind every operation but the one numbered `last`. -/
def anyBut (P : Program) (md : Region.Mode) (ops : Array Oper) (Q : Exit → Act → World → Prop) (S : World → Prop) (last : Nat) : Nat → Array Bool → Act → World → Prop
  | 0, listed, a, w => Region.ready md ops listed = [] ∧ Q .normal a w
  | fuel + 1, listed, a, w =>
    (Region.ready md ops listed = [] → Q .normal a w) ∧
    ∀ i ∈ Region.ready md ops listed, wpOp P ops Q i (fun a' w' => (i ≠ last → S w') ∧ anyBut P md ops Q S last fuel (listed.setIfInBounds i true) a' w') a w
theorem any_of_but : ∀ (fuel : Nat) (listed : Array Bool) (a : Act) (w : World), anyBut P md ops Q S last fuel listed a w → wpAny P md ops Q fuel listed a w
  | 0, _, _, _, h => h
  | fuel + 1, _, _, _, h => ⟨h.1, fun i hi => wpOp_mono (fun _ _ h' => any_of_but fuel _ _ _ h'.2) (h.2 i hi)⟩
/-- The last one waits for number `i`. -/
def waitsFor (md : Region.Mode) (ops : Array Oper) (last i : Nat) : Bool := match ops[last]? with | some o => o.after.any fun e => Region.binds md e && e.on == i | none => true
theorem waitsFor_spec {i : Nat} {o : Oper} (h : waitsFor md ops last i = true) (ho : ops[last]? = some o) : ∃ e ∈ o.after, Region.binds md e = true ∧ e.on = i := by
  unfold waitsFor at h
  rw [ho] at h
  obtain ⟨k, hk, h2⟩ := Array.any_eq_true.1 h
  simp only [Bool.and_eq_true, beq_iff_eq] at h2
  exact ⟨_, Array.getElem_mem hk, h2⟩
theorem but_first {i : Nat} {oi : Oper} {v : Value} (hi : ops[i]? = some oi) (hsel : ∀ (j : Nat) (o : Oper) cs b, ops[j]? = some o → o.op ≠ .select cs b)
    (hQ : ∀ c a w, Q (.panic c) (a.put oi.dst v) w → Q (.panic c) a w) (hl : waitsFor md ops last i = true) :
    ∀ (fuel : Nat) (listed : Array Bool) (a : Act) (w : World),
      (∀ j oj, ops[j]? = some oj → j ≠ i → listed.getD j true = false → (∀ e ∈ oj.after, Region.binds md e = true → e.on ≠ i) → oi.apart ops oj = true) →
      i ∈ Region.ready md ops listed → YieldsIf P ops S oi v a → S w →
      anyBut P md ops Q S last fuel (listed.setIfInBounds i true) (a.put oi.dst v) w → anyBut P md ops Q S last (fuel + 1) listed a w := by
  intro fuel
  induction fuel with
  | zero =>
    intro listed a w _ hr hy hS H
    refine ⟨fun h => (by rw [h] at hr; cases hr), fun j hj => ?_⟩
    by_cases hji : j = i
    · subst hji; exact hy.wpOp hi hS ⟨fun _ => hS, H⟩
    · have := ready_mono hj hji
      rw [H.1] at this
      cases this
  | succ fuel ih =>
    intro listed a w hfree hr hy hS H
    refine ⟨fun h => (by rw [h] at hr; cases hr), fun j hj => ?_⟩
    by_cases hji : j = i
    · subst hji; exact hy.wpOp hi hS ⟨fun _ => hS, H⟩
    · have h1 := H.2 j (ready_mono hj hji)
      obtain ⟨hjun, oj, hoj, hall⟩ := mem_ready.1 hj
      have hnot : ∀ e ∈ oj.after, Region.binds md e = true → e.on ≠ i := fun e he hb heq => by
        have h1 := hall e he hb
        have h0 := (mem_ready.1 hr).1
        rw [heq] at h1
        rcases Nat.lt_or_ge i listed.size with h' | h'
        · simp [h'] at h0 h1; rw [h0] at h1; cases h1
        · simp [Array.getElem?_eq_none h'] at h1
      have hjl : j ≠ last := fun e => by
        subst e
        obtain ⟨e, he, hb, ho⟩ := waitsFor_spec hl hoj
        exact hnot e he hb ho
      have h2 := wpOp_putIf hoj (hfree j oj hoj hji hjun hnot) (fun cs b => hsel i oi cs b hi) (fun cs b => hsel j oj cs b hoj) hQ hy h1
      have hfree' : ∀ k ok, ops[k]? = some ok → k ≠ i → (listed.setIfInBounds j true).getD k true = false →
          (∀ e ∈ ok.after, Region.binds md e = true → e.on ≠ i) → oi.apart ops ok = true := fun k ok hk hki hun hno => by
        refine hfree k ok hk hki ?_ hno
        by_cases hjk : j = k
        · subst hjk; exact hjun
        · rw [getD_set_ne true hjk] at hun; exact hun
      refine wpOp_mono (fun a' w' h3 => ⟨h3.2.1, ih (listed.setIfInBounds j true) a' w' hfree' (ready_mono hr (Ne.symm hji)) h3.1 (h3.2.1 hjl) ?_⟩) h2
      rw [Array.setIfInBounds_comm _ _ hji]
      exact h3.2.2
theorem but_take {i : Nat} {oi : Oper} {v : Value} {fuel : Nat} {listed : Array Bool} {a : Act} {w : World} (hi : ops[i]? = some oi)
    (hs : Region.noSelect ops = true) (hf : Region.free md ops listed i = true) (hr : (Region.ready md ops listed).contains i = true) (hl : waitsFor md ops last i = true)
    (hQ : ∀ c a w, Q (.panic c) (a.put oi.dst v) w → Q (.panic c) a w) (hy : YieldsIf P ops S oi v a) (hS : S w)
    (h : anyBut P md ops Q S last fuel (listed.setIfInBounds i true) (a.put oi.dst v) w) : anyBut P md ops Q S last (fuel + 1) listed a w :=
  but_first hi (Region.noSelect_spec hs) hQ hl fuel listed a w (Region.free_spec hi hf) (by simpa using hr) hy hS h
theorem drop_get {i : Nat} {o : Oper} {rest : List Oper} (h : ops.toList.drop i = o :: rest) : ops[i]? = some o := by
  have h1 := congrArg (fun l => l[0]?) h
  simpa using h1
/-- The same, the operation written out. -/
theorem but_takeL {i : Nat} {oi : Oper} {rest : List Oper} {v : Value} {fuel : Nat} {listed : Array Bool} {a : Act} {w : World} (hi : ops.toList.drop i = oi :: rest)
    (hs : Region.noSelect ops = true) (hf : Region.free md ops listed i = true) (hr : (Region.ready md ops listed).contains i = true) (hl : waitsFor md ops last i = true)
    (hQ : ∀ c a w, Q (.panic c) (a.put oi.dst v) w → Q (.panic c) a w) (hy : YieldsIf P ops S oi v a) (hS : S w)
    (h : anyBut P md ops Q S last fuel (listed.setIfInBounds i true) (a.put oi.dst v) w) : anyBut P md ops Q S last (fuel + 1) listed a w :=
  but_take (drop_get hi) hs hf hr hl hQ hy hS h
theorem but_step {i : Nat} {o : Oper} {fuel : Nat} {listed : Array Bool} {a : Act} {w : World} (hr : Region.ready md ops listed = [i]) (ho : ops[i]? = some o)
    (h : ∀ K' : Act → World → Prop, Shut (∀ a w, (i ≠ last → S w) → anyBut P md ops Q S last fuel (listed.setIfInBounds i true) a w → K' a w) → if Region.wanted o (yielded ops a.tmps) = true then Oper.wp P o a w K' Q else K' (a.put o.dst undef) w) :
    anyBut P md ops Q S last (fuel + 1) listed a w := by
  refine ⟨fun h0 => (by rw [hr] at h0; cases h0), fun j hj => ?_⟩
  rw [hr] at hj
  have : j = i := by simpa using hj
  subst this
  exact wpOp_step ho (fun K' hK => h K' (fun a w hS hW => hK a w ⟨hS, hW⟩))
theorem but_done {listed : Array Bool} {a : Act} {w : World} (hr : Region.ready md ops listed = []) (h : Q .normal a w) : ∀ fuel, anyBut P md ops Q S last fuel listed a w
  | 0 => ⟨hr, h⟩
  | _ + 1 => ⟨fun _ => h, by rw [hr]; simp⟩
theorem but_start {id : Nat} {a : Act} {w : World} (last : Nat) (S : World → Prop) (hm : P.follows .mixedOrders = true)
    (h : anyBut P .any ops Q S last ops.size (Array.replicate ops.size false) a w.drew) : (Code.region id ops true).wp P Q a w :=
  wp_region_any hm (any_of_but _ _ _ _ h)
/-- The same, the list of what is done written out. -/
theorem but_startN {id : Nat} {a : Act} {w : World} (last n : Nat) (bs : Array Bool) (S : World → Prop) (hm : P.follows .mixedOrders = true) (hn : ops.size = n) (hb : Array.replicate n false = bs)
    (h : anyBut P .any ops Q S last n bs a w.drew) : (Code.region id ops true).wp P Q a w :=
  but_start last S hm (by rw [hn, hb]; exact h)
end

end Go.Proofs.YtbfggmeppakcgaaGreat
