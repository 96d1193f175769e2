/- Contract: the deferred function that catches who gives up (entail.find's). (After the guide's worked text on recover.) -/
import Derived.Test.YtcnkfkjgpdmebaaGreatDoorJN41
import Derived.Recover
import Derived.Stop.Asserts
import Derived.LaidEql
/- Contract: the deferred function that catches who gives up (entail.find's). (After the guide's worked text on recover.) -/
namespace Go.Proofs.YtcnkfkjgpdmebaaGreatDoor
open Go.RowKit Go.Extern.Stop Go.Stop Go.Extern

theorem en_ta (k : Int) (w : World) : (Instr.typeAssert (.iface 164 (.agg #[.int .i64 k])) 20 164 true).run Tryz.prog w = .ok (.tuple #[.agg #[.int .i64 k], .bool true]) w := by kernel_rfl
theorem en_ta0 (w : World) : (Instr.typeAssert .nilIface 20 164 true).run Tryz.prog w = .ok (.tuple #[.agg #[.int .i64 0], .bool false]) w := by kernel_rfl

set_option maxRecDepth 10000 in
set_option maxHeartbeats 2000000 in
theorem en_catch (b6 b7 : Nat) (k : Int) (u : Pf) (n : Int) (w : World) (hne : b6 ≠ b7) (h6 : FBox w b6 u) (h7 : w.heap[b7]? = some (.cells #[.int .i64 n] 41 (0, 0))) :
    CallsD Tryz.prog 101 #[.pointer (some ⟨b6, 0, none⟩), .pointer (some ⟨b7, 0, none⟩)] (.panicking ({ v := .iface 164 (.agg #[.int .i64 k]), recovered := false } :: [])) w fun e u' w' =>
      e = .returned (.tuple #[]) ∧ u' = .panicking ({ v := .iface 164 (.agg #[.int .i64 k]), recovered := true } :: []) ∧ w' = (((setPf w b6 Pf.zero).setCell ⟨b7, 0, none⟩ (.int .i64 k)).alloc (.cells #[.int .i64 k] 164)).drew := by
  refine callsD_of_wpS Tryz.func101 rfl fun c₀ cs hu => ?_
  apply wpS_seq
  apply wpS_region
  have hta := en_ta k
  simp [wpOpsS, go_sem, recoverD, hu, Tryz.ntmps101, Exit.thenS, hta, Array.replicate]
  refine wpS_of_wp ?_
  have z0 := h6.c0
  have z1 := h6.c1
  have z2 := h6.c2
  have z3 := h6.c3
  have zf0 := h6.free 0
  have zf1 := h6.free 1
  have zf2 := h6.free 2
  have zf3 := h6.free 3
  have y0 := bytes_block h7 0
  have yf := free_block h7 0
  simp only [List.getElem?_toArray, List.getElem?_cons_zero] at y0
  have hne2 : b7 ≠ b6 := fun e => hne e.symm
  have l6 := h6.lt
  have l7 := lt_of_obj h7
  go_wp2
  go_region
  refine ⟨rfl, _, rfl, .tuple #[], ?_, rfl, rfl, rfl⟩
  simp [results, Tryz.f101]

set_option maxRecDepth 10000 in
set_option maxHeartbeats 2000000 in
theorem en_idle (b6 b7 : Nat) (w : World) :
    CallsD Tryz.prog 101 #[.pointer (some ⟨b6, 0, none⟩), .pointer (some ⟨b7, 0, none⟩)] .returning w fun e u' w' =>
      e = .returned (.tuple #[]) ∧ u' = .returning ∧ w' = w.alloc (.cells #[.int .i64 0] 164) := by
  refine callsD_of_wpS Tryz.func101 rfl fun c₀ cs hu => ?_
  apply wpS_seq
  apply wpS_region
  have hta := en_ta0
  simp [wpOpsS, go_sem, recoverD, hu, Tryz.ntmps101, Exit.thenS, hta, Array.replicate]
  refine wpS_of_wp ?_
  go_wp2
  refine ⟨rfl, .returning, ?_, .tuple #[], ?_, rfl, rfl, rfl⟩
  · cases c₀; simp_all
  · simp [results, Tryz.f101]

/-- What find tells: a proof, or why there is none. -/
def FnOut (w w' : World) (p : Pd) (v : Value) : Except Int (Pf.Pure × Nat) → Prop
  | .ok (Q, n) => ∃ u, v = .tuple #[pfV u, .int .i64 0] ∧ PfIn w' u ∧ u.pure = Q ∧ u.size = n ∧ n ≤ 4096 ∧ ∀ c, c < w.heap.size → awayB c p.ty = true → AwayF c u
  | .error k => v = .tuple #[pfV Pf.zero, .int .i64 k]

set_option maxRecDepth 10000 in
set_option maxHeartbeats 4000000 in
theorem en_find (x : EnD) (G : Option Addr) (gc : Nat) (given : List Pd) (hE : EnOk x given) (m : Nat) (p : Pd) (w : World) (he : EnIn w x) (hg : PdsIn w G given) (hp : PdIn w p) (hleg : legalT p.ty = true) (hsz : p.ty.size ≤ m) :
    Calls Tryz.prog 63 #[enV x, .slice G given.length gc, pdV p] w fun e w' => (∃ v, e = .returned v ∧ FnOut w w' p v (srch x.classes x.insts given m p.cls p.ty.pure)) ∧ Ext w w' := by
  have hmf : ∀ (fn : Fn) (first cap : Array Value) (w : World), (Instr.makeFunc fn first cap).run Tryz.prog w = .ok (.func fn first cap) w := fun _ _ _ _ => rfl
  obtain ⟨W, hW⟩ : ∃ W, W = (((w.alloc (.cells #[.slice x.D x.datas.length x.dc, .slice x.C x.classes.length x.cc, .slice x.I x.insts.length x.ic] 26)).alloc (.cells #[encStr p.cls, encStr p.ty.con, .int .i64 p.ty.var, .slice p.ty.A p.ty.args.length p.ty.cap] 55)).alloc (.cells #[.int .i64 0, .int .i64 0, .slice none 0 0, .slice none 0 0] 34)).alloc (.cells #[.int .i64 0] 41) := ⟨_, rfl⟩
  have HW := hide hW.symm
  have X0 : Hid (Ext w W) := hide (by rw [hW]; exact ((((Ext.refl _).alloc _).alloc _).alloc _).alloc _)
  have B1 : Hid (EnBox W w.heap.size x) := hide (by rw [hW]; exact (EnBox.new w x).ext ((((Ext.refl _).alloc _).alloc _).alloc _))
  have B2 : Hid (PdBox W (w.heap.size + 1) p) := hide (by rw [hW]; exact PdBox.ext (at_newB _ _ _ (by simp)) (((Ext.refl _).alloc _).alloc _))
  have B3 : Hid (FBox W (w.heap.size + 1 + 1) Pf.zero) := hide (by rw [hW]; exact FBox.ext (at_newB _ _ _ (by simp)) ((Ext.refl _).alloc _))
  have B4 : Hid (W.heap[w.heap.size + 1 + 1 + 1]? = some (.cells #[.int .i64 0] 41 (0, 0))) := hide (by rw [hW]; exact at_newB _ _ _ (by simp))
  have HsW : Hid (W.heap.size = w.heap.size + 4) := hide (by rw [hW]; simp)
  have HS := hide (en_search x G gc given hE m p W (he.ext X0.out) (hg.ext X0.out) (hp.ext X0.out) hleg hsz)
  have Hp0 := hide hp.ty
  clear hW he hg hp hleg hsz hE
  generalize srch x.classes x.insts given m p.cls p.ty.pure = R at *
  obtain ⟨c0, c1, c2, c3⟩ := B2.out.cells
  obtain ⟨e0, e1, e2⟩ := B1.out.cells
  have n1 := B1.out.lt
  have n2 := B2.out.lt
  unfold enV pdV at *
  go_enter_defers Tryz.func63, Tryz.ntmps63
  go_upto_region 2 with fail
  rw [HW.out]
  clear HW
  go_wp2_with fail
  refine HS.out.mono ?_
  rintro e w2 ⟨hout, hx⟩
  have X2 := hide hx
  have C3 := hide (B3.out.ext X2.out)
  have C4 := hide ((X2.out.heap (lt_of_obj B4.out)).trans B4.out)
  clear hx HS c0 c1 c2 c3 e0 e1 e2 n1 n2 B1 B2
  cases R with
  | error k =>
    have hout : e = .panicked [{ v := .iface 164 (.agg #[.int .i64 k]), recovered := false }] := hout
    subst hout
    go_wp2
    refine leaves_cons (f := 101) (args := #[.pointer (some ⟨w.heap.size + 1 + 1, 0, none⟩), .pointer (some ⟨w.heap.size + 1 + 1 + 1, 0, none⟩)]) (by simp) (by simp [go_sem]) ?_
    refine (en_catch (w.heap.size + 1 + 1) (w.heap.size + 1 + 1 + 1) k Pf.zero 0 _ (by omega) C3.out C4.out).mono ?_
    rintro e u' w'' ⟨rfl, rfl, hw⟩
    have D3 : Hid (FBox w'' (w.heap.size + 1 + 1) Pf.zero) := hide (by
      have h1 := setPf_box C3.out Pf.zero
      have h2 : FBox ((setPf w2 (w.heap.size + 1 + 1) Pf.zero).setCell ⟨w.heap.size + 1 + 1 + 1, 0, none⟩ (.int .i64 k)) (w.heap.size + 1 + 1) Pf.zero := (Below.heap_setCell _ _ _ _ (by show w.heap.size + 1 + 1 ≠ w.heap.size + 1 + 1 + 1; omega)).trans h1
      rw [hw]
      exact h2.ext ((Ext.refl _).alloc _).drew)
    have D4 : Hid (w''.heap[w.heap.size + 1 + 1 + 1]? = some (.cells #[.int .i64 k] 41 (0, 0))) := hide (by
      have h1 : (setPf w2 (w.heap.size + 1 + 1) Pf.zero).heap[w.heap.size + 1 + 1 + 1]? = _ := (setPf_other Pf.zero (by omega)).trans C4.out
      have h2 := blk_setCell h1 0 (.int .i64 k)
      have h3 : ((setPf w2 (w.heap.size + 1 + 1) Pf.zero).setCell ⟨w.heap.size + 1 + 1 + 1, 0, none⟩ (.int .i64 k)).heap[w.heap.size + 1 + 1 + 1]? = some (.cells #[.int .i64 k] 41 (0, 0)) := h2.trans (by simp)
      rw [hw]
      exact (((Ext.refl _).alloc _).drew.heap (lt_of_obj h3)).trans h3)
    have XF : Hid (Ext w w'') := hide (by
      rw [hw]
      exact (((setPf_ext (X0.out.trans X2.out) (by omega : w.heap.size ≤ w.heap.size + 1 + 1) Pf.zero).setCell (by show w.heap.size ≤ w.heap.size + 1 + 1 + 1; omega) _).alloc _).drew)
    obtain ⟨z0, z1, z2, z3⟩ := D3.out.cells
    have y0 := bytes_block D4.out 0
    simp only [List.getElem?_toArray, List.getElem?_cons_zero] at y0
    clear hw
    simp only [settle]
    refine ⟨.tuple #[pfV Pf.zero, .int .i64 k], ?_, ⟨⟨_, rfl, rfl⟩, XF.out⟩⟩
    simp [results, Tryz.f63, go_sem, z0, z1, z2, z3, y0, pfV]
  | ok r =>
    obtain ⟨Q, n⟩ := r
    obtain ⟨u, rfl, hy1, hy2, hy3, hy4, hy5⟩ := hout
    have HA6 := hide (hy5 (w.heap.size + 1 + 1) (by have := HsW.out; omega) (away_new Hp0.out (by omega)))
    have HA7 := hide (hy5 (w.heap.size + 1 + 1 + 1) (by have := HsW.out; omega) (away_new Hp0.out (by omega)))
    have HY := hide hy1
    have H2 := hide hy2
    have H3 := hide hy3
    have H5 : Hid (∀ c, c < w.heap.size → awayB c p.ty = true → AwayF c u) := hide (fun c hc ha => hy5 c (by have := HsW.out; omega) ha)
    clear hy1 hy2 hy3 hy5 Hp0
    obtain ⟨z0, z1, z2, z3⟩ := C3.out.cells
    have zf0 := C3.out.free 0
    have zf1 := C3.out.free 1
    have zf2 := C3.out.free 2
    have zf3 := C3.out.free 3
    have y0 := bytes_block C4.out 0
    have yf := free_block C4.out 0
    simp only [List.getElem?_toArray, List.getElem?_cons_zero] at y0
    have l6 := C3.out.lt
    have l7 := lt_of_obj C4.out
    unfold pfV
    go_upto_region 3 with fail
    refine wp_name ?_
    intro W3 hW3
    have hS : W3 = setPf w2 (w.heap.size + 1 + 1) u := hW3
    have K3 : Hid (FBox W3 (w.heap.size + 1 + 1) u) := hide (by rw [hS]; exact setPf_box C3.out u)
    have K4 : Hid (W3.heap[w.heap.size + 1 + 1 + 1]? = some (.cells #[.int .i64 0] 41 (0, 0))) := hide (by rw [hS]; exact (setPf_other u (by omega)).trans C4.out)
    have X3 : Hid (Ext w W3) := hide (by rw [hS]; exact setPf_ext (X0.out.trans X2.out) (by omega) u)
    have HY3 : Hid (PfIn W3 u) := hide (by rw [hS]; exact HY.out.grown (setPf_grown _ _ _) (fun c e => by injection e with e; subst e; exact HA6.out))
    clear hW3 hS z0 z1 z2 z3 zf0 zf1 zf2 zf3 y0 yf l6 l7 HY C3 C4 X2
    obtain ⟨z0, z1, z2, z3⟩ := K3.out.cells
    have zf0 := K3.out.free 0
    have zf1 := K3.out.free 1
    have zf2 := K3.out.free 2
    have zf3 := K3.out.free 3
    have y0 := bytes_block K4.out 0
    have yf := free_block K4.out 0
    simp only [List.getElem?_toArray, List.getElem?_cons_zero] at y0
    have l6 := K3.out.lt
    have l7 := lt_of_obj K4.out
    go_wp2
    refine leaves_cons (f := 101) (args := #[.pointer (some ⟨w.heap.size + 1 + 1, 0, none⟩), .pointer (some ⟨w.heap.size + 1 + 1 + 1, 0, none⟩)]) (by simp) (by simp [go_sem]) ?_
    refine (en_idle (w.heap.size + 1 + 1) (w.heap.size + 1 + 1 + 1) _).mono ?_
    rintro e u' w'' ⟨rfl, rfl, hw⟩
    have D3 : Hid (FBox w'' (w.heap.size + 1 + 1) u) := hide (by
      have h1 := setPf_box K3.out u
      have h2 : FBox ((setPf W3 (w.heap.size + 1 + 1) u).setCell ⟨w.heap.size + 1 + 1 + 1, 0, none⟩ (.int .i64 0)) (w.heap.size + 1 + 1) u := (Below.heap_setCell _ _ _ _ (by show w.heap.size + 1 + 1 ≠ w.heap.size + 1 + 1 + 1; omega)).trans h1
      rw [hw]
      exact h2.ext ((Ext.refl _).alloc _))
    have D4 : Hid (w''.heap[w.heap.size + 1 + 1 + 1]? = some (.cells #[.int .i64 0] 41 (0, 0))) := hide (by
      have h1 : (setPf W3 (w.heap.size + 1 + 1) u).heap[w.heap.size + 1 + 1 + 1]? = _ := (setPf_other u (by omega)).trans K4.out
      have h2 := blk_setCell h1 0 (.int .i64 0)
      have h3 : ((setPf W3 (w.heap.size + 1 + 1) u).setCell ⟨w.heap.size + 1 + 1 + 1, 0, none⟩ (.int .i64 0)).heap[w.heap.size + 1 + 1 + 1]? = some (.cells #[.int .i64 0] 41 (0, 0)) := h2.trans (by simp)
      rw [hw]
      exact (((Ext.refl _).alloc _).heap (lt_of_obj h3)).trans h3)
    have XF : Hid (Ext w w'') := hide (by
      rw [hw]
      exact (((setPf_ext X3.out (by omega : w.heap.size ≤ w.heap.size + 1 + 1) u).setCell (by show w.heap.size ≤ w.heap.size + 1 + 1 + 1; omega) _).alloc _))
    have HYf : Hid (PfIn w'' u) := hide (by
      rw [hw]
      exact ((HY3.out.grown (setPf_grown _ _ _) (fun c e => by injection e with e; subst e; exact HA6.out)).grown (grown_cell _ _ _ _) (fun c e => by injection e with e; subst e; exact HA7.out)).ext ((Ext.refl _).alloc _))
    clear z0 z1 z2 z3 y0
    obtain ⟨z0, z1, z2, z3⟩ := D3.out.cells
    have y0 := bytes_block D4.out 0
    simp only [List.getElem?_toArray, List.getElem?_cons_zero] at y0
    clear hw
    simp only [Leaves, settle]
    refine ⟨.tuple #[pfV u, .int .i64 0], ?_, ⟨⟨_, rfl, u, rfl, HYf.out, H2.out, H3.out, hy4, H5.out⟩, XF.out⟩⟩
    simp [results, Tryz.f63, go_sem, z0, z1, z2, z3, y0, pfV]

end Go.Proofs.YtcnkfkjgpdmebaaGreatDoor

/- Contracts: may classes and instances be (entail.sound); a predicate's proof (entail.By). (A program of ours has printed this.) -/
namespace Go.Proofs.YtcnkfkjgpdmebaaGreatDoor
open Go.RowKit

theorem enillegal_enters : ∀ args w, (callFunc 60 args).run Tryz.prog w = .ok (.enter 60 args) w := enters_of Tryz.func60 (by kernel_rfl) rfl
theorem ensound1_enters : ∀ args w, (callFunc 99 args).run Tryz.prog w = .ok (.enter 99 args) w := enters_of Tryz.func99 (by kernel_rfl) rfl

set_option maxRecDepth 10000 in
set_option maxHeartbeats 1000000 in
theorem en_sound1 (x : InD) (w : World) (h : InIn w x) : Calls Tryz.prog 99 #[inV x] w fun e w' => e = .returned (.bool (!instB x)) ∧ Ext w w' := by
  have X0 : Hid (Ext w (w.alloc (.cells #[encStr x.cls, encStr x.con, .int .i64 x.n, .slice x.A x.preds.length x.cap] 72))) := hide ((Ext.refl w).alloc _)
  have HB := hide (InBox.new w x)
  obtain ⟨c0, c1, c2, c3⟩ := HB.out.cells
  have hbl := HB.out.lt
  have HL := hide (fun w' (e : Ext w w') => hide (h_check x w' (h.ext e)))
  clear h
  unfold inV at *
  generalize instB x = R at *
  go_enter Tryz.func99, Tryz.ntmps99
  go_wp2_with fail
  refine (HL.out _ X0.out).out.mono ?_
  rintro e w3 ⟨rfl, hx⟩
  have X3 := hide hx
  clear hx
  cases R
  · go_wp2
    go_ret
    exact ⟨rfl, X0.out.trans X3.out⟩
  · go_wp2
    go_ret
    exact ⟨rfl, X0.out.trans X3.out⟩

set_option maxRecDepth 10000 in
set_option maxHeartbeats 2000000 in
theorem index_il (A : Option Addr) (cap : Nat) (l : List Pd) (w : World) (h : PdsIn w A l) (hl : l.length ≤ 1000000) :
    Calls Tryz.prog 96 #[.slice A l.length cap, .func (.func 60) #[] #[]] w fun e w' => (∃ i : Int, e = .returned (.int .i64 i) ∧ (0 ≤ i ↔ l.all pdB = false)) ∧ Ext w w' := by
  have HL := hide h
  have eg := enillegal_enters
  clear h
  obtain ⟨R, hR⟩ : ∃ R, R = l.all pdB := ⟨_, rfl⟩
  have HR := hide hR
  rw [← hR]
  clear hR
  go_enter Tryz.func96, Tryz.ntmps96
  go_wp2
  go_loopw [8] (fun i wr => ∃ k : Nat, k ≤ l.length ∧ i = .int .i64 k ∧ Hid ((l.take k).all pdB = true) ∧ Hid (Ext w wr)) (fun i _ => l.length - (intOf i).toNat)
  case atStart => exact ⟨0, Nat.zero_le _, rfl, hide (by simp), hide (Ext.refl _)⟩
  case round =>
    obtain ⟨k, hk, rfl, HA, HX⟩ := hrel
    by_cases hlt : k < l.length
    · have hlt' : (k : Int) < (l.length : Int) := by omega
      have hk0 : (0 : Int) ≤ (k : Int) := by omega
      obtain ⟨b, o, rfl, hb, q0, q1, q2, q3⟩ := (HL.out.ext HX.out).at_ hlt
      have hm := List.getElem_mem hlt
      have HC := hide (fun w' (e : Ext wr w') => hide (en_illegal (l[k]'hlt) w' ((HL.out.all _ hm).ext (HX.out.trans e))))
      have Htk : Hid (l.take (k + 1) = l.take k ++ [l[k]'hlt]) := hide (List.take_succ_eq_append_getElem hlt)
      have Hm := hide hm
      clear hm
      unfold pdV at HC
      generalize l[k]'hlt = x at *
      cases hb : pdB x
      · rw [hb] at HC
        have HN : Hid (R = false) := hide (by rw [HR.out, ← Bool.not_eq_true, List.all_eq_true]; intro h; have := h x Hm.out; rw [hb] at this; cases this)
        clear hb
        go_wp2_with fail
        refine (HC.out _ (Ext.refl _)).out.mono ?_
        rintro e w3 ⟨rfl, hx⟩
        go_wp2
        go_ret
        exact ⟨⟨(k : Int), rfl, by rw [HN.out]; simp⟩, HX.out.trans hx⟩
      · rw [hb] at HC
        have Hb := hide hb
        clear hb
        go_wp2_with fail
        refine (HC.out _ (Ext.refl _)).out.mono ?_
        rintro e w3 ⟨rfl, hx⟩
        have X3 := hide (HX.out.trans hx)
        clear hx
        go_wp2
        go_roundw
        case rel => exact ⟨k + 1, hlt, by go_num, hide (by rw [Htk.out, List.all_append, HA.out]; simpa using Hb.out), X3⟩
        case measure => simp [intOf]; omega
    · have hge : ¬ (k : Int) < (l.length : Int) := by omega
      have HN : Hid (R = true) := hide (by rw [HR.out]; have := HA.out; rwa [List.take_of_length_le (by omega)] at this)
      go_wp2
      go_ret
      exact ⟨⟨-1, rfl, by rw [HN.out]; simp⟩, HX.out⟩

set_option maxRecDepth 10000 in
set_option maxHeartbeats 1000000 in
theorem has_il (A : Option Addr) (cap : Nat) (l : List Pd) (w : World) (h : PdsIn w A l) (hl : l.length ≤ 1000000) :
    Calls Tryz.prog 61 #[.slice A l.length cap, .func (.func 60) #[] #[]] w fun e w' => e = .returned (.bool (!l.all pdB)) ∧ Ext w w' := by
  have HI := hide (index_il A cap l w h hl)
  clear h
  generalize l.all pdB = R at *
  go_enter Tryz.func61, Tryz.ntmps61
  go_wp2_with fail
  refine HI.out.mono ?_
  rintro e w2 ⟨⟨i, rfl, hi⟩, hx⟩
  have HR : Hid (decide ((0 : Int) ≤ i) = !R) := hide (by cases R <;> simp_all)
  have X := hide hx
  clear hi hx
  go_wp2
  go_ret
  exact ⟨by rw [← HR.out]; rfl, X.out⟩

set_option maxRecDepth 10000 in
set_option maxHeartbeats 2000000 in
theorem index_si (A : Option Addr) (cap : Nat) (l : List InD) (w : World) (h : InsIn w A l) (hl : l.length ≤ 1000000) :
    Calls Tryz.prog 145 #[.slice A l.length cap, .func (.func 99) #[] #[]] w fun e w' => (∃ i : Int, e = .returned (.int .i64 i) ∧ (0 ≤ i ↔ l.all instB = false)) ∧ Ext w w' := by
  have HL := hide h
  have eg := ensound1_enters
  clear h
  obtain ⟨R, hR⟩ : ∃ R, R = l.all instB := ⟨_, rfl⟩
  have HR := hide hR
  rw [← hR]
  clear hR
  go_enter Tryz.func145, Tryz.ntmps145
  go_wp2
  go_loopw [8] (fun i wr => ∃ k : Nat, k ≤ l.length ∧ i = .int .i64 k ∧ Hid ((l.take k).all instB = true) ∧ Hid (Ext w wr)) (fun i _ => l.length - (intOf i).toNat)
  case atStart => exact ⟨0, Nat.zero_le _, rfl, hide (by simp), hide (Ext.refl _)⟩
  case round =>
    obtain ⟨k, hk, rfl, HA, HX⟩ := hrel
    by_cases hlt : k < l.length
    · have hlt' : (k : Int) < (l.length : Int) := by omega
      have hk0 : (0 : Int) ≤ (k : Int) := by omega
      obtain ⟨b, o, rfl, hb, q0, q1, q2, q3⟩ := (HL.out.ext HX.out).at_ hlt
      have hm := List.getElem_mem hlt
      have HC := hide (fun w' (e : Ext wr w') => hide (en_sound1 (l[k]'hlt) w' ((HL.out.all _ hm).ext (HX.out.trans e))))
      have Htk : Hid (l.take (k + 1) = l.take k ++ [l[k]'hlt]) := hide (List.take_succ_eq_append_getElem hlt)
      have Hm := hide hm
      clear hm
      unfold inV at HC
      generalize l[k]'hlt = x at *
      cases hb : instB x
      · rw [hb] at HC
        have HN : Hid (R = false) := hide (by rw [HR.out, ← Bool.not_eq_true, List.all_eq_true]; intro h; have := h x Hm.out; rw [hb] at this; cases this)
        clear hb
        go_wp2_with fail
        refine (HC.out _ (Ext.refl _)).out.mono ?_
        rintro e w3 ⟨rfl, hx⟩
        go_wp2
        go_ret
        exact ⟨⟨(k : Int), rfl, by rw [HN.out]; simp⟩, HX.out.trans hx⟩
      · rw [hb] at HC
        have Hb := hide hb
        clear hb
        go_wp2_with fail
        refine (HC.out _ (Ext.refl _)).out.mono ?_
        rintro e w3 ⟨rfl, hx⟩
        have X3 := hide (HX.out.trans hx)
        clear hx
        go_wp2
        go_roundw
        case rel => exact ⟨k + 1, hlt, by go_num, hide (by rw [Htk.out, List.all_append, HA.out]; simpa using Hb.out), X3⟩
        case measure => simp [intOf]; omega
    · have hge : ¬ (k : Int) < (l.length : Int) := by omega
      have HN : Hid (R = true) := hide (by rw [HR.out]; have := HA.out; rwa [List.take_of_length_le (by omega)] at this)
      go_wp2
      go_ret
      exact ⟨⟨-1, rfl, by rw [HN.out]; simp⟩, HX.out⟩

set_option maxRecDepth 10000 in
set_option maxHeartbeats 1000000 in
theorem has_si (A : Option Addr) (cap : Nat) (l : List InD) (w : World) (h : InsIn w A l) (hl : l.length ≤ 1000000) :
    Calls Tryz.prog 98 #[.slice A l.length cap, .func (.func 99) #[] #[]] w fun e w' => e = .returned (.bool (!l.all instB)) ∧ Ext w w' := by
  have HI := hide (index_si A cap l w h hl)
  clear h
  generalize l.all instB = R at *
  go_enter Tryz.func98, Tryz.ntmps98
  go_wp2_with fail
  refine HI.out.mono ?_
  rintro e w2 ⟨⟨i, rfl, hi⟩, hx⟩
  have HR : Hid (decide ((0 : Int) ≤ i) = !R) := hide (by cases R <;> simp_all)
  have X := hide hx
  clear hi hx
  go_wp2
  go_ret
  exact ⟨by rw [← HR.out]; rfl, X.out⟩

/-- What is asked of what is declared, before it is known whether it may be. -/
structure EnFew (x : EnD) (given : List Pd) : Prop where
  gl : given.length ≤ 1000000
  l9 : x.classes.length ≤ 9
  s9 : ∀ c ∈ x.classes, c.sups.length ≤ 9
  il : x.insts.length ≤ 1000000
  pl : ∀ y ∈ x.insts, y.preds.length ≤ 40000

set_option maxRecDepth 10000 in
set_option maxHeartbeats 2000000 in
theorem en_sound (x : EnD) (given : List Pd) (hE : EnFew x given) (w : World) (he : EnIn w x) : Calls Tryz.prog 62 #[enV x] w fun e w' => e = .returned (.bool (soundE x.classes x.insts)) ∧ Ext w w' := by
  obtain ⟨W, hW⟩ : ∃ W, W = w.alloc (.cells #[.slice x.D x.datas.length x.dc, .slice x.C x.classes.length x.cc, .slice x.I x.insts.length x.ic] 26) := ⟨_, rfl⟩
  have HW := hide hW.symm
  have X0 : Hid (Ext w W) := hide (by rw [hW]; exact (Ext.refl _).alloc _)
  have B1 : Hid (EnBox W w.heap.size x) := hide (by rw [hW]; exact EnBox.new w x)
  have HC := hide (sup_check x.C x.cc (x.classes.map toCls) W (classes_of (he.classes.ext X0.out)) (by simpa using hE.l9) (fun c hc => by
    obtain ⟨k, hk, rfl⟩ := List.mem_map.1 hc
    exact hE.s9 k hk))
  have HI := hide (fun w' (e : Ext W w') => hide (has_si x.I x.ic x.insts w' (he.insts.ext (X0.out.trans e)) hE.il))
  rw [List.length_map] at HC
  have HO : Hid (soundE x.classes x.insts = (((checkL (x.classes.map toCls)).2 == 0) && x.insts.all instB)) := hide rfl
  clear hW he
  generalize soundE x.classes x.insts = R at *
  generalize x.insts.all instB = RI at *
  generalize checkL (x.classes.map toCls) = ck at *
  obtain ⟨i, k⟩ := ck
  have HO : Hid (R = ((k == 0) && RI)) := hide HO.out
  obtain ⟨e0, e1, e2⟩ := B1.out.cells
  have n1 := B1.out.lt
  unfold enV
  go_enter Tryz.func62, Tryz.ntmps62
  go_upto_region 1 with fail
  rw [HW.out]
  clear HW
  go_wp2_with fail
  refine HC.out.mono ?_
  rintro e w2 ⟨rfl, hx⟩
  have X2 := hide hx
  clear hx HC e0 e1 e2 n1
  obtain ⟨e0, e1, e2⟩ := (B1.out.ext X2.out).cells
  have n1 := (B1.out.ext X2.out).lt
  cases hk : (k == 0)
  · have hR : R = false := by rw [HO.out, hk]; rfl
    subst hR
    go_wp2
    go_ret
    exact ⟨rfl, X0.out.trans X2.out⟩
  · have hR : R = RI := by rw [HO.out, hk]; rfl
    subst hR
    clear HO
    go_wp2_with fail
    refine (HI.out _ X2.out).out.mono ?_
    rintro e w3 ⟨rfl, hx⟩
    have X3 := hide (X2.out.trans hx)
    clear hx HI
    cases R
    · go_wp2
      go_ret
      exact ⟨rfl, X0.out.trans X3.out⟩
    · go_wp2
      go_ret
      exact ⟨rfl, X0.out.trans X3.out⟩

theorem kids_nz {f : Str → Ty.Pure → Except Int (Pf.Pure × Nat)} (hf : ∀ c t k, f c t = .error k → k ≠ 0) : ∀ (l : List (Str × Ty.Pure)) (us : List Pf.Pure) (n : Nat) (k : Int), kidsGo f l us n = .error k → k ≠ 0
  | [], us, n, k, h => by cases h
  | (c, t) :: r, us, n, k, h => by
    cases hr : f c t with
    | error e =>
      rw [kids_err hr] at h
      injection h with h
      subst h
      exact hf c t _ hr
    | ok q =>
      obtain ⟨q, m⟩ := q
      rw [kids_step hr] at h
      split at h
      · injection h with h; subst h; decide
      · exact kids_nz hf r _ _ k h
theorem srch_nz (cs : List KlD) (ins : List InD) (given : List Pd) : ∀ (m : Nat) (c : Str) (t : Ty.Pure) (k : Int), srch cs ins given m c t = .error k → k ≠ 0
  | 0, c, t, k, h => by
    have h : Except.error 16 = Except.error k := h
    injection h with h; subst h; decide
  | m + 1, c, t, k, h => by
    unfold srch at h
    split at h
    · cases h
    · split at h
      · injection h with h; subst h; decide
      · split at h
        · rename_i e he
          injection h with h; subst h
          exact kids_nz (srch_nz cs ins given m) _ _ _ _ he
        · cases h
def dropS : Except Int (Pf.Pure × Nat) → Except Int Pf.Pure
  | .error e => .error e
  | .ok (q, _) => .ok q
/-- What By tells. -/
def ByOut (w w' : World) (p : Pd) (v : Value) : Except Int Pf.Pure → Prop
  | .ok Q => ∃ u, v = .tuple #[pfV u, .int .i64 0] ∧ PfIn w' u ∧ u.pure = Q ∧ u.size ≤ 4096 ∧ ∀ c, c < w.heap.size → awayB c p.ty = true → AwayF c u
  | .error k => v = .tuple #[pfV Pf.zero, .int .i64 k] ∧ k ≠ 0

set_option maxRecDepth 10000 in
set_option maxHeartbeats 4000000 in
theorem en_by (x : EnD) (G : Option Addr) (gc : Nat) (given : List Pd) (hE : EnFew x given) (p : Pd) (w : World) (he : EnIn w x) (hg : PdsIn w G given) (hp : PdIn w p) :
    Calls Tryz.prog 37 #[enV x, .slice G given.length gc, pdV p] w fun e w' => (∃ v, e = .returned v ∧ ByOut w w' p v (byE x.classes x.insts given p)) ∧ Ext w w' := by
  obtain ⟨W, hW⟩ : ∃ W, W = ((w.alloc (.cells #[.slice x.D x.datas.length x.dc, .slice x.C x.classes.length x.cc, .slice x.I x.insts.length x.ic] 26)).alloc (.cells #[encStr p.cls, encStr p.ty.con, .int .i64 p.ty.var, .slice p.ty.A p.ty.args.length p.ty.cap] 55)).alloc (.cells #[.int .i64 0, .int .i64 0, .slice none 0 0, .slice none 0 0] 34) := ⟨_, rfl⟩
  have HW := hide hW.symm
  have X0 : Hid (Ext w W) := hide (by rw [hW]; exact (((Ext.refl _).alloc _).alloc _).alloc _)
  have B1 : Hid (EnBox W w.heap.size x) := hide (by rw [hW]; exact (EnBox.new w x).ext (((Ext.refl _).alloc _).alloc _))
  have B2 : Hid (PdBox W (w.heap.size + 1) p) := hide (by rw [hW]; exact PdBox.ext (at_newB _ _ _ (by simp)) ((Ext.refl _).alloc _))
  have B3 : Hid (FBox W (w.heap.size + 1 + 1) Pf.zero) := hide (by rw [hW]; exact at_newB _ _ _ (by simp))
  have HsW : Hid (W.heap.size = w.heap.size + 3) := hide (by rw [hW]; simp)
  have HIl := hide (en_illegal p W (hp.ext X0.out))
  have HGv := hide (fun w' (e : Ext W w') => hide (has_il G gc given w' (hg.ext (X0.out.trans e)) hE.gl))
  have HSo := hide (fun w' (e : Ext W w') => hide (en_sound x given hE w' (he.ext (X0.out.trans e))))
  have HFi := hide (fun (h : EnOk x given) (hl : legalT p.ty = true) (hs : p.ty.size ≤ 5000) w' (e : Ext W w') => hide (en_find x G gc given h 5000 p w' (he.ext (X0.out.trans e)) (hg.ext (X0.out.trans e)) (hp.ext (X0.out.trans e)) hl hs))
  have HEo : Hid (soundE x.classes x.insts = true → EnOk x given) := hide (fun h => ⟨hE.gl, hE.l9, hE.s9, by
    unfold soundE at h
    rw [Bool.and_eq_true, List.all_eq_true] at h
    exact h.2, hE.il, hE.pl⟩)
  have HPd : Hid (pdB p = true → legalT p.ty = true ∧ p.ty.size ≤ 5000) := hide (fun h => by
    unfold pdB at h
    rw [Bool.and_eq_true] at h
    exact ⟨h.2, by have := (legal_parts h.2).1; omega⟩)
  have HNz := hide (srch_nz x.classes x.insts given 5000 p.cls p.ty.pure)
  have HR : Hid (byE x.classes x.insts given p = if (pdB p && given.all pdB && soundE x.classes x.insts) = false then .error 1
    else dropS (srch x.classes x.insts given 5000 p.cls p.ty.pure)) := hide rfl
  have Hp0 := hide hp.ty
  clear hW he hg hp hE
  generalize byE x.classes x.insts given p = R at *
  generalize pdB p = r1 at *
  generalize given.all pdB = r2 at *
  generalize soundE x.classes x.insts = r3 at *
  generalize srch x.classes x.insts given 5000 p.cls p.ty.pure = S at *
  obtain ⟨c0, c1, c2, c3⟩ := B2.out.cells
  have n2 := B2.out.lt
  unfold enV pdV at *
  have hend : ∀ w3 : World, Ext W w3 → (r1 && r2 && r3) = false → R = .error 1 := fun _ _ h => by rw [HR.out, if_pos h]
  have Hend := hide hend
  clear hend
  go_enter Tryz.func37, Tryz.ntmps37
  go_upto_region 1 with fail
  rw [HW.out]
  clear HW
  go_wp2_with fail
  refine HIl.out.mono ?_
  rintro e w2 ⟨rfl, hx⟩
  have X2 := hide hx
  clear hx HIl c0 c1 c2 c3 n2
  cases r1
  · have hR := Hend.out w2 X2.out rfl
    subst hR
    have Z := hide (B3.out.ext X2.out)
    obtain ⟨z0, z1, z2, z3⟩ := Z.out.cells
    have zf0 := Z.out.free 0
    have zf1 := Z.out.free 1
    have zf2 := Z.out.free 2
    have zf3 := Z.out.free 3
    have hz := Z.out.lt
    have XF := hide (setPf_ext (X0.out.trans X2.out) (by omega : w.heap.size ≤ w.heap.size + 1 + 1) Pf.zero)
    go_wp2
    refine bodyPost_ret (v := .tuple #[pfV Pf.zero, .int .i64 1]) ?_ rfl ⟨⟨_, rfl, rfl, by decide⟩, XF.out⟩
    simp [results, Tryz.f37, go_sem, z0, z1, z2, z3, pfV]
    exact ⟨rfl, rfl, ⟨rfl, rfl, rfl⟩, rfl, rfl, rfl⟩
  · go_wp2_with fail
    refine (HGv.out _ X2.out).out.mono ?_
    rintro e w3 ⟨rfl, hx⟩
    have X3 := hide (X2.out.trans hx)
    clear hx HGv X2
    cases r2
    · have hR := Hend.out w3 X3.out rfl
      subst hR
      have Z := hide (B3.out.ext X3.out)
      obtain ⟨z0, z1, z2, z3⟩ := Z.out.cells
      have zf0 := Z.out.free 0
      have zf1 := Z.out.free 1
      have zf2 := Z.out.free 2
      have zf3 := Z.out.free 3
      have hz := Z.out.lt
      have XF := hide (setPf_ext (X0.out.trans X3.out) (by omega : w.heap.size ≤ w.heap.size + 1 + 1) Pf.zero)
      go_wp2
      refine bodyPost_ret (v := .tuple #[pfV Pf.zero, .int .i64 1]) ?_ rfl ⟨⟨_, rfl, rfl, by decide⟩, XF.out⟩
      simp [results, Tryz.f37, go_sem, z0, z1, z2, z3, pfV]
      exact ⟨rfl, rfl, ⟨rfl, rfl, rfl⟩, rfl, rfl, rfl⟩
    · obtain ⟨e0, e1, e2⟩ := (B1.out.ext X3.out).cells
      have n1 := (B1.out.ext X3.out).lt
      go_wp2_with fail
      refine (HSo.out _ X3.out).out.mono ?_
      rintro e w4 ⟨rfl, hx⟩
      have X4 := hide (X3.out.trans hx)
      clear hx HSo X3 e0 e1 e2 n1
      cases r3
      · have hR := Hend.out w4 X4.out rfl
        subst hR
        have Z := hide (B3.out.ext X4.out)
        obtain ⟨z0, z1, z2, z3⟩ := Z.out.cells
        have zf0 := Z.out.free 0
        have zf1 := Z.out.free 1
        have zf2 := Z.out.free 2
        have zf3 := Z.out.free 3
        have hz := Z.out.lt
        have XF := hide (setPf_ext (X0.out.trans X4.out) (by omega : w.heap.size ≤ w.heap.size + 1 + 1) Pf.zero)
        go_wp2
        refine bodyPost_ret (v := .tuple #[pfV Pf.zero, .int .i64 1]) ?_ rfl ⟨⟨_, rfl, rfl, by decide⟩, XF.out⟩
        simp [results, Tryz.f37, go_sem, z0, z1, z2, z3, pfV]
        exact ⟨rfl, rfl, ⟨rfl, rfl, rfl⟩, rfl, rfl, rfl⟩
      · obtain ⟨hl, hs⟩ := HPd.out (by simp)
        have HF := hide (HFi.out (HEo.out (by simp)) hl hs)
        have HR2 : Hid (R = dropS S) := hide (by rw [HR.out, if_neg (by decide)])
        clear HFi HEo HPd HR Hend
        obtain ⟨e0, e1, e2⟩ := (B1.out.ext X4.out).cells
        obtain ⟨c0, c1, c2, c3⟩ := (B2.out.ext X4.out).cells
        have n1 := (B1.out.ext X4.out).lt
        have n2 := (B2.out.ext X4.out).lt
        go_wp2_with fail
        refine (HF.out _ X4.out).out.mono ?_
        rintro e w5 ⟨⟨v, rfl, hout⟩, hx⟩
        have X5 := hide (X4.out.trans hx)
        have hs4 := X4.out.size
        clear hx HF e0 e1 e2 n1 c0 c1 c2 c3 n2
        cases S with
        | error k =>
          have hv : v = .tuple #[pfV Pf.zero, .int .i64 k] := hout
          have hR : R = .error k := HR2.out
          have hk := HNz.out k rfl
          clear hout HR2
          subst hv hR
          have Z := hide (B3.out.ext X5.out)
          obtain ⟨z0, z1, z2, z3⟩ := Z.out.cells
          have zf0 := Z.out.free 0
          have zf1 := Z.out.free 1
          have zf2 := Z.out.free 2
          have zf3 := Z.out.free 3
          have hz := Z.out.lt
          have XF := hide (setPf_ext (X0.out.trans X5.out) (by omega : w.heap.size ≤ w.heap.size + 1 + 1) Pf.zero)
          unfold pfV
          go_wp2
          refine bodyPost_ret (v := .tuple #[pfV Pf.zero, .int .i64 k]) ?_ rfl ⟨⟨_, rfl, rfl, hk⟩, XF.out⟩
          simp [results, Tryz.f37, go_sem, z0, z1, z2, z3, pfV]
        | ok r =>
          obtain ⟨Q, n⟩ := r
          obtain ⟨u, hv, hy1, hy2, hy3, hy4, hy5⟩ := hout
          have hR : R = .ok Q := HR2.out
          clear HR2
          subst hv hR
          have Z := hide (B3.out.ext X5.out)
          obtain ⟨z0, z1, z2, z3⟩ := Z.out.cells
          have zf0 := Z.out.free 0
          have zf1 := Z.out.free 1
          have zf2 := Z.out.free 2
          have zf3 := Z.out.free 3
          have hz := Z.out.lt
          have XF := hide (setPf_ext (X0.out.trans X5.out) (by omega : w.heap.size ≤ w.heap.size + 1 + 1) u)
          have HA6 := hy5 (w.heap.size + 1 + 1) (by have := HsW.out; omega) (away_new Hp0.out (by omega))
          have HY := hide (hy1.grown (setPf_grown w5 (w.heap.size + 1 + 1) u) (fun c e => by injection e with e; subst e; exact HA6))
          have H5 : Hid (∀ c, c < w.heap.size → awayB c p.ty = true → AwayF c u) := hide (fun c hc ha => hy5 c (by have := HsW.out; omega) ha)
          have H2 := hide hy2
          have H3 := hide (hy3 ▸ hy4)
          clear hy1 hy2 hy3 hy5 HA6
          unfold pfV
          go_wp2
          refine bodyPost_ret (v := .tuple #[pfV u, .int .i64 0]) ?_ rfl ⟨⟨_, rfl, u, rfl, HY.out, H2.out, H3.out, H5.out⟩, XF.out⟩
          simp [results, Tryz.f37, go_sem, z0, z1, z2, z3, pfV]

end Go.Proofs.YtcnkfkjgpdmebaaGreatDoor

/- Contracts: the term of a proof, with the error's number (evterms.Term); the terms of predicates (evterms.All). -/
namespace Go.Proofs.YtcnkfkjgpdmebaaGreatDoor
open Go.RowKit

theorem cell6d {y : World} {B b i : Nat} (h : b ≠ B) (v0 v1 v2 v3 v4 v5 : Value) {u : Value} (k : y.cell? ⟨b, i, none⟩ = some u) : ((((((y.setCell ⟨B, 0, none⟩ v0).setCell ⟨B, 1, none⟩ v1).setCell ⟨B, 2, none⟩ v2).setCell ⟨B, 3, none⟩ v3).setCell ⟨B, 4, none⟩ v4).setCell ⟨B, 5, none⟩ v5).drew.cell? ⟨b, i, none⟩ = some u := (Ext.refl _).drew.cell (cell6e h v0 v1 v2 v3 v4 v5 k)
theorem e_number (a0 a1 : Addr) (n : Nat) (hn : n ≤ 2) (w : World) (h : EvGl w a0 a1) : Calls Tryz.prog 29 #[errI a0 a1 n] w fun e w' => e = .returned (.int .i64 (n : Nat)) ∧ w' = w := by
  match n, hn with
  | 0, _ => exact e_number_ok a0 a1 w h
  | 1, _ => exact e_number_none a0 a1 w h
  | 2, _ => exact e_number_great a0 a1 w h
theorem WhOk.le {w w' : World} {cs : List KlD} {ins : List InD} {preds : List Pd} {given : List Tm} {p : Pf} {t : Tm} {n : Nat} (h : WhOk w w' cs ins preds given p t n) : n ≤ 2 := by
  rcases h.out with ⟨h, -⟩ | ⟨-, -, u, -, ⟨h, -⟩ | ⟨h, -⟩⟩ <;> omega

set_option maxRecDepth 10000 in
set_option maxHeartbeats 2000000 in
theorem e_term (x : EnD) (P : Option Addr) (pc : Nat) (preds : List Pd) (L : Option Addr) (lc : Nat) (given : List Tm) (hpl : ∀ y ∈ x.insts, y.preds.length ≤ 40000) (p : Pf) (a0 a1 : Addr) (w : World) (he : EnIn w x) (hP : PdsIn w P preds) (hL : TmsIn w L given) (hp : PfIn w p) (hgl : HGe w) (hev : EvGl w a0 a1) (hfew : EvFew x.classes x.insts preds given p) :
    Calls Tryz.prog 9 #[enV x, .slice P preds.length pc, .slice L given.length lc, pfV p] w fun e w' => (∃ t n, e = .returned (.tuple #[tmV t, .int .i64 (n : Nat)]) ∧ WhOk w w' x.classes x.insts preds given p t n) ∧ Ext w w' := by
  obtain ⟨W, hW⟩ : ∃ W, W = ((w.alloc (.cells #[.slice x.D x.datas.length x.dc, .slice x.C x.classes.length x.cc, .slice x.I x.insts.length x.ic] 26)).alloc (.cells #[.int .i64 p.kind, .int .i64 p.n, .slice p.T p.types.length p.tc, .slice p.A p.kids.length p.cap] 34)).alloc (.cells #[.int .i64 0, .int .i64 0, .string ⟨#[]⟩, .slice none 0 0, .slice none 0 0, .slice none 0 0] 40) := ⟨_, rfl⟩
  have HW := hide hW.symm
  have X0 : Hid (Ext w W) := hide (by rw [hW]; exact (((Ext.refl _).alloc _).alloc _).alloc _)
  have B1 : Hid (EnBox W w.heap.size x) := hide (by rw [hW]; exact (EnBox.new w x).ext (((Ext.refl _).alloc _).alloc _))
  have B2 : Hid (FBox W (w.heap.size + 1) p) := hide (by rw [hW]; exact FBox.ext (at_newB _ _ _ (by simp)) ((Ext.refl _).alloc _))
  have B3 : Hid (W.heap[w.heap.size + 1 + 1]? = some (.cells #[.int .i64 0, .int .i64 0, .string ⟨#[]⟩, .slice none 0 0, .slice none 0 0, .slice none 0 0] 40)) := hide (by rw [hW]; exact at_newB _ _ _ (by simp))
  have HsW : Hid (W.heap.size = w.heap.size + 3) := hide (by rw [hW]; simp)
  have HWh := hide (e_whole x P pc preds L lc given hpl p a0 a1 W (he.ext X0.out) (hP.ext X0.out) (hL.ext X0.out) (hp.ext X0.out) (HGe.ext hgl X0.out) (hev.ext X0.out) hfew)
  have HN := hide (fun n hn w' (e : Ext W w') => e_number a0 a1 n hn w' (hev.ext (X0.out.trans e)))
  obtain ⟨c0, c1, c2, c3⟩ := B2.out.cells
  obtain ⟨e0, e1, e2⟩ := B1.out.cells
  have n1 := B1.out.lt
  have n2 := B2.out.lt
  have HAg : Hid (∀ c, w.heap.size ≤ c → (∀ g ∈ given, AwayM c g) ∧ AwayF c p) := hide (fun c hc => ⟨fun g hg => awayM_new (hL.kids g hg) hc, awayF_new hp hc⟩)
  clear hW he hP hL hp hgl hev hfew
  unfold enV
  unfold pfV at *
  go_enter Tryz.func9, Tryz.ntmps9
  go_upto_region 1 with fail
  rw [HW.out]
  clear HW
  go_wp2_with fail
  refine HWh.out.mono ?_
  rintro e w2 ⟨⟨t, n, rfl, hw⟩, hx⟩
  have X2 := hide hx
  have Hw := hide hw
  have Hn := HN.out n hw.le
  clear hx hw HWh HN c0 c1 c2 c3 e0 e1 e2 n1 n2
  generalize errI a0 a1 n = er at *
  go_upto_region 2 with fail
  refine wp_name ?_
  intro W3 hW3
  have E3 : Hid (Ext w2 W3) := hide (by rw [hW3]; exact (Ext.refl _).alloc _)
  have D3 : Hid (TmBox W3 w2.heap.size t) := hide (by rw [hW3]; exact TmBox.new w2 t)
  have X3 := hide (X2.out.trans E3.out)
  clear hW3
  obtain ⟨d0, d1, d2, d3, d4, d5⟩ := D3.out.cells
  have d6 := D3.out.lt
  have B4 := hide ((X3.out.heap (lt_of_obj B3.out)).trans B3.out)
  obtain ⟨z0, z1, z2, z3, z4, z5, zf0, zf1, zf2, zf3, zf4, zf5⟩ := m0_cells B4.out
  have hz := lt_of_obj B4.out
  have HAt := hide (Hw.out.away (w.heap.size + 1 + 1) (by have := HsW.out; omega) (HAg.out _ (by omega)).1 (HAg.out _ (by omega)).2)
  have HI := hide ((Hw.out.inn.ext E3.out).grown (putTm_grown W3 (w.heap.size + 1 + 1) t) (fun c e => by injection e with e; subst e; exact HAt.out))
  have XF := hide (putTm_ext (X0.out.trans X3.out) (by omega : w.heap.size ≤ w.heap.size + 1 + 1) t)
  have HWk : Hid (∀ w', TmIn w' t → WhOk w w' x.classes x.insts preds given p t n) := hide (fun w' h => ⟨h, fun c hc h1 h2 => Hw.out.away c (by have := HsW.out; omega) h1 h2, Hw.out.out⟩)
  have hne : w2.heap.size ≠ w.heap.size + 1 + 1 := by have := X2.out.size; have := HsW.out; omega
  clear Hw
  have kS := And.intro d0 (And.intro d1 (And.intro d2 (And.intro d3 (And.intro d4 d5))))
  go_region_held3 (fun w' => w'.cell? ⟨w2.heap.size, 0, none⟩ = some (.int .i64 t.kind) ∧ w'.cell? ⟨w2.heap.size, 1, none⟩ = some (.int .i64 t.n) ∧ w'.cell? ⟨w2.heap.size, 2, none⟩ = some (.string ⟨t.name.toArray⟩) ∧ w'.cell? ⟨w2.heap.size, 3, none⟩ = some (.slice t.V t.vars.length t.vc) ∧ w'.cell? ⟨w2.heap.size, 4, none⟩ = some (.slice t.T t.types.length t.tc) ∧ w'.cell? ⟨w2.heap.size, 5, none⟩ = some (.slice t.A t.kids.length t.cap)) (first | with_reducible assumption | (obtain ⟨g0, g1, g2, g3, g4, g5⟩ := kS; first | with_reducible exact ⟨cell6d hne _ _ _ _ _ _ g0, cell6d hne _ _ _ _ _ _ g1, cell6d hne _ _ _ _ _ _ g2, cell6d hne _ _ _ _ _ _ g3, cell6d hne _ _ _ _ _ _ g4, cell6d hne _ _ _ _ _ _ g5⟩ | with_reducible exact ⟨cell6e hne _ _ _ _ _ _ g0, cell6e hne _ _ _ _ _ _ g1, cell6e hne _ _ _ _ _ _ g2, cell6e hne _ _ _ _ _ _ g3, cell6e hne _ _ _ _ _ _ g4, cell6e hne _ _ _ _ _ _ g5⟩) | go_keep) (
    (go_at_call 29
     refine Calls.mono (Hn _ (X3.out.trans (by repeat (first | exact Ext.refl _ | exact Ext.pre (by simp) | exact Ext.alloc (by assumption) _ | refine Ext.alloc ?_ _ |  refine Ext.more ?_ _ _ | refine Ext.drew ?_ | refine Ext.drewN ?_ _)))) ?_
     rintro e y ⟨rfl, rfl⟩
     have kS := And.intro d0 (And.intro d1 (And.intro d2 (And.intro d3 (And.intro d4 d5))))))
  go_wp2
  refine bodyPost_ret (v := .tuple #[tmV t, .int .i64 (n : Nat)]) ?_ rfl ⟨⟨t, n, rfl, HWk.out _ (HI.out.ext (Ext.refl _).drew)⟩, XF.out.drew⟩
  simp [results, Tryz.f9, go_sem, z0, z1, z2, z3, z4, z5]

/-- A predicate that has a term. -/
def OneOk (cs : List KlD) (ins : List InD) (preds : List Pd) (given : List Tm) (q : Pd) (t : Tm.Pure) : Prop :=
  ∃ (p : Pf) (u : Tm), byE cs ins preds q = .ok p.pure ∧ preds.length = given.length ∧ (prv cs ins preds p).isSome = true ∧ u.pure = evP cs ins preds (given.map Tm.pure) p ∧ legalM u = true ∧ t = u.pure
/-- A predicate that has none, and why. -/
def OneErr (cs : List KlD) (ins : List InD) (preds : List Pd) (given : List Tm) (q : Pd) (n : Int) : Prop :=
  byE cs ins preds q = .error n ∨ ∃ (p : Pf) (t : Tm) (m : Nat) (w w' : World), byE cs ins preds q = .ok p.pure ∧ WhOk w w' cs ins preds given p t m ∧ m ≠ 0 ∧ n = (m : Int)
/-- What All tells. -/
def AllOk (w' : World) (cs : List KlD) (ins : List InD) (preds : List Pd) (given : List Tm) (l : List Pd) (v : Value) : Prop :=
  (∃ A c ts, v = .tuple #[.slice A (List.length ts) c, .int .i64 0, .int .i64 0] ∧ ts.length ≤ c ∧ c ≤ 9223372036854775807 ∧ TmsIn w' A ts ∧ ts.length = l.length ∧ ∀ j (h1 : j < l.length) (h2 : j < ts.length), OneOk cs ins preds given (l[j]'h1) (ts[j]'h2).pure) ∨
  ∃ (k : Nat) (n : Int), v = .tuple #[.slice none 0 0, .int .i64 (k : Nat), .int .i64 n] ∧ n ≠ 0 ∧ ∃ hk : k < l.length, (∀ j (h1 : j < l.length), j < k → ∃ t, OneOk cs ins preds given (l[j]'h1) t) ∧ OneErr cs ins preds given (l[k]'hk) n
/-- How a round of All finds things. -/
structure KaSt (w wr : World) (cs : List KlD) (ins : List InD) (preds : List Pd) (given : List Tm) (l : List Pd) (k : Nat) (ts : List Tm) (v : Value) : Prop where
  own : wr.ownsRow (w.heap.size + 1) 40 6 v ts.length (ts.flatMap tmC.f)
  inn : ∀ t ∈ ts, TmIn wr t
  offr : ∀ t ∈ ts, ∀ c, v.ownBlock = some c → AwayM c t
  len : ts.length = k
  is : ∀ j (h1 : j < l.length) (h2 : j < ts.length), OneOk cs ins preds given (l[j]'h1) (ts[j]'h2).pure
  ext : Ext w wr
theorem KaSt.snoc {w wr w5 w6 : World} {cs : List KlD} {ins : List InD} {preds : List Pd} {given : List Tm} {l : List Pd} {k : Nat} {ts : List Tm} {v v6 : Value} {t : Tm} (h : KaSt w wr cs ins preds given l k ts v) (hk : k < l.length) (e : Ext wr w5) (ht : TmIn w5 t) (htr : ∀ c, v.ownBlock = some c → AwayM c t) (hq : OneOk cs ins preds given (l[k]'hk) t.pure)
    (hown : w6.ownsRow (w.heap.size + 1) 40 6 v6 (ts ++ [t]).length ((ts ++ [t]).flatMap tmC.f)) (hg : w5.grownBy w6 v.ownBlock) (hat : v6.ownBlock = v.ownBlock ∨ ∀ c, v6.ownBlock = some c → w5.heap.size ≤ c) :
    KaSt w w6 cs ins preds given l (k + 1) (ts ++ [t]) v6 := by
  have all : ∀ z ∈ ts ++ [t], TmIn w5 z ∧ (∀ c, v.ownBlock = some c → AwayM c z) := fun z hz => by
    rcases List.mem_append.1 hz with hz | hz
    · exact ⟨(h.inn z hz).ext e, h.offr z hz⟩
    · rw [List.mem_singleton] at hz; subst hz
      exact ⟨ht, htr⟩
  refine ⟨hown, fun z hz => (all z hz).1.grown hg (all z hz).2, fun z hz c hc => ?_, by simp [h.len], fun j h1 h2 => ?_, ?_⟩
  · rcases hat with h1 | h1
    · exact (all z hz).2 c (h1 ▸ hc)
    · exact awayM_new (all z hz).1 (h1 c hc)
  · by_cases hj : j < ts.length
    · rw [List.getElem_append_left hj]
      exact h.is j h1 hj
    · have hjk : j = k := by have := h.len; simp at h2; omega
      subst hjk
      have e2 : (ts ++ [t])[j]'h2 = t := by
        rw [List.getElem_append_right (by have := h.len; omega)]
        simp
      rw [e2]
      exact hq
  · exact (h.ext.trans e).grown hg (fun c hc => by have := (h.own.lt c hc).1; omega)

set_option maxRecDepth 10000 in
set_option maxHeartbeats 2000000 in
theorem e_all (x : EnD) (P : Option Addr) (pc : Nat) (preds : List Pd) (L : Option Addr) (lc : Nat) (given : List Tm) (Q : Option Addr) (qc : Nat) (l : List Pd) (hE : EnFew x preds) (a0 a1 : Addr) (w : World) (he : EnIn w x) (hP : PdsIn w P preds) (hL : TmsIn w L given) (hl : PdsIn w Q l) (hll : l.length ≤ 1000000) (hgl : HGe w) (hev : EvGl w a0 a1)
    (hfew : ∀ q ∈ l, ∀ p : Pf, byE x.classes x.insts preds q = .ok p.pure → p.size ≤ 4096 → EvFew x.classes x.insts preds given p) :
    Calls Tryz.prog 17 #[enV x, .slice P preds.length pc, .slice L given.length lc, .slice Q l.length qc] w fun e w' => (∃ v, e = .returned v ∧ AllOk w' x.classes x.insts preds given l v) ∧ Ext w w' := by
  obtain ⟨W, hW⟩ : ∃ W, W = w.alloc (.cells #[.slice x.D x.datas.length x.dc, .slice x.C x.classes.length x.cc, .slice x.I x.insts.length x.ic] 26) := ⟨_, rfl⟩
  have HW := hide hW.symm
  have X0 : Hid (Ext w W) := hide (by rw [hW]; exact (Ext.refl _).alloc _)
  have B1 : Hid (EnBox W w.heap.size x) := hide (by rw [hW]; exact EnBox.new w x)
  have HsW : Hid (W.heap.size = w.heap.size + 1) := hide (by rw [hW]; simp)
  have HQ := hide hl
  have HBy := hide (fun q w' (e : Ext w w') (h : PdIn w q) => hide (en_by x P pc preds hE q w' (he.ext e) (hP.ext e) (h.ext e)))
  have HTm := hide (fun p w' (e : Ext w w') (h : PfIn w' p) (hf : EvFew x.classes x.insts preds given p) => hide (e_term x P pc preds L lc given hE.pl p a0 a1 w' (he.ext e) (hP.ext e) (hL.ext e) h (HGe.ext hgl e) (hev.ext e) hf))
  have HFw := hide hfew
  have HLn := hide (fun c (hc : w.heap.size ≤ c) g hg => awayM_new (hL.kids g hg) hc)
  obtain ⟨j0, hj, hy0, hy1, hy2⟩ := info_parts tm_infoE
  clear hW he hP hL hl hgl hev hfew hE
  unfold enV at *
  go_enter Tryz.func17, Tryz.ntmps17
  go_upto_region 1 with fail
  rw [HW.out]
  clear HW
  go_wp2
  go_loopw [11, 19] (fun v i wr => ∃ (k : Nat) (ts : List Tm), k ≤ l.length ∧ i = .int .i64 k ∧ Hid (Ext W wr) ∧ Hid (KaSt w wr x.classes x.insts preds given l k ts v)) (fun _ i _ => l.length - (intOf i).toNat)
  case atStart => exact ⟨0, [], Nat.zero_le _, rfl, hide (Ext.refl _), hide ⟨World.ownsRow_nil _ _ _ _, by simp, by simp, rfl, fun j h1 h2 => absurd h2 (by simp), X0.out⟩⟩
  case round =>
    obtain ⟨k, ts, hkl, rfl, HX, HK⟩ := hrel
    have hwr := HK.out.ext.size
    by_cases hlt : k < l.length
    · have hlt' : (k : Int) < (l.length : Int) := by omega
      have hk0 : (0 : Int) ≤ (k : Int) := by omega
      have hqin := HQ.out.all _ (List.getElem_mem hlt)
      obtain ⟨bq, oq, rfl, hbq, q0, q1, q2, q3⟩ := (HQ.out.ext HK.out.ext).at_ hlt
      have HC := hide (fun w' (e : Ext w w') => (HBy.out (l[k]'hlt) w' e hqin).out)
      have Hdef := hide (fun v (n : Int) (hv : v = Value.tuple #[.slice none 0 0, .int .i64 (k : Nat), .int .i64 n]) (hn : n ≠ 0) (ho : OneErr x.classes x.insts preds given (l[k]'hlt) n) (w' : World) => (show AllOk w' x.classes x.insts preds given l v from .inr ⟨k, n, hv, hn, hlt, fun j h1 h2 => ⟨_, HK.out.is j h1 (by have := HK.out.len; omega)⟩, ho⟩))
      have Hsn := hide (fun w5 w6 v6 t e ht htr hq => HK.out.snoc (w5 := w5) (w6 := w6) (v6 := v6) (t := t) hlt e ht htr hq)
      have Hty := hide hqin.ty
      have HFq := hide (HFw.out _ (List.getElem_mem hlt))
      have Hone := hide (fun (n : Int) (h : byE x.classes x.insts preds (l[k]'hlt) = .error n) => (show OneErr x.classes x.insts preds given (l[k]'hlt) n from .inl h))
      generalize l[k]'hlt = q at *
      obtain ⟨n1, e0, e1, e2⟩ := And.intro (B1.out.ext HX.out).lt (B1.out.ext HX.out).cells
      unfold pdV at HC
      clear hqin
      go_wp2_with fail
      refine (HC.out _ (HK.out.ext.alloc (.cells #[encStr q.cls, encStr q.ty.con, .int .i64 q.ty.var, .slice q.ty.A q.ty.args.length q.ty.cap] 55))).mono ?_
      rintro e w6 ⟨⟨v, rfl, hby⟩, hx⟩
      have X6 : Hid (Ext wr w6) := hide (((Ext.refl wr).alloc (.cells #[encStr q.cls, encStr q.ty.con, .int .i64 q.ty.var, .slice q.ty.A q.ty.args.length q.ty.cap] 55)).trans hx)
      clear hx HC q0 q1 q2 q3 hbq n1 e0 e1 e2
      cases hb : byE x.classes x.insts preds q with
      | error n =>
        rw [hb] at hby
        obtain ⟨hv, hn⟩ := hby
        have HO := hide (Hone.out n hb)
        have hnb : (n != 0) = true := by simpa using hn
        clear Hsn HFq hb Hone
        subst hv
        unfold pfV
        go_wp2
        go_ret3
        exact ⟨⟨_, rfl, Hdef.out _ n rfl hn HO.out _⟩, HK.out.ext.trans (X6.out.trans (by repeat (first | exact Ext.refl _ | exact Ext.pre (by simp) | exact Ext.alloc (by assumption) _ | refine Ext.alloc ?_ _ |  refine Ext.more ?_ _ _ | refine Ext.drew ?_ | refine Ext.drewN ?_ _)))⟩
      | ok Q0 =>
        rw [hb] at hby
        obtain ⟨p, hv, hp1, hp2, hp3, hp4⟩ := hby
        subst hv
        have hsa : (wr.alloc (.cells #[encStr q.cls, encStr q.ty.con, .int .i64 q.ty.var, .slice q.ty.A q.ty.args.length q.ty.cap] 55)).heap.size = wr.heap.size + 1 := World.size_alloc _ _
        have HF := hide (HFq.out p (by rw [hb, hp2]) hp3)
        have HT2 := hide (fun w' (e : Ext w6 w') => (HTm.out p w' ((HK.out.ext.trans X6.out).trans e) (hp1.ext e) HF.out).out)
        have Hby := hide (by rw [hb, hp2] : byE x.classes x.insts preds q = .ok p.pure)
        obtain ⟨A6, c6, hv, -, -, -, -⟩ := RowOf.own tmC (l := ts) HK.out.own
        subst hv
        have HOw := hide HK.out.own
        have hr6 := X6.out.size
        have hkt := hide HK.out.len
        have Hpa : Hid (∀ c, (Value.slice A6 ts.length c6).ownBlock = some c → AwayF c p) := hide (fun c hc => by
          have := HOw.out.lt c hc
          exact hp4 c (by omega) (away_new Hty.out (by omega)))
        have XE := hide (HX.out.trans X6.out)
        have XW := hide (HK.out.ext.trans X6.out)
        obtain ⟨n1, e0, e1, e2⟩ := And.intro (B1.out.ext XE.out).lt (B1.out.ext XE.out).cells
        unfold pfV at *
        clear hp1 hp2 hp3 hp4 hsa HF HFq hb
        go_wp2_with fail
        refine (HT2.out _ ((Ext.refl w6).alloc (.cells #[.int .i64 p.kind, .int .i64 p.n, .slice p.T p.types.length p.tc, .slice p.A p.kids.length p.cap] 34))).mono ?_
        rintro e w8 ⟨⟨t, n, rfl, hw⟩, hx⟩
        have X8 : Hid (Ext w6 w8) := hide (((Ext.refl w6).alloc (.cells #[.int .i64 p.kind, .int .i64 p.n, .slice p.T p.types.length p.tc, .slice p.A p.kids.length p.cap] 34)).trans hx)
        have hsb : (w6.alloc (.cells #[.int .i64 p.kind, .int .i64 p.n, .slice p.T p.types.length p.tc, .slice p.A p.kids.length p.cap] 34)).heap.size = w6.heap.size + 1 := World.size_alloc _ _
        have Htr : Hid (∀ c, (Value.slice A6 ts.length c6).ownBlock = some c → AwayM c t) := hide (fun c hc => by
          have := HOw.out.lt c hc
          exact hw.away c (by omega) (HLn.out c (by omega)) (Hpa.out c hc))
        have Hw := hide hw
        have hr8 := X8.out.size
        clear hw hx HT2 e0 e1 e2 n1 hsb Hpa
        by_cases hn : n = 0
        · have Hq : Hid (OneOk x.classes x.insts preds given q t.pure) := hide (by
            rcases Hw.out.out with ⟨h, -⟩ | ⟨h1, h2, u, h3, ⟨-, h4, h5⟩ | ⟨h, -⟩⟩
            · omega
            · exact ⟨p, u, Hby.out, h1, h2, h3, h5, by rw [h4]⟩
            · omega)
          have Hin := hide (Hw.out.inn.ext (((Ext.refl w8).alloc (.cells #[.int .i64 t.kind, .int .i64 t.n, encStr t.name, .slice t.V t.vars.length t.vc, .slice t.T t.types.length t.tc, .slice t.A t.kids.length t.cap] 40)).alloc (.cells #[.int .i64 t.kind, .int .i64 t.n, encStr t.name, .slice t.V t.vars.length t.vc, .slice t.T t.types.length t.tc, .slice t.A t.kids.length t.cap] 40)))
          have O8 := hide (own_extB HOw.out (X6.out.trans X8.out))
          have E8 : Hid (Ext wr ((w8.alloc (.cells #[.int .i64 t.kind, .int .i64 t.n, encStr t.name, .slice t.V t.vars.length t.vc, .slice t.T t.types.length t.tc, .slice t.A t.kids.length t.cap] 40)).alloc (.cells #[.int .i64 t.kind, .int .i64 t.n, encStr t.name, .slice t.V t.vars.length t.vc, .slice t.T t.types.length t.tc, .slice t.A t.kids.length t.cap] 40))) := hide (((X6.out.trans X8.out).alloc _).alloc _)
          have h40 : ts.length ≤ 1000000 := by have := hkt.out; omega
          clear Hw Hdef Hone HOw Hty
          subst hn
          go_wp2_with (at_builtin; refine wpList_append_row _ rfl _ _ 28 rfl (w.heap.size + 1) 40 j0 _ 6 104 Tryz.underlying28 hj hy0 hy1 hy2 rfl (by decide) (.slice A6 ts.length c6) ts.length (ts.flatMap tmC.f) rfl ((O8.out.alloc _).alloc _) _ 1 1 [.int .i64 t.kind, .int .i64 t.n, encStr t.name, .slice t.V t.vars.length t.vc, .slice t.T t.types.length t.tc, .slice t.A t.kids.length t.cap] rfl ?c2 ?c3 ?c4 ?c5 ?c6 ?_)
          case c2 => exact Row.tm6e _ _ _ _ _ _ (at_newB _ _ _ (by simp))
          case c3 => first | exact ⟨rfl, rfl, rfl, rfl, rfl, rfl⟩ | (intro z hz; simp at hz; rcases hz with rfl | rfl | rfl | rfl | rfl | rfl <;> rfl)
          case c4 => unfold maxLen; omega
          case c5 => omega
          case c6 => simp; omega
          intro v4 w9 hown4 hg4 hat4
          have HK2 := hide (Hsn.out _ w9 v4 t E8.out Hin.out Htr.out Hq.out (by rw [flatMe_snoc, List.length_append]; exact hown4) hg4 (by
            rcases hat4 with e | e
            · exact .inl e
            · exact .inr (fun c hc => by rw [e] at hc; injection hc with hc; simp at hc ⊢; omega)))
          have X9 : Hid (Ext W w9) := hide ((HX.out.trans E8.out).grown hg4 (fun c hc => by
            have := O8.out.lt c hc
            have := HsW.out
            omega))
          clear hown4 hg4 hat4 O8 E8 Hin Hq Htr HK Hsn
          go_wp2
          go_roundw
          case rel => exact ⟨k + 1, ts ++ [t], hlt, by go_num, X9, HK2⟩
          case measure => simp [intOf]; omega
        · have hn2 : ((n : Int) != 0) = true := by simp; omega
          have HO : Hid (OneErr x.classes x.insts preds given q (n : Int)) := hide (.inr ⟨p, t, n, _, _, Hby.out, Hw.out, hn, rfl⟩)
          have hnz : (n : Int) ≠ 0 := by omega
          clear Hw Hsn Hone
          go_wp2
          go_ret3
          exact ⟨⟨_, rfl, Hdef.out _ (n : Int) rfl hnz HO.out _⟩, XW.out.trans (X8.out.trans (by repeat (first | exact Ext.refl _ | exact Ext.pre (by simp) | exact Ext.alloc (by assumption) _ | refine Ext.alloc ?_ _ |  refine Ext.more ?_ _ _ | refine Ext.drew ?_ | refine Ext.drewN ?_ _)))⟩
    · have hge : ¬ (k : Int) < (l.length : Int) := by omega
      obtain ⟨A6, c6, hv, l1, l2, hrow, -⟩ := RowOf.own tmC (l := ts) HK.out.own
      subst hv
      have HA : Hid (AllOk wr x.classes x.insts preds given l (.tuple #[.slice A6 ts.length c6, .int .i64 0, .int .i64 0])) := hide (.inl ⟨A6, c6, ts, rfl, l1, l2, ⟨hrow, HK.out.inn⟩, by have := HK.out.len; omega, fun j h1 h2 => HK.out.is j h1 h2⟩)
      have XK := hide HK.out.ext
      clear hrow HK
      go_wp2
      go_ret3
      exact ⟨⟨_, rfl, HA.out⟩, XK.out⟩

end Go.Proofs.YtcnkfkjgpdmebaaGreatDoor
