/- Contract: a reader's term, at the texts of chapter 21's example. (A program of ours has printed this.) -/
import Derived.Test.YtmjiljhcjfnfpaaGreatJS24
import Derived.Defers
import Derived.Recover
/- Contract: a reader's term, at the texts of chapter 21's example. (A program of ours has printed this.) -/
namespace Go.Proofs.YtmjiljhcjfnfpaaGreat
open Go.RowKit Go.Shelf Go.Lib

theorem cell3al {y : World} {B b i : Nat} (h : b ≠ B) (v0 v1 v2 : Value) (o : Obj) {u : Value} (k : y.cell? ⟨b, i, none⟩ = some u) : ((((y.setCell ⟨B, 0, none⟩ v0).setCell ⟨B, 1, none⟩ v1).setCell ⟨B, 2, none⟩ v2).alloc o).cell? ⟨b, i, none⟩ = some u := by
  refine ((Ext.refl _).alloc o).cell ?_
  refine (World.cell?_of_block (a := ⟨b, i, none⟩) ?_).trans k
  show (((y.setCell ⟨B, 0, none⟩ v0).setCell ⟨B, 1, none⟩ v1).setCell ⟨B, 2, none⟩ v2).heap[b]? = y.heap[b]?
  rw [Below.heap_setCell _ _ _ _ h, Below.heap_setCell _ _ _ _ h, Below.heap_setCell _ _ _ _ h]
/-- The deferred call: one level less. -/
theorem t_term1 (p b : Nat) (s : Str) (lv : Int) (bad : Bool) (u : FrameMode) (w : World) (hp : w.heap[p]? = some (.cells #[.pointer (some ⟨b, 0, none⟩)] 99 (0, 0))) (hr : RdAt w b s lv bad) (h0 : -1000 ≤ lv) (h1 : lv ≤ 1000) :
    CallsD Tryz.prog 103 #[.pointer (some ⟨p, 0, none⟩)] u w fun e u' w' => u' = u ∧ (e = .returned (.tuple #[]) ∧ w' = w.setCell ⟨b, 1, none⟩ (.int .i64 (lv - 1))) := by
  have p0 : w.cell? ⟨p, 0, none⟩ = some (.pointer (some ⟨b, 0, none⟩)) := bytes_block hp 0
  have lp := lt_of_obj hp
  obtain ⟨c0, c1, c2, f0, f1, f2⟩ := hr.cells
  have lb := hr.lt
  have hw : IntKind.i64.wrap (lv - 1) = lv - 1 := IntWalk.i64_in _ (by omega)
  go_enter_d Tryz.func103, Tryz.ntmps103
  go_wp2
  go_end0
  exact ⟨rfl, rfl⟩

set_option maxRecDepth 10000 in
set_option maxHeartbeats 4000000 in
theorem t_term_h (b : Nat) (lv : Int) (w : World) (h : RdAt w b [104] lv false) (hl0 : 0 ≤ lv) (hl1 : lv ≤ 100) :
    Calls Tryz.prog 67 #[.pointer (some ⟨b, 0, none⟩)] w fun e w' => e = .returned (.agg #[.string ⟨#[]⟩, .int .i64 7, .slice none 0 0]) ∧ RdAt w' b [] lv false ∧ w.grownBy w' (some b) := by
  obtain ⟨W, hW⟩ : ∃ W, W = ((w.setCell ⟨b, 1, none⟩ (.int .i64 (lv + 1))).alloc (.cells #[.pointer (some ⟨b, 0, none⟩)] 99)).alloc (.cells #[.string ⟨#[]⟩, .int .i64 0, .slice none 0 0] 25) := ⟨_, rfl⟩
  have HW := hide hW.symm
  have hbw := h.lt
  have hsz : (w.setCell ⟨b, 1, none⟩ (.int .i64 (lv + 1))).heap.size = w.heap.size := by simp [World.setCell]
  have E0 : Hid (Ext (w.setCell ⟨b, 1, none⟩ (.int .i64 (lv + 1))) W) := hide (by rw [hW]; exact ((Ext.refl _).alloc _).alloc _)
  have G0 : Hid (w.grownBy W (some b)) := hide (grown_trans (grown_cell _ _ _ _) (ext_grown E0.out _))
  have R0 : Hid (RdAt W b [104] (lv + 1) false) := hide ((h.set1 (lv + 1)).ext E0.out)
  have P0 : Hid (W.heap[w.heap.size]? = some (.cells #[.pointer (some ⟨b, 0, none⟩)] 99 (0, 0))) := hide (by
    rw [hW]
    exact (((Ext.refl _).alloc _).heap (by rw [World.size_alloc, hsz]; omega)).trans (at_newB _ _ _ hsz.symm))
  have Z0 : Hid (W.heap[w.heap.size + 1]? = some (.cells #[.string ⟨#[]⟩, .int .i64 0, .slice none 0 0] 25 (0, 0))) := hide (by
    rw [hW]
    exact at_newB _ _ _ (by rw [World.size_alloc, hsz]))
  have hlv : IntKind.i64.wrap (lv + 1) = lv + 1 := IntWalk.i64_in _ (by omega)
  have hlv2 : ¬ lv + 1 > 200 := by omega
  have hlv3 : ¬ (200 : Int) < lv + 1 := by omega
  obtain ⟨c0, c1, c2, f0, f1, f2⟩ := h.cells
  have HA := hide (t_atom_h b (lv + 1) W R0.out)
  have HP := hide (fun w' => hide (s_prefixG [] [32, 45, 62, 32] w' (by decide) (by decide)))
  rw [show preG [32, 45, 62, 32] [] = false by kernel_rfl] at HP
  have HT := hide (fun (p : Str) (hp : preG p [] = false) (hl : p.length ≤ 9223372036854775807) w' (hr : RdAt w' b [] (lv + 1) false) => hide (show Calls Tryz.prog 106 #[.pointer (some ⟨b, 0, none⟩), encStr p] w' fun e w'' => e = .returned (.bool false) ∧ RdAt w'' b [] (lv + 1) false ∧ w'.grownBy w'' (some b) by
    have := t_take b [] p (lv + 1) false w' hr (by decide) hl
    rw [hp] at this
    exact this))
  have HT1 := hide (HT.out [32] (by kernel_rfl) (by decide))
  have HT2 := hide (HT.out [32, 45, 62, 32] (by kernel_rfl) (by decide))
  have hmf : ∀ (fn : Fn) (first cap : Array Value) (w : World), (Instr.makeFunc fn first cap).run Tryz.prog w = .ok (.func fn first cap) w := fun _ _ _ _ => rfl
  clear hW h HT
  unfold encStr at *
  go_enter_defers Tryz.func67, Tryz.ntmps67
  go_upto_region 2 with fail
  rw [HW.out]
  clear HW c0 c1 c2 f0 f1 f2 hsz
  obtain ⟨c0, c1, c2, f0, f1, f2⟩ := R0.out.cells
  have lb := R0.out.lt
  have p0 : W.cell? ⟨w.heap.size, 0, none⟩ = some (.pointer (some ⟨b, 0, none⟩)) := bytes_block P0.out 0
  have lp := lt_of_obj P0.out
  go_upto_region 7 with fail
  go_wp2_with fail
  refine HA.out.mono ?_
  rintro e w2 ⟨rfl, hr, hg⟩
  have R2 := hide hr
  have P2 := hide ((hg.block _ lp (fun e => by injection e with e; omega)).trans P0.out)
  have Z2 := hide ((hg.block _ (lt_of_obj Z0.out) (fun e => by injection e with e; omega)).trans Z0.out)
  have G2 := hide (grown_trans G0.out hg)
  clear hr hg HA c0 c1 c2 f0 f1 f2 lb p0 lp
  have hb2 := R2.out.lt
  have hp2 := lt_of_obj P2.out
  have hz2 := lt_of_obj Z2.out
  have XA := hide ((Ext.refl w2).alloc (.cells #[.string ⟨#[]⟩, .int .i64 7, .slice none 0 0] 25))
  go_wp2
  go_loopw [27] (fun _ wr => Hid (RdAt wr b [] (lv + 1) false) ∧ Hid (wr.heap[w.heap.size]? = some (.cells #[.pointer (some ⟨b, 0, none⟩)] 99 (0, 0))) ∧ Hid (wr.heap[w.heap.size + 1]? = some (.cells #[.string ⟨#[]⟩, .int .i64 0, .slice none 0 0] 25 (0, 0))) ∧ Hid (wr.heap[w2.heap.size]? = some (.cells #[.string ⟨#[]⟩, .int .i64 7, .slice none 0 0] 25 (0, 0))) ∧ Hid (w.grownBy wr (some b))) (fun _ _ => 0)
  case atStart => exact ⟨hide (R2.out.ext XA.out), hide ((XA.out.heap hp2).trans P2.out), hide ((XA.out.heap hz2).trans Z2.out), hide (at_newB _ _ _ rfl), hide (grown_trans G2.out (ext_grown XA.out _))⟩
  case round =>
    obtain ⟨R3, P3, Z3, T3, G3⟩ := hrel
    obtain ⟨c0, c1, c2, f0, f1, f2⟩ := R3.out.cells
    have lb := R3.out.lt
    have p0 : wr.cell? ⟨w.heap.size, 0, none⟩ = some (.pointer (some ⟨b, 0, none⟩)) := bytes_block P3.out 0
    have lp := lt_of_obj P3.out
    unfold encStr at c0
    go_wp2_with fail
    refine (HP.out _).out.mono ?_
    rintro e wr ⟨rfl, rfl⟩
    go_wp2_with fail
    refine (HT1.out _ R3.out).out.mono ?_
    rintro e w4 ⟨rfl, hr, hg⟩
    have R4 := hide hr
    have P4 := hide ((hg.block _ (lt_of_obj P3.out) (fun e => by injection e with e; omega)).trans P3.out)
    have Z4 := hide ((hg.block _ (lt_of_obj Z3.out) (fun e => by injection e with e; omega)).trans Z3.out)
    have T4 := hide ((hg.block _ (lt_of_obj T3.out) (fun e => by injection e with e; omega)).trans T3.out)
    have G4 := hide (grown_trans G3.out hg)
    clear hr hg c0 c1 c2 f0 f1 f2 lb p0 lp
    obtain ⟨c0, c1, c2, f0, f1, f2⟩ := R4.out.cells
    have lb := R4.out.lt
    have p0 : w4.cell? ⟨w.heap.size, 0, none⟩ = some (.pointer (some ⟨b, 0, none⟩)) := bytes_block P4.out 0
    have lp := lt_of_obj P4.out
    go_wp2_with fail
    refine (HT2.out _ R4.out).out.mono ?_
    rintro e w5 ⟨rfl, hr, hg⟩
    have R5 := hide hr
    have P5 := hide ((hg.block _ (lt_of_obj P4.out) (fun e => by injection e with e; omega)).trans P4.out)
    have Z5 := hide ((hg.block _ (lt_of_obj Z4.out) (fun e => by injection e with e; omega)).trans Z4.out)
    have T5 := hide ((hg.block _ (lt_of_obj T4.out) (fun e => by injection e with e; omega)).trans T4.out)
    have G5 := hide (grown_trans G4.out hg)
    clear hr hg c0 c1 c2 f0 f1 f2 lb p0 lp
    obtain ⟨c0, c1, c2, f0, f1, f2⟩ := R5.out.cells
    have lb := R5.out.lt
    have p0 : w5.cell? ⟨w.heap.size, 0, none⟩ = some (.pointer (some ⟨b, 0, none⟩)) := bytes_block P5.out 0
    have lp := lt_of_obj P5.out
    have k0 : w5.cell? ⟨w2.heap.size, 0, none⟩ = some (.string ⟨#[]⟩) := bytes_block T5.out 0
    have k1 : w5.cell? ⟨w2.heap.size, 1, none⟩ = some (.int .i64 7) := bytes_block T5.out 1
    have k2 : w5.cell? ⟨w2.heap.size, 2, none⟩ = some (.slice none 0 0) := bytes_block T5.out 2
    have lk := lt_of_obj T5.out
    have y0 : w5.cell? ⟨w.heap.size + 1, 0, none⟩ = some (.string ⟨#[]⟩) := bytes_block Z5.out 0
    have y1 : w5.cell? ⟨w.heap.size + 1, 1, none⟩ = some (.int .i64 0) := bytes_block Z5.out 1
    have y2 : w5.cell? ⟨w.heap.size + 1, 2, none⟩ = some (.slice none 0 0) := bytes_block Z5.out 2
    have z0 := free_block Z5.out 0
    have z1 := free_block Z5.out 1
    have z2 := free_block Z5.out 2
    have ly := lt_of_obj Z5.out
    obtain ⟨WD, hWD⟩ : ∃ WD, WD = ((w5.setCell ⟨w.heap.size + 1, 0, none⟩ (.string ⟨#[]⟩)).setCell ⟨w.heap.size + 1, 1, none⟩ (.int .i64 7)).setCell ⟨w.heap.size + 1, 2, none⟩ (.slice none 0 0) := ⟨_, rfl⟩
    have HWD := hide hWD.symm
    have hgD : w5.grownBy WD (some (w.heap.size + 1)) := by rw [hWD]; exact put3_grown _ _ _ _ _ _ _ _
    have RD : Hid (RdAt WD b [] (lv + 1) false) := hide ((hgD.block b R5.out.lt (fun e => by injection e with e; omega)).trans R5.out)
    have PD : Hid (WD.heap[w.heap.size]? = some (.cells #[.pointer (some ⟨b, 0, none⟩)] 99 (0, 0))) := hide ((hgD.block _ (lt_of_obj P5.out) (fun e => by injection e with e; omega)).trans P5.out)
    have ZD : Hid (WD.heap[w.heap.size + 1]? = some (.cells #[.string ⟨#[]⟩, .int .i64 7, .slice none 0 0] 25 (0, 0))) := hide (by rw [hWD]; exact blk_setCell (blk_setCell (blk_setCell Z5.out 0 _) 1 _) 2 _)
    have GD : Hid (w.grownBy WD (some b)) := hide (G5.out.andThen hgD (fun j e => by injection e with e; left; omega))
    clear hWD hgD
    go_wp2
    rw [HWD.out]
    refine leaves_cons (f := 103) (args := #[.pointer (some ⟨w.heap.size, 0, none⟩)]) (by simp) (by simp [go_sem]) ?_
    refine (t_term1 w.heap.size b [] (lv + 1) false .returning _ PD.out RD.out (by omega) (by omega)).mono ?_
    rintro e u' w'' ⟨rfl, rfl, rfl⟩
    have hne : ¬ w.heap.size + 1 = b := by omega
    have y0 := bytes_block ZD.out 0
    have y1 := bytes_block ZD.out 1
    have y2 := bytes_block ZD.out 2
    simp only [List.getElem?_toArray, List.getElem?_cons_zero, List.getElem?_cons_succ] at y0 y1 y2
    refine ⟨.agg #[.string ⟨#[]⟩, .int .i64 7, .slice none 0 0], ?_, rfl, ?_, ?_⟩
    · simp [results, Tryz.f67, go_sem, y0, y1, y2]
    · have := RD.out.set1 (lv + 1 - 1)
      rw [show lv + 1 - 1 = lv by omega] at this ⊢
      exact this
    · exact grown_trans GD.out (grown_cell _ _ _ _)

set_option maxRecDepth 10000 in
set_option maxHeartbeats 4000000 in
theorem t_term_f (b : Nat) (lv : Int) (w : World) (h : RdAt w b [102] lv false) (hl0 : 0 ≤ lv) (hl1 : lv ≤ 100) :
    Calls Tryz.prog 67 #[.pointer (some ⟨b, 0, none⟩)] w fun e w' => e = .returned (.agg #[.string ⟨#[]⟩, .int .i64 5, .slice none 0 0]) ∧ RdAt w' b [] lv false ∧ w.grownBy w' (some b) := by
  obtain ⟨W, hW⟩ : ∃ W, W = ((w.setCell ⟨b, 1, none⟩ (.int .i64 (lv + 1))).alloc (.cells #[.pointer (some ⟨b, 0, none⟩)] 99)).alloc (.cells #[.string ⟨#[]⟩, .int .i64 0, .slice none 0 0] 25) := ⟨_, rfl⟩
  have HW := hide hW.symm
  have hbw := h.lt
  have hsz : (w.setCell ⟨b, 1, none⟩ (.int .i64 (lv + 1))).heap.size = w.heap.size := by simp [World.setCell]
  have E0 : Hid (Ext (w.setCell ⟨b, 1, none⟩ (.int .i64 (lv + 1))) W) := hide (by rw [hW]; exact ((Ext.refl _).alloc _).alloc _)
  have G0 : Hid (w.grownBy W (some b)) := hide (grown_trans (grown_cell _ _ _ _) (ext_grown E0.out _))
  have R0 : Hid (RdAt W b [102] (lv + 1) false) := hide ((h.set1 (lv + 1)).ext E0.out)
  have P0 : Hid (W.heap[w.heap.size]? = some (.cells #[.pointer (some ⟨b, 0, none⟩)] 99 (0, 0))) := hide (by
    rw [hW]
    exact (((Ext.refl _).alloc _).heap (by rw [World.size_alloc, hsz]; omega)).trans (at_newB _ _ _ hsz.symm))
  have Z0 : Hid (W.heap[w.heap.size + 1]? = some (.cells #[.string ⟨#[]⟩, .int .i64 0, .slice none 0 0] 25 (0, 0))) := hide (by
    rw [hW]
    exact at_newB _ _ _ (by rw [World.size_alloc, hsz]))
  have hlv : IntKind.i64.wrap (lv + 1) = lv + 1 := IntWalk.i64_in _ (by omega)
  have hlv2 : ¬ lv + 1 > 200 := by omega
  have hlv3 : ¬ (200 : Int) < lv + 1 := by omega
  obtain ⟨c0, c1, c2, f0, f1, f2⟩ := h.cells
  have HA := hide (t_atom_f b (lv + 1) W R0.out)
  have HP := hide (fun w' => hide (s_prefixG [] [32, 45, 62, 32] w' (by decide) (by decide)))
  rw [show preG [32, 45, 62, 32] [] = false by kernel_rfl] at HP
  have HT := hide (fun (p : Str) (hp : preG p [] = false) (hl : p.length ≤ 9223372036854775807) w' (hr : RdAt w' b [] (lv + 1) false) => hide (show Calls Tryz.prog 106 #[.pointer (some ⟨b, 0, none⟩), encStr p] w' fun e w'' => e = .returned (.bool false) ∧ RdAt w'' b [] (lv + 1) false ∧ w'.grownBy w'' (some b) by
    have := t_take b [] p (lv + 1) false w' hr (by decide) hl
    rw [hp] at this
    exact this))
  have HT1 := hide (HT.out [32] (by kernel_rfl) (by decide))
  have HT2 := hide (HT.out [32, 45, 62, 32] (by kernel_rfl) (by decide))
  have hmf : ∀ (fn : Fn) (first cap : Array Value) (w : World), (Instr.makeFunc fn first cap).run Tryz.prog w = .ok (.func fn first cap) w := fun _ _ _ _ => rfl
  clear hW h HT
  unfold encStr at *
  go_enter_defers Tryz.func67, Tryz.ntmps67
  go_upto_region 2 with fail
  rw [HW.out]
  clear HW c0 c1 c2 f0 f1 f2 hsz
  obtain ⟨c0, c1, c2, f0, f1, f2⟩ := R0.out.cells
  have lb := R0.out.lt
  have p0 : W.cell? ⟨w.heap.size, 0, none⟩ = some (.pointer (some ⟨b, 0, none⟩)) := bytes_block P0.out 0
  have lp := lt_of_obj P0.out
  go_upto_region 7 with fail
  go_wp2_with fail
  refine HA.out.mono ?_
  rintro e w2 ⟨rfl, hr, hg⟩
  have R2 := hide hr
  have P2 := hide ((hg.block _ lp (fun e => by injection e with e; omega)).trans P0.out)
  have Z2 := hide ((hg.block _ (lt_of_obj Z0.out) (fun e => by injection e with e; omega)).trans Z0.out)
  have G2 := hide (grown_trans G0.out hg)
  clear hr hg HA c0 c1 c2 f0 f1 f2 lb p0 lp
  have hb2 := R2.out.lt
  have hp2 := lt_of_obj P2.out
  have hz2 := lt_of_obj Z2.out
  have XA := hide ((Ext.refl w2).alloc (.cells #[.string ⟨#[]⟩, .int .i64 5, .slice none 0 0] 25))
  go_wp2
  go_loopw [27] (fun _ wr => Hid (RdAt wr b [] (lv + 1) false) ∧ Hid (wr.heap[w.heap.size]? = some (.cells #[.pointer (some ⟨b, 0, none⟩)] 99 (0, 0))) ∧ Hid (wr.heap[w.heap.size + 1]? = some (.cells #[.string ⟨#[]⟩, .int .i64 0, .slice none 0 0] 25 (0, 0))) ∧ Hid (wr.heap[w2.heap.size]? = some (.cells #[.string ⟨#[]⟩, .int .i64 5, .slice none 0 0] 25 (0, 0))) ∧ Hid (w.grownBy wr (some b))) (fun _ _ => 0)
  case atStart => exact ⟨hide (R2.out.ext XA.out), hide ((XA.out.heap hp2).trans P2.out), hide ((XA.out.heap hz2).trans Z2.out), hide (at_newB _ _ _ rfl), hide (grown_trans G2.out (ext_grown XA.out _))⟩
  case round =>
    obtain ⟨R3, P3, Z3, T3, G3⟩ := hrel
    obtain ⟨c0, c1, c2, f0, f1, f2⟩ := R3.out.cells
    have lb := R3.out.lt
    have p0 : wr.cell? ⟨w.heap.size, 0, none⟩ = some (.pointer (some ⟨b, 0, none⟩)) := bytes_block P3.out 0
    have lp := lt_of_obj P3.out
    unfold encStr at c0
    go_wp2_with fail
    refine (HP.out _).out.mono ?_
    rintro e wr ⟨rfl, rfl⟩
    go_wp2_with fail
    refine (HT1.out _ R3.out).out.mono ?_
    rintro e w4 ⟨rfl, hr, hg⟩
    have R4 := hide hr
    have P4 := hide ((hg.block _ (lt_of_obj P3.out) (fun e => by injection e with e; omega)).trans P3.out)
    have Z4 := hide ((hg.block _ (lt_of_obj Z3.out) (fun e => by injection e with e; omega)).trans Z3.out)
    have T4 := hide ((hg.block _ (lt_of_obj T3.out) (fun e => by injection e with e; omega)).trans T3.out)
    have G4 := hide (grown_trans G3.out hg)
    clear hr hg c0 c1 c2 f0 f1 f2 lb p0 lp
    obtain ⟨c0, c1, c2, f0, f1, f2⟩ := R4.out.cells
    have lb := R4.out.lt
    have p0 : w4.cell? ⟨w.heap.size, 0, none⟩ = some (.pointer (some ⟨b, 0, none⟩)) := bytes_block P4.out 0
    have lp := lt_of_obj P4.out
    go_wp2_with fail
    refine (HT2.out _ R4.out).out.mono ?_
    rintro e w5 ⟨rfl, hr, hg⟩
    have R5 := hide hr
    have P5 := hide ((hg.block _ (lt_of_obj P4.out) (fun e => by injection e with e; omega)).trans P4.out)
    have Z5 := hide ((hg.block _ (lt_of_obj Z4.out) (fun e => by injection e with e; omega)).trans Z4.out)
    have T5 := hide ((hg.block _ (lt_of_obj T4.out) (fun e => by injection e with e; omega)).trans T4.out)
    have G5 := hide (grown_trans G4.out hg)
    clear hr hg c0 c1 c2 f0 f1 f2 lb p0 lp
    obtain ⟨c0, c1, c2, f0, f1, f2⟩ := R5.out.cells
    have lb := R5.out.lt
    have p0 : w5.cell? ⟨w.heap.size, 0, none⟩ = some (.pointer (some ⟨b, 0, none⟩)) := bytes_block P5.out 0
    have lp := lt_of_obj P5.out
    have k0 : w5.cell? ⟨w2.heap.size, 0, none⟩ = some (.string ⟨#[]⟩) := bytes_block T5.out 0
    have k1 : w5.cell? ⟨w2.heap.size, 1, none⟩ = some (.int .i64 5) := bytes_block T5.out 1
    have k2 : w5.cell? ⟨w2.heap.size, 2, none⟩ = some (.slice none 0 0) := bytes_block T5.out 2
    have lk := lt_of_obj T5.out
    have y0 : w5.cell? ⟨w.heap.size + 1, 0, none⟩ = some (.string ⟨#[]⟩) := bytes_block Z5.out 0
    have y1 : w5.cell? ⟨w.heap.size + 1, 1, none⟩ = some (.int .i64 0) := bytes_block Z5.out 1
    have y2 : w5.cell? ⟨w.heap.size + 1, 2, none⟩ = some (.slice none 0 0) := bytes_block Z5.out 2
    have z0 := free_block Z5.out 0
    have z1 := free_block Z5.out 1
    have z2 := free_block Z5.out 2
    have ly := lt_of_obj Z5.out
    obtain ⟨WD, hWD⟩ : ∃ WD, WD = ((w5.setCell ⟨w.heap.size + 1, 0, none⟩ (.string ⟨#[]⟩)).setCell ⟨w.heap.size + 1, 1, none⟩ (.int .i64 5)).setCell ⟨w.heap.size + 1, 2, none⟩ (.slice none 0 0) := ⟨_, rfl⟩
    have HWD := hide hWD.symm
    have hgD : w5.grownBy WD (some (w.heap.size + 1)) := by rw [hWD]; exact put3_grown _ _ _ _ _ _ _ _
    have RD : Hid (RdAt WD b [] (lv + 1) false) := hide ((hgD.block b R5.out.lt (fun e => by injection e with e; omega)).trans R5.out)
    have PD : Hid (WD.heap[w.heap.size]? = some (.cells #[.pointer (some ⟨b, 0, none⟩)] 99 (0, 0))) := hide ((hgD.block _ (lt_of_obj P5.out) (fun e => by injection e with e; omega)).trans P5.out)
    have ZD : Hid (WD.heap[w.heap.size + 1]? = some (.cells #[.string ⟨#[]⟩, .int .i64 5, .slice none 0 0] 25 (0, 0))) := hide (by rw [hWD]; exact blk_setCell (blk_setCell (blk_setCell Z5.out 0 _) 1 _) 2 _)
    have GD : Hid (w.grownBy WD (some b)) := hide (G5.out.andThen hgD (fun j e => by injection e with e; left; omega))
    clear hWD hgD
    go_wp2
    rw [HWD.out]
    refine leaves_cons (f := 103) (args := #[.pointer (some ⟨w.heap.size, 0, none⟩)]) (by simp) (by simp [go_sem]) ?_
    refine (t_term1 w.heap.size b [] (lv + 1) false .returning _ PD.out RD.out (by omega) (by omega)).mono ?_
    rintro e u' w'' ⟨rfl, rfl, rfl⟩
    have hne : ¬ w.heap.size + 1 = b := by omega
    have y0 := bytes_block ZD.out 0
    have y1 := bytes_block ZD.out 1
    have y2 := bytes_block ZD.out 2
    simp only [List.getElem?_toArray, List.getElem?_cons_zero, List.getElem?_cons_succ] at y0 y1 y2
    refine ⟨.agg #[.string ⟨#[]⟩, .int .i64 5, .slice none 0 0], ?_, rfl, ?_, ?_⟩
    · simp [results, Tryz.f67, go_sem, y0, y1, y2]
    · have := RD.out.set1 (lv + 1 - 1)
      rw [show lv + 1 - 1 = lv by omega] at this ⊢
      exact this
    · exact grown_trans GD.out (grown_cell _ _ _ _)

set_option maxRecDepth 10000 in
set_option maxHeartbeats 8000000 in
theorem t_term_hf (b : Nat) (lv : Int) (w : World) (h : RdAt w b [104, 32, 45, 62, 32, 102] lv false) (hl0 : 0 ≤ lv) (hl1 : lv ≤ 90) :
    Calls Tryz.prog 67 #[.pointer (some ⟨b, 0, none⟩)] w fun e w' => (∃ g, e = .returned (.agg #[.string ⟨#[45, 62]⟩, .int .i64 0, .slice (some ⟨g, 0, none⟩) 2 2]) ∧ w.heap.size ≤ g ∧ w'.heap[g]? = some (.cells #[.string ⟨#[]⟩, .int .i64 7, .slice none 0 0, .string ⟨#[]⟩, .int .i64 5, .slice none 0 0] 25 (0, 0))) ∧ RdAt w' b [] lv false ∧ w.grownBy w' (some b) := by
  obtain ⟨W, hW⟩ : ∃ W, W = ((w.setCell ⟨b, 1, none⟩ (.int .i64 (lv + 1))).alloc (.cells #[.pointer (some ⟨b, 0, none⟩)] 99)).alloc (.cells #[.string ⟨#[]⟩, .int .i64 0, .slice none 0 0] 25) := ⟨_, rfl⟩
  have HW := hide hW.symm
  have hbw := h.lt
  have hsz : (w.setCell ⟨b, 1, none⟩ (.int .i64 (lv + 1))).heap.size = w.heap.size := by simp [World.setCell]
  have E0 : Hid (Ext (w.setCell ⟨b, 1, none⟩ (.int .i64 (lv + 1))) W) := hide (by rw [hW]; exact ((Ext.refl _).alloc _).alloc _)
  have G0 : Hid (w.grownBy W (some b)) := hide (grown_trans (grown_cell _ _ _ _) (ext_grown E0.out _))
  have R0 : Hid (RdAt W b [104, 32, 45, 62, 32, 102] (lv + 1) false) := hide ((h.set1 (lv + 1)).ext E0.out)
  have P0 : Hid (W.heap[w.heap.size]? = some (.cells #[.pointer (some ⟨b, 0, none⟩)] 99 (0, 0))) := hide (by
    rw [hW]
    exact (((Ext.refl _).alloc _).heap (by rw [World.size_alloc, hsz]; omega)).trans (at_newB _ _ _ hsz.symm))
  have Z0 : Hid (W.heap[w.heap.size + 1]? = some (.cells #[.string ⟨#[]⟩, .int .i64 0, .slice none 0 0] 25 (0, 0))) := hide (by
    rw [hW]
    exact at_newB _ _ _ (by rw [World.size_alloc, hsz]))
  have hlv : IntKind.i64.wrap (lv + 1) = lv + 1 := IntWalk.i64_in _ (by omega)
  have hlv2 : ¬ lv + 1 > 200 := by omega
  have hlv3 : ¬ (200 : Int) < lv + 1 := by omega
  obtain ⟨c0, c1, c2, f0, f1, f2⟩ := h.cells
  have HA := hide (t_atom_hf b (lv + 1) W R0.out)
  have HP := hide (fun w' => hide (s_prefixG [32, 45, 62, 32, 102] [32, 45, 62, 32] w' (by decide) (by decide)))
  rw [show preG [32, 45, 62, 32] [32, 45, 62, 32, 102] = true by kernel_rfl] at HP
  have HT := hide (fun w' (hr : RdAt w' b [32, 45, 62, 32, 102] (lv + 1) false) => hide (show Calls Tryz.prog 106 #[.pointer (some ⟨b, 0, none⟩), encStr [32, 45, 62, 32]] w' fun e w'' => e = .returned (.bool true) ∧ RdAt w'' b [102] (lv + 1) false ∧ w'.grownBy w'' (some b) by
    have := t_take b [32, 45, 62, 32, 102] [32, 45, 62, 32] (lv + 1) false w' hr (by decide) (by decide)
    rw [show preG [32, 45, 62, 32] [32, 45, 62, 32, 102] = true by kernel_rfl] at this
    exact this))
  have HTm := hide (fun w' (hr : RdAt w' b [102] (lv + 1) false) => hide (t_term_f b (lv + 1) w' hr (by omega) (by omega)))
  have hmf : ∀ (fn : Fn) (first cap : Array Value) (w : World), (Instr.makeFunc fn first cap).run Tryz.prog w = .ok (.func fn first cap) w := fun _ _ _ _ => rfl
  clear hW h
  unfold encStr at *
  go_enter_defers Tryz.func67, Tryz.ntmps67
  go_upto_region 2 with fail
  rw [HW.out]
  clear HW c0 c1 c2 f0 f1 f2 hsz
  obtain ⟨c0, c1, c2, f0, f1, f2⟩ := R0.out.cells
  have lb := R0.out.lt
  have p0 : W.cell? ⟨w.heap.size, 0, none⟩ = some (.pointer (some ⟨b, 0, none⟩)) := bytes_block P0.out 0
  have lp := lt_of_obj P0.out
  go_upto_region 7 with fail
  go_wp2_with fail
  refine HA.out.mono ?_
  rintro e w2 ⟨rfl, hr, hg⟩
  have R2 := hide hr
  have P2 := hide ((hg.block _ lp (fun e => by injection e with e; omega)).trans P0.out)
  have Z2 := hide ((hg.block _ (lt_of_obj Z0.out) (fun e => by injection e with e; omega)).trans Z0.out)
  have G2 := hide (grown_trans G0.out hg)
  clear hr hg HA c0 c1 c2 f0 f1 f2 lb p0 lp
  have hb2 := R2.out.lt
  have hp2 := lt_of_obj P2.out
  have hz2 := lt_of_obj Z2.out
  have XA := hide ((Ext.refl w2).alloc (.cells #[.string ⟨#[]⟩, .int .i64 7, .slice none 0 0] 25))
  go_wp2
  go_loopw [27] (fun _ wr => Hid (RdAt wr b [32, 45, 62, 32, 102] (lv + 1) false) ∧ Hid (wr.heap[w.heap.size]? = some (.cells #[.pointer (some ⟨b, 0, none⟩)] 99 (0, 0))) ∧ Hid (wr.heap[w.heap.size + 1]? = some (.cells #[.string ⟨#[]⟩, .int .i64 0, .slice none 0 0] 25 (0, 0))) ∧ Hid (wr.heap[w2.heap.size]? = some (.cells #[.string ⟨#[]⟩, .int .i64 7, .slice none 0 0] 25 (0, 0))) ∧ Hid (w.grownBy wr (some b))) (fun _ _ => 0)
  case atStart => exact ⟨hide (R2.out.ext XA.out), hide ((XA.out.heap hp2).trans P2.out), hide ((XA.out.heap hz2).trans Z2.out), hide (at_newB _ _ _ rfl), hide (grown_trans G2.out (ext_grown XA.out _))⟩
  case round =>
    obtain ⟨R3, P3, Z3, T3, G3⟩ := hrel
    obtain ⟨c0, c1, c2, f0, f1, f2⟩ := R3.out.cells
    have lb := R3.out.lt
    have p0 : wr.cell? ⟨w.heap.size, 0, none⟩ = some (.pointer (some ⟨b, 0, none⟩)) := bytes_block P3.out 0
    have lp := lt_of_obj P3.out
    unfold encStr at c0
    go_wp2_with fail
    refine (HP.out _).out.mono ?_
    rintro e wr ⟨rfl, rfl⟩
    go_wp2_with fail
    refine (HT.out _ R3.out).out.mono ?_
    rintro e w4 ⟨rfl, hr, hg⟩
    have R4 := hide hr
    have P4 := hide ((hg.block _ (lt_of_obj P3.out) (fun e => by injection e with e; omega)).trans P3.out)
    have Z4 := hide ((hg.block _ (lt_of_obj Z3.out) (fun e => by injection e with e; omega)).trans Z3.out)
    have T4 := hide ((hg.block _ (lt_of_obj T3.out) (fun e => by injection e with e; omega)).trans T3.out)
    have G4 := hide (grown_trans G3.out hg)
    clear hr hg c0 c1 c2 f0 f1 f2 lb p0 lp
    obtain ⟨c0, c1, c2, f0, f1, f2⟩ := R4.out.cells
    have lb := R4.out.lt
    have p0 : w4.cell? ⟨w.heap.size, 0, none⟩ = some (.pointer (some ⟨b, 0, none⟩)) := bytes_block P4.out 0
    have lp := lt_of_obj P4.out
    have k0 : w4.cell? ⟨w2.heap.size, 0, none⟩ = some (.string ⟨#[]⟩) := bytes_block T4.out 0
    have k1 : w4.cell? ⟨w2.heap.size, 1, none⟩ = some (.int .i64 7) := bytes_block T4.out 1
    have k2 : w4.cell? ⟨w2.heap.size, 2, none⟩ = some (.slice none 0 0) := bytes_block T4.out 2
    have lk := lt_of_obj T4.out
    have y0 : w4.cell? ⟨w.heap.size + 1, 0, none⟩ = some (.string ⟨#[]⟩) := bytes_block Z4.out 0
    have y1 : w4.cell? ⟨w.heap.size + 1, 1, none⟩ = some (.int .i64 0) := bytes_block Z4.out 1
    have y2 : w4.cell? ⟨w.heap.size + 1, 2, none⟩ = some (.slice none 0 0) := bytes_block Z4.out 2
    have z0 := free_block Z4.out 0
    have z1 := free_block Z4.out 1
    have z2 := free_block Z4.out 2
    have ly := lt_of_obj Z4.out
    have HSS := hide (fun w' (e : w4.grownBy w' (some b)) => And.intro ((e.block _ (lt_of_obj T4.out) (fun e => by injection e with e; omega)).trans T4.out) (And.intro ((e.block _ (lt_of_obj P4.out) (fun e => by injection e with e; omega)).trans P4.out) ((e.block _ (lt_of_obj Z4.out) (fun e => by injection e with e; omega)).trans Z4.out)))
    clear c0 c1 c2 f0 f1 f2 lb
    have hn1 : w2.heap.size ≠ w.heap.size + 1 := by omega
    have hn2 : w.heap.size ≠ w.heap.size + 1 := by omega
    go_upto_region 11 with fail
    go_region_held3 (fun w' => w'.cell? ⟨w2.heap.size, 0, none⟩ = some (.string ⟨#[]⟩) ∧ w'.cell? ⟨w2.heap.size, 1, none⟩ = some (.int .i64 7) ∧ w'.cell? ⟨w2.heap.size, 2, none⟩ = some (.slice none 0 0) ∧ w'.cell? ⟨w.heap.size, 0, none⟩ = some (.pointer (some ⟨b, 0, none⟩))) (first | with_reducible assumption | (obtain ⟨g1, g2, g3, g4⟩ := kS; with_reducible exact ⟨cell3al hn1 _ _ _ _ g1, cell3al hn1 _ _ _ _ g2, cell3al hn1 _ _ _ _ g3, cell3al hn2 _ _ _ _ g4⟩) | go_keep) (first
      | (go_at_call 67
         refine Calls.mono (HTm.out _ ?hr).out ?_
         case hr => exact R4.out.ext (by repeat (first | exact Ext.refl _ | exact Ext.pre (by simp) | exact Ext.alloc (by assumption) _ | refine Ext.alloc ?_ _ |  refine Ext.more ?_ _ _ | refine Ext.drew ?_ | refine Ext.drewN ?_ _))
         rintro e z ⟨rfl, hr, hg⟩
         have G45 : Hid (w4.grownBy z (some b)) := hide (grown_trans (ext_grown (by exact (by repeat (first | exact Ext.refl _ | exact Ext.pre (by simp) | exact Ext.alloc (by assumption) _ | refine Ext.alloc ?_ _ |  refine Ext.more ?_ _ _ | refine Ext.drew ?_ | refine Ext.drewN ?_ _))) _) hg)
         have hS := HSS.out z G45.out
         have kS : z.cell? ⟨w2.heap.size, 0, none⟩ = some (.string ⟨#[]⟩) ∧ z.cell? ⟨w2.heap.size, 1, none⟩ = some (.int .i64 7) ∧ z.cell? ⟨w2.heap.size, 2, none⟩ = some (.slice none 0 0) ∧ z.cell? ⟨w.heap.size, 0, none⟩ = some (.pointer (some ⟨b, 0, none⟩)) := ⟨bytes_block hS.1 0, bytes_block hS.1 1, bytes_block hS.1 2, bytes_block hS.2.1 0⟩
         have j0 : z.cell? ⟨w.heap.size + 1, 0, none⟩ = some (.string ⟨#[]⟩) := bytes_block hS.2.2 0
         have j1 : z.cell? ⟨w.heap.size + 1, 1, none⟩ = some (.int .i64 0) := bytes_block hS.2.2 1
         have j2 : z.cell? ⟨w.heap.size + 1, 2, none⟩ = some (.slice none 0 0) := bytes_block hS.2.2 2
         have m0 := free_block hS.2.2 0
         have m1 := free_block hS.2.2 1
         have m2 := free_block hS.2.2 2
         have lj := lt_of_obj hS.2.2
         have RZ := hide hr
         have HS2 := hide hS
         clear hr hg hS))
    obtain ⟨WC, hWC⟩ : ∃ WC, WC = (((z.setCell ⟨w.heap.size + 1, 0, none⟩ (.string ⟨#[45, 62]⟩)).setCell ⟨w.heap.size + 1, 1, none⟩ (.int .i64 0)).setCell ⟨w.heap.size + 1, 2, none⟩ (.slice (some ⟨z.heap.size, 0, none⟩) 2 2)) := ⟨_, rfl⟩
    have hgC : z.grownBy WC (some (w.heap.size + 1)) := by rw [hWC]; exact put3_grown _ _ _ _ _ _ _ _
    have hszC : WC.heap.size = z.heap.size := by rw [hWC]; simp [World.setCell]
    obtain ⟨WD, hWD⟩ : ∃ WD, WD = WC.alloc (.cells #[.string ⟨#[]⟩, .int .i64 7, .slice none 0 0, .string ⟨#[]⟩, .int .i64 5, .slice none 0 0] 25) := ⟨_, rfl⟩
    have ED : Ext WC WD := by rw [hWD]; exact (Ext.refl _).alloc _
    have hzb := RZ.out.lt
    have GZ : Hid (w.grownBy z (some b)) := hide (grown_trans G4.out G45.out)
    have hzs := GZ.out.size
    have RD : Hid (RdAt WD b [] (lv + 1) false) := hide (RdAt.ext ((hgC.block b hzb (fun e => by injection e with e; omega)).trans RZ.out) ED)
    have PD : Hid (WD.heap[w.heap.size]? = some (.cells #[.pointer (some ⟨b, 0, none⟩)] 99 (0, 0))) := hide ((ED.heap (by rw [hszC]; exact lt_of_obj HS2.out.2.1)).trans ((hgC.block _ (lt_of_obj HS2.out.2.1) (fun e => by injection e with e; omega)).trans HS2.out.2.1))
    have ZC : WC.heap[w.heap.size + 1]? = some (.cells #[.string ⟨#[45, 62]⟩, .int .i64 0, .slice (some ⟨z.heap.size, 0, none⟩) 2 2] 25 (0, 0)) := by rw [hWC]; exact blk_setCell (blk_setCell (blk_setCell HS2.out.2.2 0 _) 1 _) 2 _
    have ZD : Hid (WD.heap[w.heap.size + 1]? = some (.cells #[.string ⟨#[45, 62]⟩, .int .i64 0, .slice (some ⟨z.heap.size, 0, none⟩) 2 2] 25 (0, 0))) := hide ((ED.heap (lt_of_obj ZC)).trans ZC)
    have AD : Hid (WD.heap[z.heap.size]? = some (.cells #[.string ⟨#[]⟩, .int .i64 7, .slice none 0 0, .string ⟨#[]⟩, .int .i64 5, .slice none 0 0] 25 (0, 0))) := hide (by rw [hWD]; exact at_newB _ _ _ hszC.symm)
    have GD : Hid (w.grownBy WD (some b)) := hide (grown_trans (GZ.out.andThen hgC (fun j e => by injection e with e; left; omega)) (ext_grown ED _))
    have HWD := hide (show WD = _ from by rw [hWD, hWC])
    clear hWD hWC hgC hszC ED ZC
    go_wp2
    rw [← HWD.out]
    refine leaves_cons (f := 103) (args := #[.pointer (some ⟨w.heap.size, 0, none⟩)]) (by simp) (by simp [go_sem]) ?_
    refine (t_term1 w.heap.size b [] (lv + 1) false .returning _ PD.out RD.out (by omega) (by omega)).mono ?_
    rintro e u' w'' ⟨rfl, rfl, rfl⟩
    have hne : ¬ w.heap.size + 1 = b := by omega
    have y0 := bytes_block ZD.out 0
    have y1 := bytes_block ZD.out 1
    have y2 := bytes_block ZD.out 2
    simp only [List.getElem?_toArray, List.getElem?_cons_zero, List.getElem?_cons_succ] at y0 y1 y2
    refine ⟨.agg #[.string ⟨#[45, 62]⟩, .int .i64 0, .slice (some ⟨z.heap.size, 0, none⟩) 2 2], ?_, ⟨z.heap.size, rfl, by omega, ?_⟩, ?_, ?_⟩
    · simp [results, Tryz.f67, go_sem, y0, y1, y2]
    · exact (Below.heap_setCell _ _ _ _ (show z.heap.size ≠ b by omega)).trans AD.out
    · have := RD.out.set1 (lv + 1 - 1)
      rw [show lv + 1 - 1 = lv by omega] at this ⊢
      exact this
    · exact grown_trans GD.out (grown_cell _ _ _ _)

end Go.Proofs.YtmjiljhcjfnfpaaGreat
