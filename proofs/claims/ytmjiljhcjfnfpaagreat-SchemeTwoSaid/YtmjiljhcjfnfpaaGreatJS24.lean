/- Contracts: a letter's number; the term of a word; a reader's word: at the texts of chapter 21's example. (A program of ours has printed this.) -/
import Derived.Test.YtmjiljhcjfnfpaaGreatJS23
import Derived.Test.YtmjiljhcjfnfpaaGreatIxA
import Derived.BigQuiet
import Derived.Deep.RegionHeld3
import Derived.Deep.DeepCutAuto
/- Contracts: a letter's number; the term of a word; a reader's word: at the texts of chapter 21's example. (A program of ours has printed this.) -/
namespace Go.Proofs.YtmjiljhcjfnfpaaGreat
open Go.RowKit Go.Shelf Go.Lib

theorem set256 : (Tryz.prog.info? (Tryz.lIxA_ren.t 116)).map (fun i => (i.zero, i.size)) = some (some (.agg (Array.replicate 256 (.bool false))), 256) := by kernel_rfl
theorem ascii_l (l : List UInt8) (h : l.all (fun b => decide (b.toNat < 128)) = true) : ∀ (j : Nat) b, (⟨l.toArray⟩ : ByteArray).data.toList[j]? = some b → b.toNat < 128 := fun _ b hb =>
  of_decide_eq_true (List.all_eq_true.1 h b (List.mem_of_getElem? hb))
theorem s_indexany (l m : List UInt8) (h1 : (⟨l.toArray⟩ : ByteArray).size < 4294967281) (h2 : (⟨m.toArray⟩ : ByteArray).size < 4294967281) (h3 : l.all (fun b => decide (b.toNat < 128)) = true) (h4 : m.all (fun b => decide (b.toNat < 128)) = true) (n : Int) (hn : Lib.indexAny l m = n) (w : World) :
    Calls Tryz.prog 132 #[encStr l, encStr m] w fun e w' => e = .returned (.int .i64 n) ∧ Ext w w' := by
  refine (show Calls Tryz.prog 132 #[encStr l, encStr m] w _ from Any.strings_IndexAny_laid (P := Tryz.prog) (ρ := Tryz.lIxA_ren) Tryz.lIxA set256 ⟨l.toArray⟩ ⟨m.toArray⟩ w h1 h2 (ascii_l l h3) (ascii_l m h4)).mono ?_
  rintro e w' ⟨h, hb⟩
  refine ⟨?_, Ext.of_below hb (Nat.le_refl _)⟩
  rw [h, ← hn]

set_option maxRecDepth 10000 in
set_option maxHeartbeats 1000000 in
theorem n_number_h (w : World) : Calls Tryz.prog 151 #[encStr [104]] w fun e w' => e = .returned (.int .i64 7) ∧ Ext w w' := by
  have hL := hide (n_letter 7 (by decide) w)
  have hl : letter 7 = [104] := by kernel_rfl
  rw [hl] at hL
  unfold encStr at *
  go_enter Tryz.func151, Tryz.ntmps151
  go_wp2_with fail
  refine hL.out.mono ?_
  rintro e w2 ⟨rfl, hx⟩
  have X := hide hx
  clear hx
  go_wp2
  go_ret
  exact ⟨rfl, X.out⟩

set_option maxRecDepth 10000 in
set_option maxHeartbeats 1000000 in
theorem t_leaf_h (w : World) : Calls Tryz.prog 133 #[encStr [104]] w fun e w' => e = .returned (.agg #[.string ⟨#[]⟩, .int .i64 7, .slice none 0 0]) ∧ Ext w w' := by
  obtain ⟨W, hW⟩ : ∃ W, W = w.alloc (.cells #[.string ⟨#[]⟩, .int .i64 0, .slice none 0 0] 25) := ⟨_, rfl⟩
  have HW := hide hW.symm
  have X0 : Hid (Ext w W) := hide (by rw [hW]; exact (Ext.refl _).alloc _)
  have B1 : Hid (W.heap[w.heap.size]? = some (.cells #[.string ⟨#[]⟩, .int .i64 0, .slice none 0 0] 25 (0, 0))) := hide (by rw [hW]; exact at_newB _ _ _ rfl)
  have hN := hide (n_number_h W)
  clear hW
  unfold encStr at *
  go_enter Tryz.func133, Tryz.ntmps133
  go_upto_region 1 with fail
  rw [HW.out]
  clear HW
  go_wp2_with fail
  refine hN.out.mono ?_
  rintro e w2 ⟨rfl, hx⟩
  have X := hide (X0.out.trans hx)
  have B2 := hide ((hx.heap (lt_of_obj B1.out)).trans B1.out)
  clear hx
  have y0 := bytes_block B2.out 0
  have y1 := bytes_block B2.out 1
  have y2 := bytes_block B2.out 2
  have f0 := free_block B2.out 0
  have f1 := free_block B2.out 1
  have f2 := free_block B2.out 2
  simp only [List.getElem?_toArray, List.getElem?_cons_zero, List.getElem?_cons_succ] at y0 y1 y2
  go_wp2
  refine bodyPost_ret (v := .agg #[.string ⟨#[]⟩, .int .i64 7, .slice none 0 0]) ?_ rfl ⟨rfl, ((X.out.setCell (Nat.le_refl _) _).setCell (Nat.le_refl _) _).setCell (Nat.le_refl _) _⟩
  simp [results, Tryz.f133, go_sem, y0, y1, y2]

set_option maxRecDepth 10000 in
set_option maxHeartbeats 1000000 in
theorem n_number_f (w : World) : Calls Tryz.prog 151 #[encStr [102]] w fun e w' => e = .returned (.int .i64 5) ∧ Ext w w' := by
  have hL := hide (n_letter 5 (by decide) w)
  have hl : letter 5 = [102] := by kernel_rfl
  rw [hl] at hL
  unfold encStr at *
  go_enter Tryz.func151, Tryz.ntmps151
  go_wp2_with fail
  refine hL.out.mono ?_
  rintro e w2 ⟨rfl, hx⟩
  have X := hide hx
  clear hx
  go_wp2
  go_ret
  exact ⟨rfl, X.out⟩

set_option maxRecDepth 10000 in
set_option maxHeartbeats 1000000 in
theorem t_leaf_f (w : World) : Calls Tryz.prog 133 #[encStr [102]] w fun e w' => e = .returned (.agg #[.string ⟨#[]⟩, .int .i64 5, .slice none 0 0]) ∧ Ext w w' := by
  obtain ⟨W, hW⟩ : ∃ W, W = w.alloc (.cells #[.string ⟨#[]⟩, .int .i64 0, .slice none 0 0] 25) := ⟨_, rfl⟩
  have HW := hide hW.symm
  have X0 : Hid (Ext w W) := hide (by rw [hW]; exact (Ext.refl _).alloc _)
  have B1 : Hid (W.heap[w.heap.size]? = some (.cells #[.string ⟨#[]⟩, .int .i64 0, .slice none 0 0] 25 (0, 0))) := hide (by rw [hW]; exact at_newB _ _ _ rfl)
  have hN := hide (n_number_f W)
  clear hW
  unfold encStr at *
  go_enter Tryz.func133, Tryz.ntmps133
  go_upto_region 1 with fail
  rw [HW.out]
  clear HW
  go_wp2_with fail
  refine hN.out.mono ?_
  rintro e w2 ⟨rfl, hx⟩
  have X := hide (X0.out.trans hx)
  have B2 := hide ((hx.heap (lt_of_obj B1.out)).trans B1.out)
  clear hx
  have y0 := bytes_block B2.out 0
  have y1 := bytes_block B2.out 1
  have y2 := bytes_block B2.out 2
  have f0 := free_block B2.out 0
  have f1 := free_block B2.out 1
  have f2 := free_block B2.out 2
  simp only [List.getElem?_toArray, List.getElem?_cons_zero, List.getElem?_cons_succ] at y0 y1 y2
  go_wp2
  refine bodyPost_ret (v := .agg #[.string ⟨#[]⟩, .int .i64 5, .slice none 0 0]) ?_ rfl ⟨rfl, ((X.out.setCell (Nat.le_refl _) _).setCell (Nat.le_refl _) _).setCell (Nat.le_refl _) _⟩
  simp [results, Tryz.f133, go_sem, y0, y1, y2]

set_option maxRecDepth 10000 in
set_option maxHeartbeats 4000000 in
theorem t_atom_h (b : Nat) (lv : Int) (w : World) (h : RdAt w b [104] lv false) :
    Calls Tryz.prog 104 #[.pointer (some ⟨b, 0, none⟩)] w fun e w' => e = .returned (.agg #[.string ⟨#[]⟩, .int .i64 7, .slice none 0 0]) ∧ RdAt w' b [] lv false ∧ w.grownBy w' (some b) := by
  obtain ⟨W, hW⟩ : ∃ W, W = w.alloc (.cells #[.string ⟨#[]⟩, .int .i64 0, .slice none 0 0] 25) := ⟨_, rfl⟩
  have HW := hide hW.symm
  have X0 : Hid (Ext w W) := hide (by rw [hW]; exact (Ext.refl _).alloc _)
  have B1 : Hid (W.heap[w.heap.size]? = some (.cells #[.string ⟨#[]⟩, .int .i64 0, .slice none 0 0] 25 (0, 0))) := hide (by rw [hW]; exact at_newB _ _ _ rfl)
  have hbw := h.lt
  have HT := hide (t_take b [104] [40] lv false W (h.ext X0.out) (by decide) (by decide))
  rw [show preG [40] [104] = false by kernel_rfl] at HT
  have HI := hide (fun w' => hide (s_indexany [104] [32, 40, 41] (by decide) (by decide) (by decide) (by decide) (-1) (by kernel_rfl) w'))
  have HLf := hide (fun w' => hide (t_leaf_h w'))
  clear hW h
  unfold encStr at *
  go_enter Tryz.func104, Tryz.ntmps104
  go_upto_region 1 with fail
  rw [HW.out]
  clear HW
  go_wp2_with fail
  refine HT.out.mono ?_
  rintro e w2 ⟨rfl, hr, hg⟩
  have R2 := hide (show RdAt w2 b [104] lv false from hr)
  have B2 := hide ((hg.block _ (lt_of_obj B1.out) (fun e => by injection e with e; omega)).trans B1.out)
  have G2 := hide (grown_trans (ext_grown X0.out (some b)) hg)
  clear hr hg HT
  obtain ⟨c0, c1, c2, f0, f1, f2⟩ := R2.out.cells
  have lb := R2.out.lt
  unfold encStr at c0
  go_wp2_with fail
  refine (HI.out _).out.mono ?_
  rintro e w3 ⟨rfl, hx⟩
  have R3 := hide (R2.out.ext hx)
  have B3 := hide ((hx.heap (lt_of_obj B2.out)).trans B2.out)
  have G3 := hide (grown_trans G2.out (ext_grown hx (some b)))
  clear hx c0 c1 c2 f0 f1 f2 lb HI
  obtain ⟨c0, c1, c2, f0, f1, f2⟩ := R3.out.cells
  have lb := R3.out.lt
  unfold encStr at c0
  have hs8 : ∀ w' : World, (Instr.slice 9 (.string ⟨#[104]⟩) none (some (.int .i64 1)) none).run Tryz.prog w' = .ok (.string ⟨#[104]⟩) w' := fun w' => sl_to [104] 1 1 (by decide) rfl w'
  have hs9 : ∀ w' : World, (Instr.slice 9 (.string ⟨#[104]⟩) (some (.int .i64 1)) none none).run Tryz.prog w' = .ok (.string ⟨#[]⟩) w' := fun w' => sl_from [104] 1 1 (by decide) rfl w'
  go_upto_region 8 with fail
  go_wp2_with fail
  refine (HLf.out _).out.mono ?_
  rintro e w4 ⟨rfl, hx⟩
  have R4 := hide (R3.out.ext hx)
  have B4 := hide ((hx.heap (lt_of_obj B3.out)).trans B3.out)
  have G4 := hide (grown_trans G3.out (ext_grown hx (some b)))
  clear hx c0 c1 c2 f0 f1 f2 lb HLf
  go_upto_region 9 with fail
  refine wp_named ?_
  intro W5 hW5
  have X5 : Hid (Ext w4 W5) := hide (by rw [hW5]; exact (Ext.refl _).alloc _)
  have BL : Hid (TBox W5 w4.heap.size (.mk [] 7 none 0 [])) := hide (by rw [hW5]; exact at_newB _ _ _ rfl)
  have R5 := hide (R4.out.ext X5.out)
  have B5 := hide ((X5.out.heap (lt_of_obj B4.out)).trans B4.out)
  have G5 := hide (grown_trans G4.out (ext_grown X5.out (some b)))
  have hb4 : b < w4.heap.size := R4.out.lt
  have hBlt := lt_of_obj B4.out
  clear hW5
  obtain ⟨c0, c1, c2, f0, f1, f2⟩ := R5.out.cells
  have lb := R5.out.lt
  unfold encStr at c0
  obtain ⟨WR, hWR⟩ : ∃ WR, WR = (W5.setCell ⟨b, 0, none⟩ (.string ⟨#[]⟩)).setCell ⟨b, 2, none⟩ (.bool false) := ⟨_, rfl⟩
  have HWR := hide hWR.symm
  have RR : Hid (RdAt WR b [] lv false) := hide (by rw [hWR]; exact (R5.out.set0 []).set2 false)
  have GR : Hid (W5.grownBy WR (some b)) := hide (by rw [hWR]; exact grown_trans (grown_cell _ _ _ _) (grown_cell _ _ _ _))
  clear hWR
  have BL2 := hide ((GR.out.block w4.heap.size BL.out.lt (fun e => by injection e with e; omega)).trans BL.out)
  have BZ2 := hide ((GR.out.block w.heap.size (lt_of_obj B5.out) (fun e => by injection e with e; omega)).trans B5.out)
  have k0 : WR.cell? ⟨w4.heap.size, 0, none⟩ = some (.string ⟨#[]⟩) := bytes_block BL2.out 0
  have k1 : WR.cell? ⟨w4.heap.size, 1, none⟩ = some (.int .i64 7) := bytes_block BL2.out 1
  have k2 : WR.cell? ⟨w4.heap.size, 2, none⟩ = some (.slice none 0 0) := bytes_block BL2.out 2
  have lk := lt_of_obj BL2.out
  have y0 : WR.cell? ⟨w.heap.size, 0, none⟩ = some (.string ⟨#[]⟩) := bytes_block BZ2.out 0
  have y1 : WR.cell? ⟨w.heap.size, 1, none⟩ = some (.int .i64 0) := bytes_block BZ2.out 1
  have y2 : WR.cell? ⟨w.heap.size, 2, none⟩ = some (.slice none 0 0) := bytes_block BZ2.out 2
  have z0 := free_block BZ2.out 0
  have z1 := free_block BZ2.out 1
  have z2 := free_block BZ2.out 2
  have ly := lt_of_obj BZ2.out
  have HWX : Hid (w.grownBy WR (some b)) := hide (grown_trans G5.out GR.out)
  have HF : Hid (∀ v0 v1 v2, w.grownBy (((WR.setCell ⟨w.heap.size, 0, none⟩ v0).setCell ⟨w.heap.size, 1, none⟩ v1).setCell ⟨w.heap.size, 2, none⟩ v2) (some b) ∧ RdAt (((WR.setCell ⟨w.heap.size, 0, none⟩ v0).setCell ⟨w.heap.size, 1, none⟩ v1).setCell ⟨w.heap.size, 2, none⟩ v2) b [] lv false) := hide (fun v0 v1 v2 => by
    have hg := put3_grown WR w.heap.size 0 1 2 v0 v1 v2
    exact ⟨HWX.out.andThen hg (fun j e => by injection e with e; left; omega), (hg.block b RR.out.lt (fun e => by injection e with e; omega)).trans RR.out⟩)
  clear BL2 BZ2
  go_region
  all_goals
    rw [HWR.out]
    go_wp2
    refine bodyPost_ret (v := .agg #[.string ⟨#[]⟩, .int .i64 7, .slice none 0 0]) ?_ rfl ⟨rfl, (HF.out _ _ _).2.ext (Ext.refl _).drew, grown_trans (HF.out _ _ _).1 (ext_grown (Ext.refl _).drew _)⟩
    simp [results, Tryz.f104, go_sem, y0, y1, y2]

set_option maxRecDepth 10000 in
set_option maxHeartbeats 4000000 in
theorem t_atom_f (b : Nat) (lv : Int) (w : World) (h : RdAt w b [102] lv false) :
    Calls Tryz.prog 104 #[.pointer (some ⟨b, 0, none⟩)] w fun e w' => e = .returned (.agg #[.string ⟨#[]⟩, .int .i64 5, .slice none 0 0]) ∧ RdAt w' b [] lv false ∧ w.grownBy w' (some b) := by
  obtain ⟨W, hW⟩ : ∃ W, W = w.alloc (.cells #[.string ⟨#[]⟩, .int .i64 0, .slice none 0 0] 25) := ⟨_, rfl⟩
  have HW := hide hW.symm
  have X0 : Hid (Ext w W) := hide (by rw [hW]; exact (Ext.refl _).alloc _)
  have B1 : Hid (W.heap[w.heap.size]? = some (.cells #[.string ⟨#[]⟩, .int .i64 0, .slice none 0 0] 25 (0, 0))) := hide (by rw [hW]; exact at_newB _ _ _ rfl)
  have hbw := h.lt
  have HT := hide (t_take b [102] [40] lv false W (h.ext X0.out) (by decide) (by decide))
  rw [show preG [40] [102] = false by kernel_rfl] at HT
  have HI := hide (fun w' => hide (s_indexany [102] [32, 40, 41] (by decide) (by decide) (by decide) (by decide) (-1) (by kernel_rfl) w'))
  have HLf := hide (fun w' => hide (t_leaf_f w'))
  clear hW h
  unfold encStr at *
  go_enter Tryz.func104, Tryz.ntmps104
  go_upto_region 1 with fail
  rw [HW.out]
  clear HW
  go_wp2_with fail
  refine HT.out.mono ?_
  rintro e w2 ⟨rfl, hr, hg⟩
  have R2 := hide (show RdAt w2 b [102] lv false from hr)
  have B2 := hide ((hg.block _ (lt_of_obj B1.out) (fun e => by injection e with e; omega)).trans B1.out)
  have G2 := hide (grown_trans (ext_grown X0.out (some b)) hg)
  clear hr hg HT
  obtain ⟨c0, c1, c2, f0, f1, f2⟩ := R2.out.cells
  have lb := R2.out.lt
  unfold encStr at c0
  go_wp2_with fail
  refine (HI.out _).out.mono ?_
  rintro e w3 ⟨rfl, hx⟩
  have R3 := hide (R2.out.ext hx)
  have B3 := hide ((hx.heap (lt_of_obj B2.out)).trans B2.out)
  have G3 := hide (grown_trans G2.out (ext_grown hx (some b)))
  clear hx c0 c1 c2 f0 f1 f2 lb HI
  obtain ⟨c0, c1, c2, f0, f1, f2⟩ := R3.out.cells
  have lb := R3.out.lt
  unfold encStr at c0
  have hs8 : ∀ w' : World, (Instr.slice 9 (.string ⟨#[102]⟩) none (some (.int .i64 1)) none).run Tryz.prog w' = .ok (.string ⟨#[102]⟩) w' := fun w' => sl_to [102] 1 1 (by decide) rfl w'
  have hs9 : ∀ w' : World, (Instr.slice 9 (.string ⟨#[102]⟩) (some (.int .i64 1)) none none).run Tryz.prog w' = .ok (.string ⟨#[]⟩) w' := fun w' => sl_from [102] 1 1 (by decide) rfl w'
  go_upto_region 8 with fail
  go_wp2_with fail
  refine (HLf.out _).out.mono ?_
  rintro e w4 ⟨rfl, hx⟩
  have R4 := hide (R3.out.ext hx)
  have B4 := hide ((hx.heap (lt_of_obj B3.out)).trans B3.out)
  have G4 := hide (grown_trans G3.out (ext_grown hx (some b)))
  clear hx c0 c1 c2 f0 f1 f2 lb HLf
  go_upto_region 9 with fail
  refine wp_named ?_
  intro W5 hW5
  have X5 : Hid (Ext w4 W5) := hide (by rw [hW5]; exact (Ext.refl _).alloc _)
  have BL : Hid (TBox W5 w4.heap.size (.mk [] 5 none 0 [])) := hide (by rw [hW5]; exact at_newB _ _ _ rfl)
  have R5 := hide (R4.out.ext X5.out)
  have B5 := hide ((X5.out.heap (lt_of_obj B4.out)).trans B4.out)
  have G5 := hide (grown_trans G4.out (ext_grown X5.out (some b)))
  have hb4 : b < w4.heap.size := R4.out.lt
  have hBlt := lt_of_obj B4.out
  clear hW5
  obtain ⟨c0, c1, c2, f0, f1, f2⟩ := R5.out.cells
  have lb := R5.out.lt
  unfold encStr at c0
  obtain ⟨WR, hWR⟩ : ∃ WR, WR = (W5.setCell ⟨b, 0, none⟩ (.string ⟨#[]⟩)).setCell ⟨b, 2, none⟩ (.bool false) := ⟨_, rfl⟩
  have HWR := hide hWR.symm
  have RR : Hid (RdAt WR b [] lv false) := hide (by rw [hWR]; exact (R5.out.set0 []).set2 false)
  have GR : Hid (W5.grownBy WR (some b)) := hide (by rw [hWR]; exact grown_trans (grown_cell _ _ _ _) (grown_cell _ _ _ _))
  clear hWR
  have BL2 := hide ((GR.out.block w4.heap.size BL.out.lt (fun e => by injection e with e; omega)).trans BL.out)
  have BZ2 := hide ((GR.out.block w.heap.size (lt_of_obj B5.out) (fun e => by injection e with e; omega)).trans B5.out)
  have k0 : WR.cell? ⟨w4.heap.size, 0, none⟩ = some (.string ⟨#[]⟩) := bytes_block BL2.out 0
  have k1 : WR.cell? ⟨w4.heap.size, 1, none⟩ = some (.int .i64 5) := bytes_block BL2.out 1
  have k2 : WR.cell? ⟨w4.heap.size, 2, none⟩ = some (.slice none 0 0) := bytes_block BL2.out 2
  have lk := lt_of_obj BL2.out
  have y0 : WR.cell? ⟨w.heap.size, 0, none⟩ = some (.string ⟨#[]⟩) := bytes_block BZ2.out 0
  have y1 : WR.cell? ⟨w.heap.size, 1, none⟩ = some (.int .i64 0) := bytes_block BZ2.out 1
  have y2 : WR.cell? ⟨w.heap.size, 2, none⟩ = some (.slice none 0 0) := bytes_block BZ2.out 2
  have z0 := free_block BZ2.out 0
  have z1 := free_block BZ2.out 1
  have z2 := free_block BZ2.out 2
  have ly := lt_of_obj BZ2.out
  have HWX : Hid (w.grownBy WR (some b)) := hide (grown_trans G5.out GR.out)
  have HF : Hid (∀ v0 v1 v2, w.grownBy (((WR.setCell ⟨w.heap.size, 0, none⟩ v0).setCell ⟨w.heap.size, 1, none⟩ v1).setCell ⟨w.heap.size, 2, none⟩ v2) (some b) ∧ RdAt (((WR.setCell ⟨w.heap.size, 0, none⟩ v0).setCell ⟨w.heap.size, 1, none⟩ v1).setCell ⟨w.heap.size, 2, none⟩ v2) b [] lv false) := hide (fun v0 v1 v2 => by
    have hg := put3_grown WR w.heap.size 0 1 2 v0 v1 v2
    exact ⟨HWX.out.andThen hg (fun j e => by injection e with e; left; omega), (hg.block b RR.out.lt (fun e => by injection e with e; omega)).trans RR.out⟩)
  clear BL2 BZ2
  go_region
  all_goals
    rw [HWR.out]
    go_wp2
    refine bodyPost_ret (v := .agg #[.string ⟨#[]⟩, .int .i64 5, .slice none 0 0]) ?_ rfl ⟨rfl, (HF.out _ _ _).2.ext (Ext.refl _).drew, grown_trans (HF.out _ _ _).1 (ext_grown (Ext.refl _).drew _)⟩
    simp [results, Tryz.f104, go_sem, y0, y1, y2]

set_option maxRecDepth 10000 in
set_option maxHeartbeats 4000000 in
theorem t_atom_hf (b : Nat) (lv : Int) (w : World) (h : RdAt w b [104, 32, 45, 62, 32, 102] lv false) :
    Calls Tryz.prog 104 #[.pointer (some ⟨b, 0, none⟩)] w fun e w' => e = .returned (.agg #[.string ⟨#[]⟩, .int .i64 7, .slice none 0 0]) ∧ RdAt w' b [32, 45, 62, 32, 102] lv false ∧ w.grownBy w' (some b) := by
  obtain ⟨W, hW⟩ : ∃ W, W = w.alloc (.cells #[.string ⟨#[]⟩, .int .i64 0, .slice none 0 0] 25) := ⟨_, rfl⟩
  have HW := hide hW.symm
  have X0 : Hid (Ext w W) := hide (by rw [hW]; exact (Ext.refl _).alloc _)
  have B1 : Hid (W.heap[w.heap.size]? = some (.cells #[.string ⟨#[]⟩, .int .i64 0, .slice none 0 0] 25 (0, 0))) := hide (by rw [hW]; exact at_newB _ _ _ rfl)
  have hbw := h.lt
  have HT := hide (t_take b [104, 32, 45, 62, 32, 102] [40] lv false W (h.ext X0.out) (by decide) (by decide))
  rw [show preG [40] [104, 32, 45, 62, 32, 102] = false by kernel_rfl] at HT
  have HI := hide (fun w' => hide (s_indexany [104, 32, 45, 62, 32, 102] [32, 40, 41] (by decide) (by decide) (by decide) (by decide) (1) (by kernel_rfl) w'))
  have HLf := hide (fun w' => hide (t_leaf_h w'))
  clear hW h
  unfold encStr at *
  go_enter Tryz.func104, Tryz.ntmps104
  go_upto_region 1 with fail
  rw [HW.out]
  clear HW
  go_wp2_with fail
  refine HT.out.mono ?_
  rintro e w2 ⟨rfl, hr, hg⟩
  have R2 := hide (show RdAt w2 b [104, 32, 45, 62, 32, 102] lv false from hr)
  have B2 := hide ((hg.block _ (lt_of_obj B1.out) (fun e => by injection e with e; omega)).trans B1.out)
  have G2 := hide (grown_trans (ext_grown X0.out (some b)) hg)
  clear hr hg HT
  obtain ⟨c0, c1, c2, f0, f1, f2⟩ := R2.out.cells
  have lb := R2.out.lt
  unfold encStr at c0
  go_wp2_with fail
  refine (HI.out _).out.mono ?_
  rintro e w3 ⟨rfl, hx⟩
  have R3 := hide (R2.out.ext hx)
  have B3 := hide ((hx.heap (lt_of_obj B2.out)).trans B2.out)
  have G3 := hide (grown_trans G2.out (ext_grown hx (some b)))
  clear hx c0 c1 c2 f0 f1 f2 lb HI
  obtain ⟨c0, c1, c2, f0, f1, f2⟩ := R3.out.cells
  have lb := R3.out.lt
  unfold encStr at c0
  have hs8 : ∀ w' : World, (Instr.slice 9 (.string ⟨#[104, 32, 45, 62, 32, 102]⟩) none (some (.int .i64 1)) none).run Tryz.prog w' = .ok (.string ⟨#[104]⟩) w' := fun w' => sl_to [104, 32, 45, 62, 32, 102] 1 1 (by decide) rfl w'
  have hs9 : ∀ w' : World, (Instr.slice 9 (.string ⟨#[104, 32, 45, 62, 32, 102]⟩) (some (.int .i64 1)) none none).run Tryz.prog w' = .ok (.string ⟨#[32, 45, 62, 32, 102]⟩) w' := fun w' => sl_from [104, 32, 45, 62, 32, 102] 1 1 (by decide) rfl w'
  go_upto_region 8 with fail
  go_wp2_with fail
  refine (HLf.out _).out.mono ?_
  rintro e w4 ⟨rfl, hx⟩
  have R4 := hide (R3.out.ext hx)
  have B4 := hide ((hx.heap (lt_of_obj B3.out)).trans B3.out)
  have G4 := hide (grown_trans G3.out (ext_grown hx (some b)))
  clear hx c0 c1 c2 f0 f1 f2 lb HLf
  go_upto_region 9 with fail
  refine wp_named ?_
  intro W5 hW5
  have X5 : Hid (Ext w4 W5) := hide (by rw [hW5]; exact (Ext.refl _).alloc _)
  have BL : Hid (TBox W5 w4.heap.size (.mk [] 7 none 0 [])) := hide (by rw [hW5]; exact at_newB _ _ _ rfl)
  have R5 := hide (R4.out.ext X5.out)
  have B5 := hide ((X5.out.heap (lt_of_obj B4.out)).trans B4.out)
  have G5 := hide (grown_trans G4.out (ext_grown X5.out (some b)))
  have hb4 : b < w4.heap.size := R4.out.lt
  have hBlt := lt_of_obj B4.out
  clear hW5
  obtain ⟨c0, c1, c2, f0, f1, f2⟩ := R5.out.cells
  have lb := R5.out.lt
  unfold encStr at c0
  obtain ⟨WR, hWR⟩ : ∃ WR, WR = (W5.setCell ⟨b, 0, none⟩ (.string ⟨#[32, 45, 62, 32, 102]⟩)).setCell ⟨b, 2, none⟩ (.bool false) := ⟨_, rfl⟩
  have HWR := hide hWR.symm
  have RR : Hid (RdAt WR b [32, 45, 62, 32, 102] lv false) := hide (by rw [hWR]; exact (R5.out.set0 [32, 45, 62, 32, 102]).set2 false)
  have GR : Hid (W5.grownBy WR (some b)) := hide (by rw [hWR]; exact grown_trans (grown_cell _ _ _ _) (grown_cell _ _ _ _))
  clear hWR
  have BL2 := hide ((GR.out.block w4.heap.size BL.out.lt (fun e => by injection e with e; omega)).trans BL.out)
  have BZ2 := hide ((GR.out.block w.heap.size (lt_of_obj B5.out) (fun e => by injection e with e; omega)).trans B5.out)
  have k0 : WR.cell? ⟨w4.heap.size, 0, none⟩ = some (.string ⟨#[]⟩) := bytes_block BL2.out 0
  have k1 : WR.cell? ⟨w4.heap.size, 1, none⟩ = some (.int .i64 7) := bytes_block BL2.out 1
  have k2 : WR.cell? ⟨w4.heap.size, 2, none⟩ = some (.slice none 0 0) := bytes_block BL2.out 2
  have lk := lt_of_obj BL2.out
  have y0 : WR.cell? ⟨w.heap.size, 0, none⟩ = some (.string ⟨#[]⟩) := bytes_block BZ2.out 0
  have y1 : WR.cell? ⟨w.heap.size, 1, none⟩ = some (.int .i64 0) := bytes_block BZ2.out 1
  have y2 : WR.cell? ⟨w.heap.size, 2, none⟩ = some (.slice none 0 0) := bytes_block BZ2.out 2
  have z0 := free_block BZ2.out 0
  have z1 := free_block BZ2.out 1
  have z2 := free_block BZ2.out 2
  have ly := lt_of_obj BZ2.out
  have HWX : Hid (w.grownBy WR (some b)) := hide (grown_trans G5.out GR.out)
  have HF : Hid (∀ v0 v1 v2, w.grownBy (((WR.setCell ⟨w.heap.size, 0, none⟩ v0).setCell ⟨w.heap.size, 1, none⟩ v1).setCell ⟨w.heap.size, 2, none⟩ v2) (some b) ∧ RdAt (((WR.setCell ⟨w.heap.size, 0, none⟩ v0).setCell ⟨w.heap.size, 1, none⟩ v1).setCell ⟨w.heap.size, 2, none⟩ v2) b [32, 45, 62, 32, 102] lv false) := hide (fun v0 v1 v2 => by
    have hg := put3_grown WR w.heap.size 0 1 2 v0 v1 v2
    exact ⟨HWX.out.andThen hg (fun j e => by injection e with e; left; omega), (hg.block b RR.out.lt (fun e => by injection e with e; omega)).trans RR.out⟩)
  clear BL2 BZ2
  go_region
  all_goals
    rw [HWR.out]
    go_wp2
    refine bodyPost_ret (v := .agg #[.string ⟨#[]⟩, .int .i64 7, .slice none 0 0]) ?_ rfl ⟨rfl, (HF.out _ _ _).2.ext (Ext.refl _).drew, grown_trans (HF.out _ _ _).1 (ext_grown (Ext.refl _).drew _)⟩
    simp [results, Tryz.f104, go_sem, y0, y1, y2]

end Go.Proofs.YtmjiljhcjfnfpaaGreat
