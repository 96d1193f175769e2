/- Contracts: what is known of a class at a type; of the program, and of the reference. -/
import Derived.Test.YtcnkfkjgpdmebaaGreatDoorJN20
import Derived.Laws.CopyOwn
import Derived.Laws.MakeOwn
/- Contracts: what is known of a class at a type; of the program, and of the reference. -/
namespace Go.Proofs.YtcnkfkjgpdmebaaGreatDoor
open Go.RowKit

/-- The type of what is known of a class at a type, whose one arg lies in block b. -/
def dictT (c : Str) (t : Ty) (b : Nat) : Ty := .mk ([123] ++ c ++ [125]) 0 (some ⟨b, 0, none⟩) 1 [t]
theorem dictT_in {w : World} {c : Str} {t : Ty} {b : Nat} (hc : c.length ≤ 1000000000000000000) (h : TyIn w t) (hb : w.heap[b]? = some (.cells #[encStr t.con, .int .i64 t.var, .slice t.A t.args.length t.cap] 53)) : TyIn w (dictT c t b) := by
  refine TyIn.of (by simp) (by decide) (by simp; omega) ?_ (by simpa using h)
  exact RowOf.block tyC [t] (by simpa [tyC, Ty.cells] using hb)

theorem ty_info : (Tryz.prog.info? 53).map (fun i => (i.zero, i.size, i.bytes)) = some (some (.agg #[.string ⟨#[]⟩, .int .i64 0, .slice none 0 0]), 3, 48) := by kernel_rfl
theorem make_one (W : World) : (Instr.makeSlice 31 (.int .i64 1) (.int .i64 1)).run Tryz.prog W = .ok (.slice (some ⟨W.heap.size, 0, none⟩) 1 1) (W.alloc (.cells #[.string ⟨#[]⟩, .int .i64 0, .slice none 0 0] 53)) := by
  obtain ⟨i1, hj, hy0, hy1, hy2⟩ := info_parts ty_info
  have hmk := run_make (P := Tryz.prog) W 31 53 i1 _ Tryz.underlying31 hj hy0 .i64 .i64 1 1 (by omega) (Int.le_refl _) (by rw [hy2]; omega) (by omega)
  rw [hy1] at hmk
  have e : madeCells (Value.agg #[.string ⟨#[]⟩, .int .i64 0, .slice none 0 0]).cells ((1 : Int).toNat * 3) = #[.string ⟨#[]⟩, .int .i64 0, .slice none 0 0] := by kernel_rfl
  rw [e] at hmk
  exact hmk

set_option maxRecDepth 10000 in
set_option maxHeartbeats 2000000 in
theorem f_dict (c : Str) (t : Ty) (w : World) (h : TyIn w t) (hc : c.length ≤ 1000000000000000000) : Calls Tryz.prog 34 #[encStr c, tyV t] w fun e w' => (∃ b, e = .returned (tyV (dictT c t b)) ∧ TyIn w' (dictT c t b) ∧ w.heap.size ≤ b) ∧ Ext w w' := by
  have hsz1 : ¬ ((⟨[(123 : UInt8)].toArray⟩ : ByteArray).size + (⟨c.toArray⟩ : ByteArray).size > 9223372036854775807) := by rw [ba_size, ba_size]; simp; omega
  have e1 := ByteArray.mk_append_mk [(123 : UInt8)] c
  have hsz2 : ¬ ((⟨([123] ++ c).toArray⟩ : ByteArray).size + (⟨[(125 : UInt8)].toArray⟩ : ByteArray).size > 9223372036854775807) := by rw [ba_size, ba_size]; simp; omega
  have e2 := ByteArray.mk_append_mk (123 :: c) [(125 : UInt8)]
  have hmk := fun W => make_one W
  obtain ⟨W3, hW3⟩ : ∃ W3, W3 = (((w.alloc (.cells #[encStr t.con, .int .i64 t.var, .slice t.A t.args.length t.cap] 53)).alloc (.cells #[.string ⟨#[]⟩, .int .i64 0, .slice none 0 0] 53)).alloc (.cells #[.string ⟨#[]⟩, .int .i64 0, .slice none 0 0] 53)).alloc (.cells #[encStr t.con, .int .i64 t.var, .slice t.A t.args.length t.cap] 53) := ⟨_, rfl⟩
  have X3 : Ext w W3 := by rw [hW3]; exact ((((Ext.refl w).alloc _).alloc _).alloc _).alloc _
  have g1 : W3.heap[w.heap.size + 1]? = some (.cells #[.string ⟨#[]⟩, .int .i64 0, .slice none 0 0] 53 (0, 0)) := by
    rw [hW3]
    exact ((((Ext.refl _).alloc _).alloc _).heap (by simp)).trans (at_newB _ _ _ (by simp))
  have g2 : W3.heap[w.heap.size + 1 + 1]? = some (.cells #[.string ⟨#[]⟩, .int .i64 0, .slice none 0 0] 53 (0, 0)) := by
    rw [hW3]
    exact (((Ext.refl _).alloc _).heap (by simp)).trans (at_newB _ _ _ (by simp))
  have g3 : W3.heap[w.heap.size + 1 + 1 + 1]? = some (.cells #[encStr t.con, .int .i64 t.var, .slice t.A t.args.length t.cap] 53) := by
    rw [hW3]
    exact at_newB _ _ _ (by simp)
  obtain ⟨W4, hW4⟩ : ∃ W4, W4 = W3.setRow (w.heap.size + 1 + 1) #[encStr t.con, .int .i64 t.var, .slice t.A t.args.length t.cap] := ⟨_, rfl⟩
  have hcp : (Builtin.copy_ #[31, 31] 3 #[.slice (some ⟨w.heap.size + 1 + 1, 0, none⟩) 1 1, .slice (some ⟨w.heap.size + 1 + 1 + 1, 0, none⟩) 1 1]).run Tryz.prog W3 = .ok (goInt 1) W4 := by
    rw [hW4]
    exact run_copy_k W3 31 31 3 53 3 _ 1 1 _ 1 1 _ _ [encStr t.con, .int .i64 t.var, .slice t.A t.args.length t.cap] 1 Tryz.underlying31 (by kernel_rfl) g2 rfl rfl
      (fun j v hj => by
        have := bytes_block g3 j
        rw [show (⟨w.heap.size + 1 + 1 + 1, 0, none⟩ : Addr).add j = ⟨w.heap.size + 1 + 1 + 1, j, none⟩ from by unfold Addr.add; split <;> simp_all]
        rw [this]
        simpa using hj)
      (Nat.le_refl 3) (by intro v hv; simp at hv; rcases hv with rfl | rfl | rfl <;> rfl)
  have X4 : Hid (Ext w W4) := hide (by rw [hW4]; exact Ext.of_below (below_setRow X3.below (by omega) _) (Nat.le_refl _))
  have G1 : Hid (W4.heap[w.heap.size + 1]? = some (.cells #[.string ⟨#[]⟩, .int .i64 0, .slice none 0 0] 53 (0, 0))) := hide (by rw [hW4, setRow_other _ _ _ _ (by omega)]; exact g1)
  have G2 : Hid (W4.heap[w.heap.size + 1 + 1]? = some (.cells #[encStr t.con, .int .i64 t.var, .slice t.A t.args.length t.cap] 53)) := hide (by rw [hW4]; exact setRow_heap _ _ _ _ _ _ g2)
  rw [hW3] at hcp
  clear hW4 X3 g1 g2 g3 hW3
  have k0 := bytes_block G1.out 0
  have k1 := bytes_block G1.out 1
  have k2 := bytes_block G1.out 2
  have f0 := free_block G1.out 0
  have f1 := free_block G1.out 1
  have f2 := free_block G1.out 2
  simp only [List.getElem?_toArray, List.getElem?_cons_zero, List.getElem?_cons_succ] at k0 k1 k2
  have hin := hide (fun w' (e : Ext w w') => h.ext e)
  clear h
  unfold tyV
  go_enter Tryz.func34, Tryz.ntmps34
  go_wp2
  have XF : Ext w (((W4.setCell ⟨w.heap.size + 1, 0, none⟩ (.string ⟨(123 :: (c ++ [125])).toArray⟩)).setCell ⟨w.heap.size + 1, 1, none⟩ (.int .i64 0)).setCell ⟨w.heap.size + 1, 2, none⟩ (.slice (some ⟨w.heap.size + 1 + 1, 0, none⟩) 1 1)) := ((X4.out.setCell (by simp) _).setCell (by simp) _).setCell (by simp) _
  have GF : (((W4.setCell ⟨w.heap.size + 1, 0, none⟩ (.string ⟨(123 :: (c ++ [125])).toArray⟩)).setCell ⟨w.heap.size + 1, 1, none⟩ (.int .i64 0)).setCell ⟨w.heap.size + 1, 2, none⟩ (.slice (some ⟨w.heap.size + 1 + 1, 0, none⟩) 1 1)).heap[w.heap.size + 1 + 1]? = some (.cells #[encStr t.con, .int .i64 t.var, .slice t.A t.args.length t.cap] 53) := by
    rw [Below.heap_setCell _ _ _ _ (by simp), Below.heap_setCell _ _ _ _ (by simp), Below.heap_setCell _ _ _ _ (by simp)]
    exact G2.out
  refine bodyPost_ret (v := .agg #[.string ⟨(123 :: (c ++ [125])).toArray⟩, .int .i64 0, .slice (some ⟨w.heap.size + 1 + 1, 0, none⟩) 1 1]) ?_ rfl ⟨⟨w.heap.size + 1 + 1, rfl, dictT_in hc (hin.out _ XF) GF, by omega⟩, XF⟩
  simp [results, Tryz.f34, go_sem, k0, k1, k2]

end Go.Proofs.YtcnkfkjgpdmebaaGreatDoor

/- Types of System F: what may be; a row of empty types. -/
namespace Go.Proofs.YtcnkfkjgpdmebaaGreatDoor
open Go.RowKit Go.Shelf

def zero3 : Array Value := #[.string ⟨#[]⟩, .int .i64 0, .slice none 0 0]
def zerosT (m : Nat) : Array Value := ((List.replicate m Ty.zero).flatMap tyC.f).toArray
theorem zerosT_eq (m : Nat) : madeCells zero3 (m * 3) = zerosT m := by
  unfold madeCells zerosT
  apply Array.toList_inj.1
  rw [Array.toList_map, Array.toList_range]
  induction m with
  | zero => rfl
  | succ m ih =>
    rw [List.replicate_succ', List.flatMap_append, show (m + 1) * 3 = m * 3 + 1 + 1 + 1 by omega, List.range_succ, List.range_succ, List.range_succ, List.map_append, List.map_append, List.map_append, ih]
    simp only [List.append_assoc]
    congr 1
    have h0 : (m * 3) % 3 = 0 := by omega
    have h1 : (m * 3 + 1) % 3 = 1 := by omega
    have h2 : (m * 3 + 1 + 1) % 3 = 2 := by omega
    simp only [List.map_cons, List.map_nil, show zero3.size = 3 from rfl, h0, h1, h2, List.flatMap_cons, List.flatMap_nil]
    rfl
theorem make_zeros (m : Nat) (hm : m ≤ 100000) (W : World) : (Instr.makeSlice 31 (.int .i64 m) (.int .i64 m)).run Tryz.prog W = .ok (.slice (some ⟨W.heap.size, 0, none⟩) m m) (W.alloc (.cells (zerosT m) 53)) := by
  obtain ⟨i1, hj, hy0, hy1, hy2⟩ := info_parts ty_info
  have hmk := run_make (P := Tryz.prog) W 31 53 i1 _ Tryz.underlying31 hj hy0 .i64 .i64 m m (by omega) (Int.le_refl _) (by rw [hy2]; omega) (by omega)
  rw [hy1, Int.toNat_natCast, show (Value.agg #[.string ⟨#[]⟩, .int .i64 0, .slice none 0 0]).cells = zero3 from rfl, zerosT_eq] at hmk
  exact hmk
/-- A type whose args are empty. -/
def flatT (t : Ty) (b : Nat) : Ty := .mk t.con t.var (some ⟨b, 0, none⟩) (min t.args.length 4095) (List.replicate (min t.args.length 4095) Ty.zero)
theorem flat_in {w : World} {t : Ty} {b : Nat} (ht : t.con.length ≤ 9223372036854775807) (hb : w.heap[b]? = some (.cells (zerosT (min t.args.length 4095)) 53 (0, 0))) : TyIn w (flatT t b) :=
  TyIn.of (by simp) (by omega) ht (RowOf.block tyC _ hb) (fun k hk => by rw [List.eq_of_mem_replicate hk]; exact TyIn.zero w)
theorem zero_size : Ty.zero.size = 1 := by rw [Ty.size_eq]; rfl
theorem zero_depth : Ty.zero.depth = 1 := by rw [Ty.depth_eq]; rfl
theorem zero_shape : shapeT Ty.zero = true := by rw [shapeT_eq]; rfl
theorem flat_size (t : Ty) (b : Nat) : (flatT t b).size ≤ 4096 := by
  rw [Ty.size_eq]
  show ((List.replicate (min t.args.length 4095) Ty.zero).map Ty.size).sum + 1 ≤ 4096
  rw [List.map_replicate, List.sum_replicate_nat, zero_size]
  omega
theorem flat_legal (t : Ty) (b : Nat) : legalT (flatT t b) = headOk t.con t.var t.args.length := by
  have h1 : (flatT t b).size ≤ 4096 := by
    rw [Ty.size_eq]
    show ((List.replicate (min t.args.length 4095) Ty.zero).map Ty.size).sum + 1 ≤ 4096
    rw [List.map_replicate, List.sum_replicate_nat, zero_size]
    omega
  have h2 : (flatT t b).depth ≤ 100 := by
    rw [Ty.depth_eq]
    show ((List.replicate (min t.args.length 4095) Ty.zero).map Ty.depth).foldr max 0 + 1 ≤ 100
    have : ((List.replicate (min t.args.length 4095) Ty.zero).map Ty.depth).foldr max 0 ≤ 1 := (tmax_le _ _).2 (fun x hx => by
      rw [List.map_replicate] at hx
      rw [List.eq_of_mem_replicate hx, zero_depth]
      exact Nat.le_refl _)
    omega
  have h3 : shapeT (flatT t b) = headOk t.con t.var (min t.args.length 4095) := by
    rw [shapeT_eq]
    have : (flatT t b).args.all shapeT = true := List.all_eq_true.2 (fun x hx => by rw [List.eq_of_mem_replicate hx]; exact zero_shape)
    rw [this, Bool.and_true]
    show headOk t.con t.var (List.replicate (min t.args.length 4095) Ty.zero).length = _
    rw [List.length_replicate]
  unfold legalT
  rw [decide_eq_true h1, decide_eq_true h2, h3, Bool.true_and, Bool.true_and]
  have e0 : (min t.args.length 4095 == 0) = (t.args.length == 0) := by rw [Bool.eq_iff_iff]; simp
  have e2 : (min t.args.length 4095 == 2) = (t.args.length == 2) := by rw [Bool.eq_iff_iff]; simp; omega
  rw [headOk_eq, headOk_eq, e0, e2]
/-- May a type of System F be, of whatever size? -/
noncomputable def shapeD : Ty → Bool := Ty.allB fun t => dictB t || headOk t.con t.var t.args.length
noncomputable def legalD (t : Ty) : Bool := decide (t.size ≤ 4096) && decide (t.depth ≤ 100) && shapeD t
theorem shapeD_eq (t : Ty) : shapeD t = ((dictB t || headOk t.con t.var t.args.length) && t.args.all shapeD) := allB_eq _ t
def OkD (t : Ty) (L D : Int) : Prop := (t.size : Int) ≤ L ∧ (t.depth : Int) ≤ D ∧ shapeD t = true

end Go.Proofs.YtcnkfkjgpdmebaaGreatDoor
