/- Contracts: what is known of a class at a type; of the program, and of the reference. -/
import Derived.Test.YtmjiljhcjfnfpaaGreatJS17
import Derived.Laws.CopyOwn
import Derived.Laws.MakeOwn
/- Contracts: what is known of a class at a type; of the program, and of the reference. -/
namespace Go.Proofs.YtmjiljhcjfnfpaaGreat
open Go.RowKit

/-- The type of what is known of a class at a type, whose one arg lies in block b. -/
def dictT (c : Str) (t : Ty) (b : Nat) : Ty := .mk ([123] ++ c ++ [125]) 0 (some ⟨b, 0, none⟩) 1 [t]
theorem dictT_in {w : World} {c : Str} {t : Ty} {b : Nat} (hc : c.length ≤ 1000000000000000000) (h : TyIn w t) (hb : w.heap[b]? = some (.cells #[encStr t.con, .int .i64 t.var, .slice t.A t.args.length t.cap] 25)) : TyIn w (dictT c t b) := by
  refine TyIn.of (by simp) (by decide) (by simp; omega) ?_ (by simpa using h)
  exact RowOf.block tyC [t] (by simpa [tyC, Ty.cells] using hb)


theorem ty_info : (Tryz.prog.info? 25).map (fun i => (i.zero, i.size, i.bytes)) = some (some (.agg #[.string ⟨#[]⟩, .int .i64 0, .slice none 0 0]), 3, 48) := by kernel_rfl
theorem make_one (W : World) : (Instr.makeSlice 23 (.int .i64 1) (.int .i64 1)).run Tryz.prog W = .ok (.slice (some ⟨W.heap.size, 0, none⟩) 1 1) (W.alloc (.cells #[.string ⟨#[]⟩, .int .i64 0, .slice none 0 0] 25)) := by
  obtain ⟨i1, hj, hy0, hy1, hy2⟩ := info_parts ty_info
  have hmk := run_make (P := Tryz.prog) W 23 25 i1 _ Tryz.underlying23 hj hy0 .i64 .i64 1 1 (by omega) (Int.le_refl _) (by rw [hy2]; omega) (by omega)
  rw [hy1] at hmk
  have e : madeCells (Value.agg #[.string ⟨#[]⟩, .int .i64 0, .slice none 0 0]).cells ((1 : Int).toNat * 3) = #[.string ⟨#[]⟩, .int .i64 0, .slice none 0 0] := by kernel_rfl
  rw [e] at hmk
  exact hmk


end Go.Proofs.YtmjiljhcjfnfpaaGreat

/- Types of System F: what may be; a row of empty types. -/
namespace Go.Proofs.YtmjiljhcjfnfpaaGreat
open Go.RowKit Go.Shelf

def zero3 : Array Value := #[.string ⟨#[]⟩, .int .i64 0, .slice none 0 0]
def zerosT (m : Nat) : Array Value := ((List.replicate m Ty.zero).flatMap tyC.f).toArray
theorem zerosT_eq (m : Nat) : madeCells zero3 (m * 3) = zerosT m := by
  unfold madeCells zerosT
  apply Array.toList_inj.1
  rw [Array.toList_map, Array.toList_range]
  induction m with
  | zero => rfl
  | succ m ih =>
    rw [List.replicate_succ', List.flatMap_append, show (m + 1) * 3 = m * 3 + 1 + 1 + 1 by omega, List.range_succ, List.range_succ, List.range_succ, List.map_append, List.map_append, List.map_append, ih]
    simp only [List.append_assoc]
    congr 1
    have h0 : (m * 3) % 3 = 0 := by omega
    have h1 : (m * 3 + 1) % 3 = 1 := by omega
    have h2 : (m * 3 + 1 + 1) % 3 = 2 := by omega
    simp only [List.map_cons, List.map_nil, show zero3.size = 3 from rfl, h0, h1, h2, List.flatMap_cons, List.flatMap_nil]
    rfl
theorem make_zeros (m : Nat) (hm : m ≤ 100000) (W : World) : (Instr.makeSlice 23 (.int .i64 m) (.int .i64 m)).run Tryz.prog W = .ok (.slice (some ⟨W.heap.size, 0, none⟩) m m) (W.alloc (.cells (zerosT m) 25)) := by
  obtain ⟨i1, hj, hy0, hy1, hy2⟩ := info_parts ty_info
  have hmk := run_make (P := Tryz.prog) W 23 25 i1 _ Tryz.underlying23 hj hy0 .i64 .i64 m m (by omega) (Int.le_refl _) (by rw [hy2]; omega) (by omega)
  rw [hy1, Int.toNat_natCast, show (Value.agg #[.string ⟨#[]⟩, .int .i64 0, .slice none 0 0]).cells = zero3 from rfl, zerosT_eq] at hmk
  exact hmk
/-- A type whose args are empty. -/
def flatT (t : Ty) (b : Nat) : Ty := .mk t.con t.var (some ⟨b, 0, none⟩) (min t.args.length 4095) (List.replicate (min t.args.length 4095) Ty.zero)
theorem flat_in {w : World} {t : Ty} {b : Nat} (ht : t.con.length ≤ 9223372036854775807) (hb : w.heap[b]? = some (.cells (zerosT (min t.args.length 4095)) 25 (0, 0))) : TyIn w (flatT t b) :=
  TyIn.of (by simp) (by omega) ht (RowOf.block tyC _ hb) (fun k hk => by rw [List.eq_of_mem_replicate hk]; exact TyIn.zero w)
theorem zero_size : Ty.zero.size = 1 := by rw [Ty.size_eq]; rfl
theorem zero_depth : Ty.zero.depth = 1 := by rw [Ty.depth_eq]; rfl
theorem zero_shape : shapeT Ty.zero = true := by rw [shapeT_eq]; rfl
theorem flat_size (t : Ty) (b : Nat) : (flatT t b).size ≤ 4096 := by
  rw [Ty.size_eq]
  show ((List.replicate (min t.args.length 4095) Ty.zero).map Ty.size).sum + 1 ≤ 4096
  rw [List.map_replicate, List.sum_replicate_nat, zero_size]
  omega
theorem flat_legal (t : Ty) (b : Nat) : legalT (flatT t b) = headOk t.con t.var t.args.length := by
  have h1 : (flatT t b).size ≤ 4096 := by
    rw [Ty.size_eq]
    show ((List.replicate (min t.args.length 4095) Ty.zero).map Ty.size).sum + 1 ≤ 4096
    rw [List.map_replicate, List.sum_replicate_nat, zero_size]
    omega
  have h2 : (flatT t b).depth ≤ 100 := by
    rw [Ty.depth_eq]
    show ((List.replicate (min t.args.length 4095) Ty.zero).map Ty.depth).foldr max 0 + 1 ≤ 100
    have : ((List.replicate (min t.args.length 4095) Ty.zero).map Ty.depth).foldr max 0 ≤ 1 := (tmax_le _ _).2 (fun x hx => by
      rw [List.map_replicate] at hx
      rw [List.eq_of_mem_replicate hx, zero_depth]
      exact Nat.le_refl _)
    omega
  have h3 : shapeT (flatT t b) = headOk t.con t.var (min t.args.length 4095) := by
    rw [shapeT_eq]
    have : (flatT t b).args.all shapeT = true := List.all_eq_true.2 (fun x hx => by rw [List.eq_of_mem_replicate hx]; exact zero_shape)
    rw [this, Bool.and_true]
    show headOk t.con t.var (List.replicate (min t.args.length 4095) Ty.zero).length = _
    rw [List.length_replicate]
  unfold legalT
  rw [decide_eq_true h1, decide_eq_true h2, h3, Bool.true_and, Bool.true_and]
  have e0 : (min t.args.length 4095 == 0) = (t.args.length == 0) := by rw [Bool.eq_iff_iff]; simp
  have e2 : (min t.args.length 4095 == 2) = (t.args.length == 2) := by rw [Bool.eq_iff_iff]; simp; omega
  rw [headOk_eq, headOk_eq, e0, e2]
/-- May a type of System F be, of whatever size? -/
noncomputable def shapeD : Ty → Bool := Ty.allB fun t => dictB t || headOk t.con t.var t.args.length
noncomputable def legalD (t : Ty) : Bool := decide (t.size ≤ 4096) && decide (t.depth ≤ 100) && shapeD t
theorem shapeD_eq (t : Ty) : shapeD t = ((dictB t || headOk t.con t.var t.args.length) && t.args.all shapeD) := allB_eq _ t
def OkD (t : Ty) (L D : Int) : Prop := (t.size : Int) ≤ L ∧ (t.depth : Int) ≤ D ∧ shapeD t = true

end Go.Proofs.YtmjiljhcjfnfpaaGreat
