/- Contracts: a strings.Builder of the caller's own: what is written, and the text. (Lines of the shelf's own proofs, turned to this program: its laying falls on copyCheck's panic, which is another text here.) -/
import Derived.Test.YtmjiljhcjfnfpaaGreatJS25
import Derived.Lib.Strings
import Derived.Lib.Builder
import Derived.Lib.AppendStr
import Derived.Lib.UnsafeStr
import Derived.Laws.Externs
import Derived.Deep.DeepCutAuto
/- Contracts: a strings.Builder of the caller's own: what is written, and the text. (Lines of the shelf's own proofs, turned to this program: its laying falls on copyCheck's panic, which is another text here.) -/
namespace Go.Proofs.YtmjiljhcjfnfpaaGreat
open Go.RowKit

theorem bld_size : (Tryz.prog.info? 109).map (·.size) = some 2 := by kernel_rfl
theorem bld_lies : liesAt Tryz.prog Tryz.prog.depth 109 (2 / Tryz.prog.cellsOf 109) 0 109 1 = true := by kernel_rfl

set_option maxRecDepth 100000 in
set_option maxHeartbeats 1000000 in
theorem b_check_used (b : Nat) (w : World) (h0 : w.cell? ⟨b, 0, none⟩ = some (.pointer (some ⟨b, 0, none⟩))) :
    Calls Tryz.prog 109 #[.pointer (some ⟨b, 0, none⟩)] w fun e w' => e = .returned (.tuple #[]) ∧ w' = w := by
  obtain ⟨j, hj, _⟩ := Option.map_eq_some_iff.1 bld_size
  go_enter Tryz.func109, Tryz.ntmps109
  go_wp2
  rw [Lib.run_neq_ptr_same w _ Tryz.underlying106 hj]
  go_wp2
  go_end0
  exact ⟨rfl, rfl⟩

set_option maxRecDepth 100000 in
set_option maxHeartbeats 1000000 in
theorem b_check_fresh (b : Nat) (w : World) (h0 : w.cell? ⟨b, 0, none⟩ = some (.pointer none)) (hsh : w.shape? b = some (109, 2)) (hfz : w.frozen? ⟨b, 0, none⟩ = false) :
    Calls Tryz.prog 109 #[.pointer (some ⟨b, 0, none⟩)] w fun e w' => e = .returned (.tuple #[]) ∧ w' = w.setCell ⟨b, 0, none⟩ (.pointer (some ⟨b, 0, none⟩)) := by
  obtain ⟨j, hj, hjs⟩ := Option.map_eq_some_iff.1 bld_size
  go_enter Tryz.func109, Tryz.ntmps109
  go_wp2
  rw [Lib.run_to_unsafe w ⟨b, 0, none⟩ Tryz.underlying106 Tryz.underlying164 hj (by rw [hjs]; decide) hsh (Nat.zero_lt_succ 1)]
  simp only [Result.andThen]
  rw [Oper.upon_value]
  go_wp2
  rw [run_callFunc_extern Tryz.func136 (by kernel_rfl) (by kernel_rfl) (by kernel_rfl) (e := Extern.AbiNoEscape.same) (by kernel_rfl)]
  rw [Lib.run_noEscape]
  simp only [Result.andThen]
  rw [Oper.upon_value]
  go_wp2
  rw [Lib.run_from_unsafe w ⟨b, 0, none⟩ Tryz.underlying164 Tryz.underlying106 hj hsh bld_lies]
  simp only [Result.andThen]
  rw [Oper.upon_value]
  go_wp2
  go_end0
  exact ⟨rfl, rfl⟩

theorem b_check (B b : Nat) (bs : List Value) (w : World) (h : Lib.IsBuilder 109 5 B b bs w) :
    Calls Tryz.prog 109 #[.pointer (some ⟨b, 0, none⟩)] w fun e w' => e = .returned (.tuple #[]) ∧ (Lib.BuilderAt 109 5 B b (.pointer (some ⟨b, 0, none⟩)) bs w' ∧ Below B w w') := by
  rcases h with h | h
  · refine (b_check_fresh b w h.cell0 h.shape h.frozen0).mono ?_
    rintro e w' ⟨rfl, rfl⟩
    exact ⟨rfl, h.used _, (Below.refl B w).setCell (p := ⟨b, 0, none⟩) h.1 _⟩
  · refine (b_check_used b w h.cell0).mono ?_
    rintro e w' ⟨rfl, rfl⟩
    exact ⟨rfl, h, Below.refl B _⟩

theorem byte_info : (Tryz.prog.info? 5).map (fun i => (i.zero, i.size, i.bytes)) = some (some (.int .u8 0), 1, 1) := by kernel_rfl

set_option maxRecDepth 100000 in
set_option maxHeartbeats 2000000 in
theorem b_write (B b : Nat) (bs : List Value) (s : ByteArray) (w : World) (h : Lib.IsBuilder 109 5 B b bs w) (hlen : bs.length + s.size ≤ 140737488355328) (hBw : B ≤ w.heap.size) :
    Calls Tryz.prog 72 #[.pointer (some ⟨b, 0, none⟩), .string s] w fun e w' => e = .returned (.tuple #[.int .i64 s.size, .nilIface]) ∧ (Lib.BuilderAt 109 5 B b (.pointer (some ⟨b, 0, none⟩)) (bs ++ Lib.strCells s) w' ∧ Below B w w') := by
  obtain ⟨i0, hi, hz0, hz1, hz2⟩ := info_parts byte_info
  have HC := hide (b_check B b bs w h)
  clear h
  go_enter Tryz.func72, Tryz.ntmps72
  go_wp2_with fail
  refine HC.out.mono ?_
  rintro e w1 ⟨rfl, h1, hb1⟩
  obtain ⟨hB, v, hbk, hown, hne⟩ := h1
  have c0 : w1.cell? ⟨b, 0, none⟩ = some (.pointer (some ⟨b, 0, none⟩)) := by rw [Lib.cell_of_heap hbk]; rfl
  have c1 : w1.cell? ⟨b, 1, none⟩ = some v := by rw [Lib.cell_of_heap hbk]; rfl
  go_wp2_with (at_builtin; refine Lib.wpList_append_own_string _ rfl _ _ 107 9 rfl B 5 i0 Tryz.underlying107 Tryz.underlying9 hi hz0 hz1 hz2 _ _ _ rfl hown s rfl ?c3 ?c4 ?c5 ?_)
  case c3 => unfold maxLen; omega
  case c4 => omega
  case c5 => have := hb1.size; omega
  intro v' w2 hown' hgrow _
  have hlt : b < w1.heap.size := lt_of_obj hbk
  have hb2 : w2.heap[b]? = some (.cells #[.pointer (some ⟨b, 0, none⟩), v] 109 (0, 0)) := by
    rw [hgrow.block b hlt (fun e => hne e.symm)]
    exact hbk
  have d0 : w2.cell? ⟨b, 0, none⟩ = some (.pointer (some ⟨b, 0, none⟩)) := by rw [Lib.cell_of_heap hb2]; rfl
  have d1 : w2.cell? ⟨b, 1, none⟩ = some v := by rw [Lib.cell_of_heap hb2]; rfl
  have f1 : w2.frozen? ⟨b, 1, none⟩ = false := Lib.frozen_of_heap hb2 1
  obtain ⟨ao, n', cap, rfl⟩ : ∃ ao n' cap, v' = .slice ao n' cap := by
    rcases hown'.2 with ⟨hv, _⟩ | ⟨g, cap, cur, hv, _⟩
    · exact ⟨_, _, _, hv⟩
    · exact ⟨_, _, _, hv⟩
  go_wp2
  go_ret2
  refine ⟨rfl, ?_, ?_⟩
  · exact Lib.BuilderAt.put (T := 109) (e := 5) hB hb2 (bs' := bs ++ Lib.strCells s) (by simpa [Lib.strCells_length] using hown') (by decide)
  · exact (hb1.grown hgrow (by have := hb1.size; omega) (fun k hk => (hown.lt k hk).1)).setCell (p := ⟨b, 1, none⟩) hB _

set_option maxRecDepth 100000 in
set_option maxHeartbeats 2000000 in
theorem b_string (B b : Nat) (l : List UInt8) (w : World) (h : Lib.IsBuilder 109 5 B b (Lib.byteCells l) w) (h0 : l ≠ []) :
    Calls Tryz.prog 74 #[.pointer (some ⟨b, 0, none⟩)] w fun e w' => e = .returned (.string ⟨l.toArray⟩) ∧ Below B w w' := by
  obtain ⟨p, hB, v, hbk, hown, hne⟩ : ∃ p, Lib.BuilderAt 109 5 B b p (Lib.byteCells l) w := by
    rcases h with h | h
    · exact ⟨_, h⟩
    · exact ⟨_, h⟩
  have hl0 : l.length ≠ 0 := by simpa using h0
  rw [Lib.byteCells_length] at hown
  obtain ⟨g, cap, cur, rfl, hbg, hg, hnc, hcm, hcs, htake⟩ : ∃ g cap cur, v = .slice (some ⟨g, 0, none⟩) l.length cap ∧ B ≤ g ∧ w.heap[g]? = some (.cells cur 5 (0, 0)) ∧ l.length ≤ cap ∧ cap ≤ maxLen ∧ cur.size = cap * 1 ∧ cur.toList.take (l.length * 1) = Lib.byteCells l := by
    rcases hown.2 with ⟨_, hz⟩ | ⟨g, cap, cur, hv, r⟩
    · exact absurd hz hl0
    · exact ⟨g, cap, cur, hv, r⟩
  have c1 : w.drew.cell? ⟨b, 1, none⟩ = some (.slice (some ⟨g, 0, none⟩) l.length cap) := by
    have : w.drew.heap[b]? = some (.cells #[p, .slice (some ⟨g, 0, none⟩) l.length cap] 109 (0, 0)) := hbk
    rw [Lib.cell_of_heap this]; rfl
  have hSD : (Builtin.unsafeSliceData_ #[107] 146 #[.slice (some ⟨g, 0, none⟩) l.length cap]).run Tryz.prog w.drew = .ok (.pointer (some ⟨g, 0, none⟩)) w.drew :=
    Lib.run_unsafeSliceData_row _ _ _ _ _ _ (by omega)
  have hUS : (Builtin.unsafeString_ #[146, 3] 9 #[.pointer (some ⟨g, 0, none⟩), .int .i64 l.length]).run Tryz.prog w.drew = .ok (.string ⟨l.toArray⟩) (w.drew.freeze ⟨g, 0, none⟩ l.length) := by
    refine Lib.run_unsafeString_row w.drew 146 3 9 5 Tryz.underlying146 (by kernel_rfl) g cur.size (by have hg' : w.drew.heap[g]? = some (.cells cur 5 (0, 0)) := hg; simp [World.shape?, hg']) l h0 (by omega) (by unfold maxLen at hcm; omega) ?_
    intro j x hx
    have := hown.cells (g := g) rfl j (.int .u8 x.toNat) (by simp [Lib.byteCells, hx])
    exact this
  go_enter Tryz.func74, Tryz.ntmps74
  go_wp2
  go_region
  all_goals (go_wp2; go_ret; exact ⟨rfl, Lib.below_freeze (Below.drew (Below.refl B w)) (p := ⟨g, 0, none⟩) hbg _⟩)

end Go.Proofs.YtmjiljhcjfnfpaaGreat

/- Contracts: a variable's text; the text that a type begins with. -/
namespace Go.Proofs.YtmjiljhcjfnfpaaGreat
open Go.RowKit

theorem letter_len {v : Int} (h1 : v ≤ 9223372036854775807) : (letter v).length ≤ 30 := by
  unfold letter
  split
  · simp
  · rw [List.length_cons]
    split
    · simp
    · have := digs_20 (show v.toNat / 26 ≤ 9223372036854775807 by omega)
      omega
theorem varS_len {v : Int} (h0 : -9223372036854775808 ≤ v) (h1 : v ≤ 9223372036854775807) : (varS v).length ≤ 30 := by
  unfold varS
  split
  · exact letter_len h1
  · have := digs_20 (show (-1 - v).toNat ≤ 9223372036854775807 by omega)
    rw [List.length_cons]
    omega
theorem varS_ne (v : Int) : varS v ≠ [] := by
  unfold varS
  split
  · unfold letter
    rw [if_neg (by omega)]
    simp
  · simp
theorem varS_nn {v : Int} (h : 0 ≤ v) : varS v = letter v := by unfold varS; rw [if_pos h]
theorem varS_neg {v : Int} (h : v < 0) : varS v = [63] ++ digs (-1 - v).toNat := by unfold varS; rw [if_neg (by omega)]; rfl

/-- A variable. -/
def varT (v : Int) : Ty := .mk [] v none 0 []
theorem varT_in (w : World) (v : Int) : TyIn w (varT v) := TyIn.of (Nat.zero_le _) (by omega) (by decide) (RowOf.nil _ _ _) (by simp)
theorem varT_size (v : Int) : (varT v).size = 1 := by rw [Ty.size_eq]; rfl
theorem varT_legal (v : Int) : legalT (varT v) = true := by
  have h1 := varT_size v
  have h2 : (varT v).depth = 1 := by rw [Ty.depth_eq]; rfl
  have h3 : shapeT (varT v) = true := by unfold shapeT; rw [allB_eq]; rfl
  unfold legalT
  rw [h1, h2, h3]
  rfl

set_option maxRecDepth 10000 in
set_option maxHeartbeats 2000000 in
theorem t_name (v : Int) (n : Nat) (h0 : -9223372036854775808 ≤ v) (h1 : v ≤ 9223372036854775807) (w : World) : Calls Tryz.prog 73 #[.agg #[.string ⟨#[]⟩, .int .i64 v, .int .i64 n]] w fun e w' => e = .returned (encStr (varS v)) ∧ Ext w w' := by
  have X0 : Hid (Ext w (w.alloc (.cells #[.string ⟨#[]⟩, .int .i64 v, .int .i64 n] 78))) := hide ((Ext.refl w).alloc _)
  obtain ⟨c0, c1, c2⟩ := hbox (w.alloc (.cells #[encStr [], .int .i64 v, .int .i64 n] 78)) w.heap.size [] v n (at_newB _ _ _ rfl)
  unfold encStr at c0
  by_cases hv : 0 ≤ v
  · have hv' : decide (v ≥ 0) = true := decide_eq_true hv
    have HN := hide (fun w' => n_letter v h1 w')
    rw [varS_nn hv]
    generalize letter v = s at *
    go_enter Tryz.func73, Tryz.ntmps73
    go_wp2_with fail
    refine (HN.out _).mono ?_
    rintro e w2 ⟨rfl, hx⟩
    go_wp2
    go_ret
    exact ⟨rfl, X0.out.trans hx⟩
  · have hv' : decide (v ≥ 0) = false := decide_eq_false hv
    obtain ⟨m, hm⟩ : ∃ m : Nat, -1 - v = m := ⟨(-1 - v).toNat, by omega⟩
    have HT := hide (fun w' => i_text m (by omega) w')
    have H20 := hide (digs_20 (show m ≤ 9223372036854775807 by omega))
    have e1 : (-1 - v).toNat = m := by omega
    rw [varS_neg (by omega), e1]
    generalize digs m = s at *
    go_enter Tryz.func73, Tryz.ntmps73
    go_wp2_with fail
    refine (HT.out _).mono ?_
    rintro e w2 ⟨rfl, hx⟩
    have hsz : ¬ ((⟨#[63]⟩ : ByteArray).size + (⟨s.toArray⟩ : ByteArray).size > 9223372036854775807) := by have := H20.out; rw [ba_size s]; show ¬ (1 + s.length > _); omega
    go_wp2
    go_ret
    refine ⟨?_, X0.out.trans hx⟩
    exact congrArg (fun b => Ending.returned (Value.string b)) (ByteArray.mk_append_mk [63] s)

set_option maxRecDepth 10000 in
set_option maxHeartbeats 2000000 in
/-- A variable's text. -/
theorem t_textV (v : Int) (h0 : -9223372036854775808 ≤ v) (h1 : v ≤ 9223372036854775807) (w : World) : Calls Tryz.prog 45 #[.agg #[.string ⟨#[]⟩, .int .i64 v, .slice none 0 0]] w fun e w' => e = .returned (encStr (varS v)) ∧ Ext w w' := by
  obtain ⟨W, hW⟩ : ∃ W, W = (w.alloc (.cells #[.string ⟨#[]⟩, .int .i64 v, .slice none 0 0] 25)).alloc (.cells #[.pointer none, .slice none 0 0] 109) := ⟨_, rfl⟩
  have X0 : Hid (Ext w W) := hide (by rw [hW]; exact ((Ext.refl w).alloc _).alloc _)
  have hsz : W.heap.size = w.heap.size + 2 := by rw [hW]; simp
  have XB : Hid (W.heap[w.heap.size]? = some (.cells #[.string ⟨#[]⟩, .int .i64 v, .slice none 0 0] 25 (0, 0))) := hide (by rw [hW]; exact ((Ext.refl _).alloc _).heap (by simp) |>.trans (at_newB _ _ _ rfl))
  have BB : Hid (W.heap[w.heap.size + 1]? = some (.cells #[.pointer none, .slice none 0 0] 109 (0, 0))) := hide (by rw [hW]; exact at_newB _ _ _ (by simp))
  have HO := hide (fun w' => t_of (varT v) w')
  have HN := hide (fun w' => t_name v 0 h0 h1 w')
  unfold headV varT tyV at HO
  simp only [Ty.con, Ty.var, Ty.A, Ty.cap, Ty.args, List.length_nil, encStr] at HO
  have HL := hide (varS_len h0 h1)
  have HE := hide (varS_ne v)
  generalize varS v = s at *
  have b0 : (w.alloc (.cells #[.string ⟨#[]⟩, .int .i64 v, .slice none 0 0] 25)).cell? ⟨w.heap.size, 0, none⟩ = some (.string ⟨#[]⟩) := bytes_block (at_newB _ _ _ rfl) 0
  have c0 := bytes_block XB.out 0
  have c1 := bytes_block XB.out 1
  have c2 := bytes_block XB.out 2
  simp only [List.getElem?_toArray, List.getElem?_cons_zero, List.getElem?_cons_succ] at c0 c1 c2
  go_enter Tryz.func45, Tryz.ntmps45
  go_wp2_with fail
  rw [← hW]
  clear b0 hW
  refine (HO.out _).mono ?_
  rintro e w2 ⟨rfl, hx2⟩
  have X2 := hide hx2
  clear hx2
  go_wp2_with fail
  refine (HN.out _).mono ?_
  rintro e w3 ⟨rfl, hx3⟩
  have X3 := hide (X2.out.trans hx3)
  have IB : Lib.IsBuilder 109 5 (w.heap.size + 1) (w.heap.size + 1) [] w3 := .inl ⟨Nat.le_refl _, _, (X3.out.heap (by omega)).trans BB.out, World.ownsRow_nil _ _ _ _, fun e => by cases e⟩
  have hs3 := X3.out.size
  have HW := hide (b_write (w.heap.size + 1) (w.heap.size + 1) [] ⟨s.toArray⟩ w3 IB (by have := HL.out; rw [ba_size]; show 0 + s.length ≤ _; omega) (by omega))
  clear IB hx3
  go_wp2_with fail
  refine HW.out.mono ?_
  rintro e w4 ⟨rfl, hb4, hx4⟩
  rw [List.nil_append, Lib.strCells_eq] at hb4
  have XB4 : Hid (w4.heap[w.heap.size]? = some (.cells #[.string ⟨#[]⟩, .int .i64 v, .slice none 0 0] 25 (0, 0))) := hide ((hx4.block _ (by omega)).trans ((X3.out.heap (by omega)).trans XB.out))
  have HS := hide (b_string (w.heap.size + 1) (w.heap.size + 1) s w4 (.inr hb4) HE.out)
  have X4 : Hid (Below w.heap.size w w4) := hide ((X0.out.trans X3.out).below.trans (hx4.mono (by omega)))
  clear hb4 hx4 c0 c1 c2
  have c2 := bytes_block XB4.out 2
  simp only [List.getElem?_toArray, List.getElem?_cons_zero, List.getElem?_cons_succ] at c2
  go_wp2
  go_loopw [34] (fun i wr => i = .int .i64 0 ∧ wr = w4) (fun _ _ => 0)
  case atStart => exact ⟨rfl, rfl⟩
  case round =>
    obtain ⟨rfl, rfl⟩ := hrel
    go_wp2_with fail
    refine HS.out.mono ?_
    rintro e w5 ⟨rfl, hx5⟩
    go_wp2
    go_ret
    exact ⟨rfl, Ext.of_below (X4.out.trans (hx5.mono (by omega))) (Nat.le_refl _)⟩

set_option maxRecDepth 10000 in
set_option maxHeartbeats 2000000 in
theorem t_TextV (v : Int) (h0 : -9223372036854775808 ≤ v) (h1 : v ≤ 9223372036854775807) (w : World) : Calls Tryz.prog 18 #[.agg #[.string ⟨#[]⟩, .int .i64 v, .slice none 0 0]] w fun e w' => e = .returned (encStr (varS v)) ∧ Ext w w' := by
  have X0 : Hid (Ext w (w.alloc (.cells #[.string ⟨#[]⟩, .int .i64 v, .slice none 0 0] 25))) := hide ((Ext.refl w).alloc _)
  have HB : Hid (∀ w', Ext (w.alloc (.cells #[.string ⟨#[]⟩, .int .i64 v, .slice none 0 0] 25)) w' → w'.cell? ⟨w.heap.size, 0, none⟩ = some (.string ⟨#[]⟩) ∧ w'.cell? ⟨w.heap.size, 1, none⟩ = some (.int .i64 v) ∧ w'.cell? ⟨w.heap.size, 2, none⟩ = some (.slice none 0 0)) := hide (fun w' e => ⟨e.cell (bytes_block (at_newB _ _ _ rfl) 0), e.cell (bytes_block (at_newB _ _ _ rfl) 1), e.cell (bytes_block (at_newB _ _ _ rfl) 2)⟩)
  obtain ⟨c0, c1, c2⟩ := HB.out _ (Ext.refl _)
  have HL := hide (fun w' => t_legal (varT v) w' (varT_in w' v) (by rw [varT_size]; omega))
  have HT := hide (fun w' => t_textV v h0 h1 w')
  rw [varT_legal] at HL
  unfold varT tyV at HL
  simp only [Ty.con, Ty.var, Ty.A, Ty.cap, Ty.args, List.length_nil, encStr] at HL
  go_enter Tryz.func18, Tryz.ntmps18
  go_wp2_with fail
  refine (HL.out _).mono ?_
  rintro e w2 ⟨rfl, hx2⟩
  have X2 := hide hx2
  obtain ⟨d0, d1, d2⟩ := HB.out _ X2.out
  clear hx2 c0 c1 c2
  go_wp2_with fail
  refine (HT.out _).mono ?_
  rintro e w3 ⟨rfl, hx3⟩
  go_wp2
  go_ret
  exact ⟨rfl, X0.out.trans (X2.out.trans hx3)⟩

end Go.Proofs.YtmjiljhcjfnfpaaGreat

/- Types whose numbers are int's. -/
namespace Go.Proofs.YtmjiljhcjfnfpaaGreat
open Go.RowKit

/-- All numbers of a type are int's; no name is beyond reach. -/
noncomputable def okI : Ty → Bool := Ty.allB fun t => decide (-9223372036854775808 ≤ t.var ∧ t.var ≤ 9223372036854775807 ∧ t.con.length ≤ 140737488351232)
theorem okI_eq (t : Ty) : okI t = (decide (-9223372036854775808 ≤ t.var ∧ t.var ≤ 9223372036854775807 ∧ t.con.length ≤ 140737488351232) && t.args.all okI) := allB_eq _ t
theorem okI_mk {s : Str} {v : Int} {A : Option Addr} {c : Nat} {l : List Ty} (h1 : -9223372036854775808 ≤ v) (h2 : v ≤ 9223372036854775807) (h3 : s.length ≤ 140737488351232) (h : ∀ k ∈ l, okI k = true) : okI (.mk s v A c l) = true := by
  rw [okI_eq, Bool.and_eq_true]
  exact ⟨decide_eq_true ⟨h1, h2, h3⟩, List.all_eq_true.2 h⟩
theorem okI_lo {t : Ty} (h : okI t = true) : -9223372036854775808 ≤ t.var := by
  rw [okI_eq, Bool.and_eq_true] at h
  exact (of_decide_eq_true h.1).1
theorem okI_hi {t : Ty} (h : okI t = true) : t.var ≤ 9223372036854775807 := by
  rw [okI_eq, Bool.and_eq_true] at h
  exact (of_decide_eq_true h.1).2.1
theorem okI_con {t : Ty} (h : okI t = true) : t.con.length ≤ 140737488351232 := by
  rw [okI_eq, Bool.and_eq_true] at h
  exact (of_decide_eq_true h.1).2.2
theorem okI_arg {t : Ty} (h : okI t = true) {k : Ty} (hk : k ∈ t.args) : okI k = true := by
  rw [okI_eq, Bool.and_eq_true] at h
  exact List.all_eq_true.1 h.2 k hk

end Go.Proofs.YtmjiljhcjfnfpaaGreat

/- Texts of types: how long they are. No program in sight. -/
namespace Go.Proofs.YtmjiljhcjfnfpaaGreat
open Go.RowKit

/-- What a type's text begins with. -/
def headT (t : Ty) : Str := if t.con = [] then varS t.var else t.con
theorem digsP_20 {n : Nat} (h : n ≤ 9223372036854775807) : (digs n).length ≤ 20 := digs_len 19 n (Nat.lt_of_le_of_lt h (by decide))
theorem varS_len30 {v : Int} (h0 : -9223372036854775808 ≤ v) (h1 : v ≤ 9223372036854775807) : (varS v).length ≤ 30 := by
  unfold varS
  split
  · unfold letter
    split
    · simp
    · rw [List.length_cons]
      split
      · simp
      · have := digsP_20 (show v.toNat / 26 ≤ 9223372036854775807 by omega)
        omega
  · have := digsP_20 (show (-1 - v).toNat ≤ 9223372036854775807 by omega)
    rw [List.length_cons]
    omega
theorem headT_len {t : Ty} (h : okI t = true) : (headT t).length ≤ 140737488351232 := by
  unfold headT
  split
  · exact Nat.le_trans (varS_len30 (okI_lo h) (okI_hi h)) (by decide)
  · exact okI_con h
theorem brack_len (b : Bool) (s : Str) : (brack b s).length ≤ s.length + 2 := by
  unfold brack
  split
  · simp
  · omega
theorem restT_len (l : List Ty) (h : ∀ k ∈ l, (textT k).length + 3 ≤ 140737488351272 * k.size) : (restT l).length ≤ 140737488351272 * (l.map Ty.size).sum := by
  unfold restT
  induction l with
  | nil => simp
  | cons k l ih =>
    have h1 := h k (List.mem_cons_self)
    have h2 := ih (fun x hx => h x (List.mem_cons_of_mem _ hx))
    have h3 := brack_len (decide (0 < k.args.length)) (textT k)
    rw [List.map_cons, List.flatten_cons, List.length_append, List.length_append, List.map_cons, List.sum_cons, Nat.mul_add]
    simp only [List.length_cons, List.length_nil]
    omega
theorem textT_len (t : Ty) : okI t = true → (textT t).length + 3 ≤ 140737488351272 * t.size := by
  induction t using Ty.ind with
  | h t ih =>
  intro ok
  have hk : ∀ k ∈ t.args, (textT k).length + 3 ≤ 140737488351272 * k.size := fun k hk => ih k hk (okI_arg ok hk)
  by_cases h : t.con = [45, 62] ∧ t.args.length = 2
  · obtain ⟨hc, hl⟩ := h
    rw [textT_fun hc (by omega) (by omega) hl, Ty.size_eq]
    obtain ⟨a, b, hab⟩ : ∃ a b, t.args = [a, b] := by
      match t.args, hl with
      | [a, b], _ => exact ⟨a, b, rfl⟩
    simp only [hab, List.getElem_cons_zero, List.getElem_cons_succ] at hk ⊢
    have h1 := hk a (by simp)
    have h2 := hk b (by simp)
    have h3 := brack_len (decide (a.con = [45, 62])) (textT a)
    simp only [List.length_append, List.length_cons, List.length_nil, List.map_cons, List.map_nil, List.sum_cons, List.sum_nil]
    omega
  · rw [textT_else h, Ty.size_eq, List.length_append]
    have h1 := restT_len t.args hk
    have h2 := headT_len ok
    unfold headT at h2
    omega
theorem textT_few {t : Ty} (h : okI t = true) (hs : t.size ≤ 20000) : (textT t).length ≤ 3000000000000000000 := by
  have := textT_len t h
  omega
theorem restT_few {t : Ty} (h : okI t = true) (hs : t.size ≤ 20000) (k : Nat) : (headT t ++ restT (t.args.take k)).length ≤ 3000000000000000000 := by
  have h1 := restT_len (t.args.take k) (fun x hx => textT_len x (okI_arg h (List.mem_of_mem_take hx)))
  have h2 := headT_len h
  have h3 : ((t.args.take k).map Ty.size).sum ≤ (t.args.map Ty.size).sum := by
    have e : (t.args.map Ty.size).sum = ((t.args.take k).map Ty.size).sum + ((t.args.drop k).map Ty.size).sum := by
      rw [← List.sum_append_nat, ← List.map_append, List.take_append_drop]
    omega
  have h4 := Ty.size_eq t
  rw [List.length_append]
  omega

end Go.Proofs.YtmjiljhcjfnfpaaGreat

/- Contracts on the reference: a type's text. (A program of ours has printed a part.) -/
namespace Go.Proofs.YtmjiljhcjfnfpaaGreat
open Go.RowKit

/-- May a type's text be told? -/
noncomputable def goodT : Ty → Bool := Ty.allB fun t => (!(t.con == [45, 62]) || decide (t.args.length = 2)) && (!(t.con == []) || decide (t.args.length = 0))
theorem goodT_eq (t : Ty) : goodT t = (((!(t.con == [45, 62]) || decide (t.args.length = 2)) && (!(t.con == []) || decide (t.args.length = 0))) && t.args.all goodT) := allB_eq _ t
theorem goodT_arg {t : Ty} (h : goodT t = true) {k : Ty} (hk : k ∈ t.args) : goodT k = true := by
  rw [goodT_eq, Bool.and_eq_true] at h
  exact List.all_eq_true.1 h.2 k hk
theorem goodT_fun {t : Ty} (h : goodT t = true) (hc : (t.con == [45, 62]) = true) : t.args.length = 2 := by
  rw [goodT_eq, hc, Bool.and_eq_true, Bool.and_eq_true] at h
  simpa using h.1.1
theorem goodT_var {t : Ty} (h : goodT t = true) (hc : (t.con == []) = true) : t.args = [] := by
  rw [goodT_eq, hc, Bool.and_eq_true, Bool.and_eq_true] at h
  have := h.1.2
  exact List.eq_nil_of_length_eq_zero (by simpa using this)



end Go.Proofs.YtmjiljhcjfnfpaaGreat

/- Contract: whether a type of System F may be: the program's walk. -/
namespace Go.Proofs.YtmjiljhcjfnfpaaGreat
open Go.RowKit Go.Shelf



end Go.Proofs.YtmjiljhcjfnfpaaGreat

/- Contracts: whether a type of System F may be; of the program, and of the reference. -/
namespace Go.Proofs.YtmjiljhcjfnfpaaGreat
open Go.RowKit Go.Shelf

theorem legalD_iff (t : Ty) : legalD t = true ↔ OkD t 4096 100 := by
  unfold legalD OkD
  simp only [Bool.and_eq_true, decide_eq_true_eq]
  constructor
  · rintro ⟨⟨h1, h2⟩, h3⟩
    exact ⟨by omega, by omega, h3⟩
  · rintro ⟨h1, h2, h3⟩
    exact ⟨⟨by omega, by omega⟩, h3⟩


end Go.Proofs.YtmjiljhcjfnfpaaGreat

/- A legal type's text may be told. -/
namespace Go.Proofs.YtmjiljhcjfnfpaaGreat
open Go.RowKit

theorem allB_mono {f g : Ty → Bool} (h : ∀ t, f t = true → g t = true) (t : Ty) : t.allB f = true → t.allB g = true := by
  induction t using Ty.ind with
  | h t ih =>
  intro k
  rw [allB_eq, Bool.and_eq_true, List.all_eq_true] at k ⊢
  exact ⟨h t k.1, fun x hx => ih x hx (k.2 x hx)⟩
theorem good_of_legal {t : Ty} (h : legalD t = true) : goodT t = true := by
  unfold legalD at h
  rw [Bool.and_eq_true] at h
  unfold shapeD at h
  refine allB_mono (fun x hx => ?_) t h.2
  rw [Bool.or_eq_true] at hx
  rcases hx with hx | hx
  · have hc : x.con ≠ [] ∧ x.con ≠ [45, 62] := by
      constructor
      · intro e
        unfold dictB at hx
        rw [e, show classS [] = [] from rfl] at hx
        simp at hx
      · intro e
        unfold dictB at hx
        rw [e, show classS [45, 62] = [] from rfl] at hx
        simp at hx
    simp [hc.1, hc.2]
  · unfold headOk at hx
    cases h1 : (x.con == [])
    · rw [h1] at hx
      cases h2 : (x.con == [45, 62])
      · rfl
      · rw [h2] at hx
        simp at hx
        simp [hx.2]
    · rw [h1] at hx
      have e : x.con = [] := by simpa using h1
      simp at hx
      rw [e, hx]
      rfl

end Go.Proofs.YtmjiljhcjfnfpaaGreat

/- Contracts: whether a type, a predicate, is a term, of whatever size; of the program. (A program of ours has printed this.) -/
namespace Go.Proofs.YtmjiljhcjfnfpaaGreat
open Go.RowKit Go.Shelf

set_option maxRecDepth 10000 in
set_option maxHeartbeats 2000000 in
theorem t_walkU (f : FuncId) (lb : Array Value) (ef : Opens f) (w0 : World) (c : Nat) (J Jx : List (Nat × Ty) → World → Value → Prop)
    (hJe : ∀ pre w w' v, J pre w v → Ext w w' → J pre w' v)
    (hJl : ∀ pre w v, J pre w v → w0.heap.size ≤ c ∧ c < w.heap.size ∧ ∀ k, v.ownBlock = some k → w0.heap.size ≤ k ∧ k < w.heap.size)
    (hY : ∀ pre (x : Nat × Ty) w v, J pre w v → x.1 ≤ 1000000 → TyIn w x.2 → Calls Tryz.prog f (#[tyV x.2, .int .i64 (x.1 : Nat)] ++ lb) w fun e w' =>
      ∃ v', Tr c w v w' v' ∧ ((e = .returned (.bool true) ∧ J (pre ++ [x]) w' v') ∨ (e = .returned (.bool false) ∧ Jx (pre ++ [x]) w' v')))
    (hJd : ∀ pre (x : Nat × Ty) w v, J (pre ++ [x]) w v → x.1 ≤ 1000) (t : Ty) :
    ∀ (d : Nat) (pre : List (Nat × Ty)) (w : World) (v : Value), TyIn w0 t → Below w0.heap.size w0 w → J pre w v → d ≤ 1000000 →
      Calls Tryz.prog 68 #[tyV t, .int .i64 d, .func (.func f) #[] lb] w fun e w' => ∃ v', Tr c w v w' v' ∧ ((e = .returned (.bool true) ∧ J (pre ++ t.lev d) w' v') ∨ (e = .returned (.bool false) ∧ ∃ q, q <+: t.lev d ∧ Jx (pre ++ q) w' v')) := by
  induction t using Ty.ind with
  | h t ih =>
  intro d pre w v ht hB hJ hsz
  have IH := hide ih
  have Hk := hide ht.all
  have hle := ht.le
  have hmx := ht.max
  have HB0 := hide (TBox.new w t)
  have X0 : Ext w (w.alloc (.cells #[encStr t.con, .int .i64 t.var, .slice t.A t.args.length t.cap] 25)) := (Ext.refl w).alloc _
  have hlv := tlev_eq t d
  have hJ0 := hJe _ _ _ _ hJ X0
  have hl0 := hJl _ _ _ hJ
  have HC := hide (hY pre (d, t) _ v hJ0 (by show d ≤ 1000000; omega) ((ht.old hB).ext X0))
  have HBw := hide hB
  have HLt := hide (fun k (hk : k < t.args.length) => tlevs_take t.args (d + 1) hk)
  have HLp := hide (fun k => tlevs_split t.args (d + 1) k)
  have HLv := hide hlv
  have HvB : Hid (∀ k, v.ownBlock = some k → w0.heap.size ≤ k) := hide (fun k e => (hl0.2.2 k e).1)
  have HJe := hide hJe
  have HJl := hide hJl
  have HJd := hide hJd
  have T0 : Hid (Tr c w v (w.alloc (.cells #[encStr t.con, .int .i64 t.var, .slice t.A t.args.length t.cap] 25)) v) := hide (Tr.of_ext X0)
  unfold Opens at ef
  have hne : w.heap.size ≠ c := by omega
  have hnv : v.ownBlock ≠ some w.heap.size := fun e => by have := (hl0.2.2 _ e).2; omega
  clear ih hB hJ hJ0 hlv hY hJe hJl hJd ht hl0 X0
  unfold tyV at *
  dsimp only at HC
  generalize hA0 : t.A = A0 at *
  have HA0 := hide hA0
  clear hA0
  go_enter Tryz.func68, Tryz.ntmps68
  go_wp2_with fail
  refine HC.out.mono ?_
  rintro e w2 ⟨v2, ht2, (⟨rfl, hJ2⟩ | ⟨rfl, hJx⟩)⟩
  · have T2 := hide (T0.out.trans ht2)
    have HB2 := hide (HB0.out.tr ht2 hne hnv)
    have hdd : d ≤ 1000 := HJd.out _ _ _ _ hJ2
    have HJ2 := hide hJ2
    clear ht2 hJ2 T0 HC
    have hc2 := HB2.out.c2
    rw [HA0.out] at hc2
    go_wp2
    go_loopw [17] (fun i wr => ∃ (k : Nat) (v3 : Value), k ≤ t.args.length ∧ i = .int .i64 k ∧ Hid (J (pre ++ (d, t) :: tlevs (t.args.take k) (d + 1)) wr v3) ∧ Hid (Tr c w v wr v3) ∧ Hid (Tr c w2 v2 wr v3)) (fun i _ => t.args.length - (intOf i).toNat)
    case atStart => exact ⟨0, v2, Nat.zero_le _, rfl, hide (by simpa [tlevs] using HJ2.out), T2, hide (Tr.refl _ _ _)⟩
    case round =>
      obtain ⟨k, v3, hk, rfl, HJ, HT, HT2⟩ := hrel
      by_cases hlt : k < t.args.length
      · have hlt' : (k : Int) < (t.args.length : Int) := by omega
        have hk0 : (0 : Int) ≤ (k : Int) := by omega
        have hj0 := HJl.out _ _ _ HJ.out
        have hjw := HJl.out _ _ _ HJ2.out
        have HKw : Hid (Below w0.heap.size w0 wr) := hide (HBw.out.trans (HT.out.below (by have := HBw.out.size; omega) hj0.1 (fun k hk => (HvB.out k hk))))
        obtain ⟨b, o, rfl, hb, q0, q1, q2⟩ := (Hk.out.old HKw.out).at_ hlt
        have hck := List.getElem_mem hlt
        have Hlt := hide (HLt.out k hlt)
        have HC := hide (IH.out _ hck (d + 1) _ (wr.alloc (.cells #[encStr (t.args[k]'hlt).con, .int .i64 (t.args[k]'hlt).var, .slice (t.args[k]'hlt).A (t.args[k]'hlt).args.length (t.args[k]'hlt).cap] 25)) v3 (Hk.out.args _ hck) (HKw.out.alloc (by have := HKw.out.size; omega) _) (HJe.out _ _ _ _ HJ.out ((Ext.refl _).alloc _)) (by omega))
        have T3 : Hid (Tr c w v (wr.alloc (.cells #[encStr (t.args[k]'hlt).con, .int .i64 (t.args[k]'hlt).var, .slice (t.args[k]'hlt).A (t.args[k]'hlt).args.length (t.args[k]'hlt).cap] 25)) v3) := hide (HT.out.trans (Tr.of_ext ((Ext.refl _).alloc _)))
        have T23 : Hid (Tr c w2 v2 (wr.alloc (.cells #[encStr (t.args[k]'hlt).con, .int .i64 (t.args[k]'hlt).var, .slice (t.args[k]'hlt).A (t.args[k]'hlt).args.length (t.args[k]'hlt).cap] 25)) v3) := hide (HT2.out.trans (Tr.of_ext ((Ext.refl _).alloc _)))
        have Hpl := hide (HLp.out k)
        have Hpd : Hid (tlevs (t.args.drop k) (d + 1) = (t.args[k]'hlt).lev (d + 1) ++ tlevs (t.args.drop (k + 1)) (d + 1)) := hide (by unfold tlevs; rw [List.drop_eq_getElem_cons hlt]; rfl)
        clear hck hj0 hjw
        generalize t.args[k]'hlt = x at *
        have hd1 : (d : Int) + 1 ≤ 2000000 := by omega
        have hd0 : (0 : Int) ≤ (d : Int) := by omega
        go_wp2_with fail
        refine HC.out.mono ?_
        rintro e w4 ⟨v4, ht4, (⟨rfl, hJ4⟩ | ⟨rfl, q, hq, hJx4⟩)⟩
        · have T4 := hide (T3.out.trans ht4)
          have T24 := hide (T23.out.trans ht4)
          have HJ4 := hide hJ4
          clear hJ4 ht4
          go_wp2
          go_roundw
          case rel => exact ⟨k + 1, v4, hlt, by go_num, hide (by rw [Hlt.out]; simpa using HJ4.out), T4, T24⟩
          case measure => simp [intOf]; omega
        · have T4 := hide (T3.out.trans ht4)
          clear ht4
          go_wp2
          go_ret
          refine ⟨v4, T4.out, .inr ⟨rfl, (d, t) :: tlevs (t.args.take k) (d + 1) ++ q, ?_, by simpa using hJx4⟩⟩
          obtain ⟨r, hr⟩ := hq
          rw [HLv.out, Hpl.out, Hpd.out, ← hr]
          exact ⟨r ++ tlevs (t.args.drop (k + 1)) (d + 1), by simp⟩
      · have hge : ¬ (k : Int) < (t.args.length : Int) := by omega
        have hkk : t.args.take k = t.args := List.take_of_length_le (by omega)
        have HF : Hid (J (pre ++ t.lev d) wr v3) := hide (by have := HJ.out; rw [hkk, ← HLv.out] at this; exact this)
        clear hkk
        go_wp2
        go_ret
        exact ⟨v3, HT.out, .inl ⟨rfl, HF.out⟩⟩
  · have T2 := hide (T0.out.trans ht2)
    clear ht2
    go_wp2
    go_ret
    exact ⟨v2, T2.out, .inr ⟨rfl, [(d, t)], by rw [HLv.out]; exact ⟨_, rfl⟩, hJx⟩⟩

set_option maxRecDepth 10000 in
set_option maxHeartbeats 2000000 in
theorem t_legalU (t : Ty) (w : World) (h : TyIn w t) : Calls Tryz.prog 44 #[tyV t] w fun e w' => e = .returned (.bool (legalT t)) ∧ Ext w w' := by
  have HB := hide (TBox.new w t)
  have X1 : Ext w ((w.alloc (.cells #[encStr t.con, .int .i64 t.var, .slice t.A t.args.length t.cap] 25)).alloc (.cells #[.int .i64 0] 3)) := ((Ext.refl w).alloc _).alloc _
  have hs : (w.alloc (.cells #[encStr t.con, .int .i64 t.var, .slice t.A t.args.length t.cap] 25)).heap.size = w.heap.size + 1 := by simp
  have hc : ((w.alloc (.cells #[encStr t.con, .int .i64 t.var, .slice t.A t.args.length t.cap] 25)).alloc (.cells #[.int .i64 0] 3)).heap[w.heap.size + 1]? = some (.cells #[.int .i64 0] 3 (0, 0)) := by
    have := at_newB (w.alloc (.cells #[encStr t.con, .int .i64 t.var, .slice t.A t.args.length t.cap] 25)) (.cells #[Value.int .i64 0] 3) (w.heap.size + 1) hs.symm
    exact this
  have HW := hide (t_walkU 69 #[.pointer (some ⟨w.heap.size + 1, 0, none⟩)] tlegal1_opens w (w.heap.size + 1)
    (fun pre w' v => v = .bool false ∧ w'.heap[w.heap.size + 1]? = some (.cells #[.int .i64 pre.length] 3 (0, 0)) ∧ pre.length ≤ 4096 ∧ ∀ p ∈ pre, okP p = true)
    (fun pre _ _ => ¬ (pre.length ≤ 4096 ∧ ∀ p ∈ pre, okP p = true))
    (fun pre w1 w2 v hj e => ⟨hj.1, (e.heap (lt_of_obj hj.2.1)).trans hj.2.1, hj.2.2⟩)
    (fun pre w1 v hj => ⟨by omega, lt_of_obj hj.2.1, fun k hk => by rw [hj.1] at hk; cases hk⟩)
    (fun pre x w1 v hj hx ht => by
      obtain ⟨rfl, hcell, hlen, hall⟩ := hj
      refine (t_legal1 x.2 x.1 pre.length (w.heap.size + 1) w1 ht hcell (by omega)).mono ?_
      rintro e w2 ⟨rfl, hc2, hT⟩
      refine ⟨.bool false, hT, ?_⟩
      by_cases hok : pre.length + 1 ≤ 4096 ∧ okP x = true
      · left
        refine ⟨?_, rfl, by rw [List.length_append]; exact hc2, by rw [List.length_append]; exact hok.1, ?_⟩
        · have h2 := hok.2
          unfold okP at h2
          rw [Bool.and_assoc, h2, Bool.and_true, decide_eq_true hok.1]
        · intro p hp
          rcases List.mem_append.1 hp with hp | hp
          · exact hall p hp
          · rw [List.mem_singleton] at hp; rw [hp]; exact hok.2
      · right
        refine ⟨?_, ?_⟩
        · have : (decide (pre.length + 1 ≤ 4096) && (decide (x.1 ≤ 100) && headOk x.2.con x.2.var x.2.args.length)) = false := by
            rw [← Bool.not_eq_true, Bool.and_eq_true, decide_eq_true_eq]
            exact hok
          rw [Bool.and_assoc, this]
        · rintro ⟨h1, h2⟩
          rw [List.length_append] at h1
          exact hok ⟨h1, h2 x (by simp)⟩)
    (fun pre x _ _ hj => by
      have := hj.2.2.2 x (by simp)
      unfold okP at this
      rw [Bool.and_eq_true, decide_eq_true_eq] at this
      omega)
    t 1 [] ((w.alloc (.cells #[encStr t.con, .int .i64 t.var, .slice t.A t.args.length t.cap] 25)).alloc (.cells #[.int .i64 0] 3)) (.bool false) h X1.below ⟨rfl, hc, by decide, by simp⟩ (by omega))
  have HL := hide (legalT_lev t)
  have HX := hide X1
  clear h hc hs X1
  generalize legalT t = R at *
  unfold tyV at *
  go_enter Tryz.func44, Tryz.ntmps44
  go_wp2_with fail
  refine HW.out.mono ?_
  rintro e w2 ⟨v2, hT, (⟨rfl, hj⟩ | ⟨rfl, q, hq, hx⟩)⟩
  · have HE := hide (Ext.of_below (HX.out.below.trans (hT.below HX.out.size (by omega) (fun k e => by cases e))) (Nat.le_refl _))
    have HR := hide (HL.out.2 ⟨hj.2.2.1, hj.2.2.2⟩)
    clear hT hj
    go_wp2
    go_ret
    exact ⟨by rw [HR.out]; rfl, HE.out⟩
  · have HE := hide (Ext.of_below (HX.out.below.trans (hT.below HX.out.size (by omega) (fun k e => by cases e))) (Nat.le_refl _))
    have HR : Hid (R = false) := hide (by
      rw [← Bool.not_eq_true]
      intro h
      obtain ⟨h1, h2⟩ := HL.out.1 h
      obtain ⟨r, hr⟩ := hq
      have h3 : q.length ≤ 4096 := by rw [← hr, List.length_append] at h1; omega
      exact hx ⟨by simpa using h3, fun p hp => h2 p (by rw [← hr]; exact List.mem_append_left _ (by simpa using hp))⟩)
    clear hT hx hq
    go_wp2
    go_ret
    exact ⟨by rw [HR.out]; rfl, HE.out⟩

set_option maxRecDepth 10000 in
set_option maxHeartbeats 1000000 in
theorem p_legalU (p : Pd) (w : World) (h : PdIn w p) : Calls Tryz.prog 62 #[pdV p] w fun e w' => e = .returned (.bool (pdB p)) ∧ Ext w w' := by
  have X0 : Hid (Ext w (w.alloc (.cells #[encStr p.cls, encStr p.ty.con, .int .i64 p.ty.var, .slice p.ty.A p.ty.args.length p.ty.cap] 40))) := hide ((Ext.refl w).alloc _)
  have HB := hide (PdBox.new w p)
  obtain ⟨c0, c1, c2, c3⟩ := HB.out.cells
  have HN := hide (fun w' => hide (n_con p.cls w' (by have := h.cls; omega)))
  have HL := hide (fun w' (e : Ext w w') => hide (t_legalU p.ty w' (h.ty.ext e)))
  have HP : Hid (pdB p = (conB p.cls && legalT p.ty)) := hide rfl
  clear h
  unfold pdV tyV at *
  generalize pdB p = R at *
  cases hb : conB p.cls
  · rw [hb] at HN HP
    have hR : R = false := by rw [HP.out]; rfl
    clear HP
    subst hR
    go_enter Tryz.func62, Tryz.ntmps62
    go_wp2_with fail
    refine (HN.out _).out.mono ?_
    rintro e w2 ⟨rfl, rfl⟩
    go_wp2
    go_ret
    exact ⟨rfl, X0.out⟩
  · rw [hb] at HN HP
    have hR : R = legalT p.ty := by rw [HP.out]; rfl
    clear HP
    subst hR
    go_enter Tryz.func62, Tryz.ntmps62
    go_wp2_with fail
    refine (HN.out _).out.mono ?_
    rintro e w2 ⟨rfl, rfl⟩
    go_wp2_with fail
    refine (HL.out _ X0.out).out.mono ?_
    rintro e w3 ⟨rfl, hx⟩
    go_wp2
    go_ret
    exact ⟨rfl, X0.out.trans hx⟩

set_option maxRecDepth 10000 in
set_option maxHeartbeats 1000000 in
theorem r_legal20U (p : Pd) (w : World) (h : PdIn w p) (hsz : p.ty.size ≤ 900000) : Calls Tryz.prog 80 #[pdV p] w fun e w' => e = .returned (.bool (pdB p)) ∧ Ext w w' := by
  have X0 : Hid (Ext w (w.alloc (.cells #[encStr p.cls, encStr p.ty.con, .int .i64 p.ty.var, .slice p.ty.A p.ty.args.length p.ty.cap] 40))) := hide ((Ext.refl w).alloc _)
  have HB := hide (PdBox.new w p)
  obtain ⟨c0, c1, c2, c3⟩ := HB.out.cells
  have HN := hide (fun w' => hide (r_con03 p.cls w' (by have := h.cls; omega)))
  have HL := hide (fun w' (e : Ext w w') => hide (r_legal16 p.ty w' (h.ty.ext e) (by omega)))
  have HP : Hid (pdB p = (conB p.cls && legalT p.ty)) := hide rfl
  clear h
  unfold pdV tyV at *
  generalize pdB p = R at *
  cases hb : conB p.cls
  · rw [hb] at HN HP
    have hR : R = false := by rw [HP.out]; rfl
    clear HP
    subst hR
    go_enter Tryz.func80, Tryz.ntmps80
    go_wp2_with fail
    refine (HN.out _).out.mono ?_
    rintro e w2 ⟨rfl, rfl⟩
    go_wp2
    go_ret
    exact ⟨rfl, X0.out⟩
  · rw [hb] at HN HP
    have hR : R = legalT p.ty := by rw [HP.out]; rfl
    clear HP
    subst hR
    go_enter Tryz.func80, Tryz.ntmps80
    go_wp2_with fail
    refine (HN.out _).out.mono ?_
    rintro e w2 ⟨rfl, rfl⟩
    go_wp2_with fail
    refine (HL.out _ X0.out).out.mono ?_
    rintro e w3 ⟨rfl, hx⟩
    go_wp2
    go_ret
    exact ⟨rfl, X0.out.trans hx⟩

end Go.Proofs.YtmjiljhcjfnfpaaGreat
