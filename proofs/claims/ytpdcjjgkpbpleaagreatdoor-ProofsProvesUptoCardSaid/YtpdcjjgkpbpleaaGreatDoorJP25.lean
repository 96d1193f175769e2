/- Contracts: a strings.Builder of the caller's own: what is written, and the text. (Lines of the shelf's own proofs, turned to this program: its laying falls on copyCheck's panic, which is another text here.) -/
import Derived.Test.YtpdcjjgkpbpleaaGreatDoorJP24
import Derived.Lib.Strings
import Derived.Lib.Builder
import Derived.Lib.AppendStr
import Derived.Lib.UnsafeStr
import Derived.Laws.Externs
import Derived.Deep.DeepCutAuto
import Derived.Deep.RegionHeld3
/- Contracts: a strings.Builder of the caller's own: what is written, and the text. (Lines of the shelf's own proofs, turned to this program: its laying falls on copyCheck's panic, which is another text here.) -/
namespace Go.Proofs.YtpdcjjgkpbpleaaGreatDoor
open Go.RowKit

theorem bld_size : (Tryz.prog.info? 123).map (·.size) = some 2 := by kernel_rfl
theorem bld_lies : liesAt Tryz.prog Tryz.prog.depth 123 (2 / Tryz.prog.cellsOf 123) 0 123 1 = true := by kernel_rfl

set_option maxRecDepth 100000 in
set_option maxHeartbeats 1000000 in
theorem b_check_used (b : Nat) (w : World) (h0 : w.cell? ⟨b, 0, none⟩ = some (.pointer (some ⟨b, 0, none⟩))) :
    Calls Tryz.prog 83 #[.pointer (some ⟨b, 0, none⟩)] w fun e w' => e = .returned (.tuple #[]) ∧ w' = w := by
  obtain ⟨j, hj, _⟩ := Option.map_eq_some_iff.1 bld_size
  go_enter Tryz.func83, Tryz.ntmps83
  go_wp2
  rw [Lib.run_neq_ptr_same w _ Tryz.underlying121 hj]
  go_wp2
  go_end0
  exact ⟨rfl, rfl⟩

set_option maxRecDepth 100000 in
set_option maxHeartbeats 1000000 in
theorem b_check_fresh (b : Nat) (w : World) (h0 : w.cell? ⟨b, 0, none⟩ = some (.pointer none)) (hsh : w.shape? b = some (123, 2)) (hfz : w.frozen? ⟨b, 0, none⟩ = false) :
    Calls Tryz.prog 83 #[.pointer (some ⟨b, 0, none⟩)] w fun e w' => e = .returned (.tuple #[]) ∧ w' = w.setCell ⟨b, 0, none⟩ (.pointer (some ⟨b, 0, none⟩)) := by
  obtain ⟨j, hj, hjs⟩ := Option.map_eq_some_iff.1 bld_size
  go_enter Tryz.func83, Tryz.ntmps83
  go_wp2
  rw [Lib.run_to_unsafe w ⟨b, 0, none⟩ Tryz.underlying121 Tryz.underlying93 hj (by rw [hjs]; decide) hsh (Nat.zero_lt_succ 1)]
  simp only [Result.andThen]
  rw [Oper.upon_value]
  go_wp2
  rw [run_callFunc_extern Tryz.func115 (by kernel_rfl) (by kernel_rfl) (by kernel_rfl) (e := Extern.AbiNoEscape.same) (by kernel_rfl)]
  rw [Lib.run_noEscape]
  simp only [Result.andThen]
  rw [Oper.upon_value]
  go_wp2
  rw [Lib.run_from_unsafe w ⟨b, 0, none⟩ Tryz.underlying93 Tryz.underlying121 hj hsh bld_lies]
  simp only [Result.andThen]
  rw [Oper.upon_value]
  go_wp2
  go_end0
  exact ⟨rfl, rfl⟩

theorem b_check (B b : Nat) (bs : List Value) (w : World) (h : Lib.IsBuilder 123 5 B b bs w) :
    Calls Tryz.prog 83 #[.pointer (some ⟨b, 0, none⟩)] w fun e w' => e = .returned (.tuple #[]) ∧ (Lib.BuilderAt 123 5 B b (.pointer (some ⟨b, 0, none⟩)) bs w' ∧ Below B w w') := by
  rcases h with h | h
  · refine (b_check_fresh b w h.cell0 h.shape h.frozen0).mono ?_
    rintro e w' ⟨rfl, rfl⟩
    exact ⟨rfl, h.used _, (Below.refl B w).setCell (p := ⟨b, 0, none⟩) h.1 _⟩
  · refine (b_check_used b w h.cell0).mono ?_
    rintro e w' ⟨rfl, rfl⟩
    exact ⟨rfl, h, Below.refl B _⟩

theorem byte_info : (Tryz.prog.info? 5).map (fun i => (i.zero, i.size, i.bytes)) = some (some (.int .u8 0), 1, 1) := by kernel_rfl

set_option maxRecDepth 100000 in
set_option maxHeartbeats 2000000 in
theorem b_write (B b : Nat) (bs : List Value) (s : ByteArray) (w : World) (h : Lib.IsBuilder 123 5 B b bs w) (hlen : bs.length + s.size ≤ 140737488355328) (hBw : B ≤ w.heap.size) :
    Calls Tryz.prog 55 #[.pointer (some ⟨b, 0, none⟩), .string s] w fun e w' => e = .returned (.tuple #[.int .i64 s.size, .nilIface]) ∧ (Lib.BuilderAt 123 5 B b (.pointer (some ⟨b, 0, none⟩)) (bs ++ Lib.strCells s) w' ∧ Below B w w') := by
  obtain ⟨i0, hi, hz0, hz1, hz2⟩ := info_parts byte_info
  have HC := hide (b_check B b bs w h)
  clear h
  go_enter Tryz.func55, Tryz.ntmps55
  go_wp2_with fail
  refine HC.out.mono ?_
  rintro e w1 ⟨rfl, h1, hb1⟩
  obtain ⟨hB, v, hbk, hown, hne⟩ := h1
  have c0 : w1.cell? ⟨b, 0, none⟩ = some (.pointer (some ⟨b, 0, none⟩)) := by rw [Lib.cell_of_heap hbk]; rfl
  have c1 : w1.cell? ⟨b, 1, none⟩ = some v := by rw [Lib.cell_of_heap hbk]; rfl
  go_wp2_with (at_builtin; refine Lib.wpList_append_own_string _ rfl _ _ 120 9 rfl B 5 i0 Tryz.underlying120 Tryz.underlying9 hi hz0 hz1 hz2 _ _ _ rfl hown s rfl ?c3 ?c4 ?c5 ?_)
  case c3 => unfold maxLen; omega
  case c4 => omega
  case c5 => have := hb1.size; omega
  intro v' w2 hown' hgrow _
  have hlt : b < w1.heap.size := lt_of_obj hbk
  have hb2 : w2.heap[b]? = some (.cells #[.pointer (some ⟨b, 0, none⟩), v] 123 (0, 0)) := by
    rw [hgrow.block b hlt (fun e => hne e.symm)]
    exact hbk
  have d0 : w2.cell? ⟨b, 0, none⟩ = some (.pointer (some ⟨b, 0, none⟩)) := by rw [Lib.cell_of_heap hb2]; rfl
  have d1 : w2.cell? ⟨b, 1, none⟩ = some v := by rw [Lib.cell_of_heap hb2]; rfl
  have f1 : w2.frozen? ⟨b, 1, none⟩ = false := Lib.frozen_of_heap hb2 1
  obtain ⟨ao, n', cap, rfl⟩ : ∃ ao n' cap, v' = .slice ao n' cap := by
    rcases hown'.2 with ⟨hv, _⟩ | ⟨g, cap, cur, hv, _⟩
    · exact ⟨_, _, _, hv⟩
    · exact ⟨_, _, _, hv⟩
  go_wp2
  go_ret2
  refine ⟨rfl, ?_, ?_⟩
  · exact Lib.BuilderAt.put (T := 123) (e := 5) hB hb2 (bs' := bs ++ Lib.strCells s) (by simpa [Lib.strCells_length] using hown') (by decide)
  · exact (hb1.grown hgrow (by have := hb1.size; omega) (fun k hk => (hown.lt k hk).1)).setCell (p := ⟨b, 1, none⟩) hB _

set_option maxRecDepth 100000 in
set_option maxHeartbeats 2000000 in
theorem b_string (B b : Nat) (l : List UInt8) (w : World) (h : Lib.IsBuilder 123 5 B b (Lib.byteCells l) w) (h0 : l ≠ []) :
    Calls Tryz.prog 56 #[.pointer (some ⟨b, 0, none⟩)] w fun e w' => e = .returned (.string ⟨l.toArray⟩) ∧ Below B w w' := by
  obtain ⟨p, hB, v, hbk, hown, hne⟩ : ∃ p, Lib.BuilderAt 123 5 B b p (Lib.byteCells l) w := by
    rcases h with h | h
    · exact ⟨_, h⟩
    · exact ⟨_, h⟩
  have hl0 : l.length ≠ 0 := by simpa using h0
  rw [Lib.byteCells_length] at hown
  obtain ⟨g, cap, cur, rfl, hbg, hg, hnc, hcm, hcs, htake⟩ : ∃ g cap cur, v = .slice (some ⟨g, 0, none⟩) l.length cap ∧ B ≤ g ∧ w.heap[g]? = some (.cells cur 5 (0, 0)) ∧ l.length ≤ cap ∧ cap ≤ maxLen ∧ cur.size = cap * 1 ∧ cur.toList.take (l.length * 1) = Lib.byteCells l := by
    rcases hown.2 with ⟨_, hz⟩ | ⟨g, cap, cur, hv, r⟩
    · exact absurd hz hl0
    · exact ⟨g, cap, cur, hv, r⟩
  have c1 : w.drew.cell? ⟨b, 1, none⟩ = some (.slice (some ⟨g, 0, none⟩) l.length cap) := by
    have : w.drew.heap[b]? = some (.cells #[p, .slice (some ⟨g, 0, none⟩) l.length cap] 123 (0, 0)) := hbk
    rw [Lib.cell_of_heap this]; rfl
  have hSD : (Builtin.unsafeSliceData_ #[120] 165 #[.slice (some ⟨g, 0, none⟩) l.length cap]).run Tryz.prog w.drew = .ok (.pointer (some ⟨g, 0, none⟩)) w.drew :=
    Lib.run_unsafeSliceData_row _ _ _ _ _ _ (by omega)
  have hUS : (Builtin.unsafeString_ #[165, 3] 9 #[.pointer (some ⟨g, 0, none⟩), .int .i64 l.length]).run Tryz.prog w.drew = .ok (.string ⟨l.toArray⟩) (w.drew.freeze ⟨g, 0, none⟩ l.length) := by
    refine Lib.run_unsafeString_row w.drew 165 3 9 5 Tryz.underlying165 (by kernel_rfl) g cur.size (by have hg' : w.drew.heap[g]? = some (.cells cur 5 (0, 0)) := hg; simp [World.shape?, hg']) l h0 (by omega) (by unfold maxLen at hcm; omega) ?_
    intro j x hx
    have := hown.cells (g := g) rfl j (.int .u8 x.toNat) (by simp [Lib.byteCells, hx])
    exact this
  go_enter Tryz.func56, Tryz.ntmps56
  go_wp2
  go_region
  all_goals (go_wp2; go_ret; exact ⟨rfl, Lib.below_freeze (Below.drew (Below.refl B w)) (p := ⟨g, 0, none⟩) hbg _⟩)

end Go.Proofs.YtpdcjjgkpbpleaaGreatDoor

/- Contracts: a variable's text; the text that a type begins with. -/
namespace Go.Proofs.YtpdcjjgkpbpleaaGreatDoor
open Go.RowKit

theorem letter_len {v : Int} (h1 : v ≤ 9223372036854775807) : (letter v).length ≤ 30 := by
  unfold letter
  split
  · simp
  · rw [List.length_cons]
    split
    · simp
    · have := digs_20 (show v.toNat / 26 ≤ 9223372036854775807 by omega)
      omega
theorem varS_len {v : Int} (h0 : -9223372036854775808 ≤ v) (h1 : v ≤ 9223372036854775807) : (varS v).length ≤ 30 := by
  unfold varS
  split
  · exact letter_len h1
  · have := digs_20 (show (-1 - v).toNat ≤ 9223372036854775807 by omega)
    rw [List.length_cons]
    omega
theorem varS_ne (v : Int) : varS v ≠ [] := by
  unfold varS
  split
  · unfold letter
    rw [if_neg (by omega)]
    simp
  · simp
theorem varS_nn {v : Int} (h : 0 ≤ v) : varS v = letter v := by unfold varS; rw [if_pos h]
theorem varS_neg {v : Int} (h : v < 0) : varS v = [63] ++ digs (-1 - v).toNat := by unfold varS; rw [if_neg (by omega)]; rfl

/-- A variable. -/
def varT (v : Int) : Ty := .mk [] v none 0 []
theorem varT_in (w : World) (v : Int) : TyIn w (varT v) := TyIn.of (Nat.zero_le _) (by omega) (by decide) (RowOf.nil _ _ _) (by simp)
theorem varT_size (v : Int) : (varT v).size = 1 := by rw [Ty.size_eq]; rfl
theorem varT_legal (v : Int) : legalT (varT v) = true := by
  have h1 := varT_size v
  have h2 : (varT v).depth = 1 := by rw [Ty.depth_eq]; rfl
  have h3 : shapeT (varT v) = true := by unfold shapeT; rw [allB_eq]; rfl
  unfold legalT
  rw [h1, h2, h3]
  rfl

set_option maxRecDepth 10000 in
set_option maxHeartbeats 2000000 in
theorem t_name (v : Int) (n : Nat) (h0 : -9223372036854775808 ≤ v) (h1 : v ≤ 9223372036854775807) (w : World) : Calls Tryz.prog 62 #[.agg #[.string ⟨#[]⟩, .int .i64 v, .int .i64 n]] w fun e w' => e = .returned (encStr (varS v)) ∧ Ext w w' := by
  have X0 : Hid (Ext w (w.alloc (.cells #[.string ⟨#[]⟩, .int .i64 v, .int .i64 n] 130))) := hide ((Ext.refl w).alloc _)
  obtain ⟨c0, c1, c2⟩ := hbox (w.alloc (.cells #[encStr [], .int .i64 v, .int .i64 n] 130)) w.heap.size [] v n (at_newB _ _ _ rfl)
  unfold encStr at c0
  by_cases hv : 0 ≤ v
  · have hv' : decide (v ≥ 0) = true := decide_eq_true hv
    have HN := hide (fun w' => n_letter v h1 w')
    rw [varS_nn hv]
    generalize letter v = s at *
    go_enter Tryz.func62, Tryz.ntmps62
    go_wp2_with fail
    refine (HN.out _).mono ?_
    rintro e w2 ⟨rfl, hx⟩
    go_wp2
    go_ret
    exact ⟨rfl, X0.out.trans hx⟩
  · have hv' : decide (v ≥ 0) = false := decide_eq_false hv
    obtain ⟨m, hm⟩ : ∃ m : Nat, -1 - v = m := ⟨(-1 - v).toNat, by omega⟩
    have HT := hide (fun w' => i_text m (by omega) w')
    have H20 := hide (digs_20 (show m ≤ 9223372036854775807 by omega))
    have e1 : (-1 - v).toNat = m := by omega
    rw [varS_neg (by omega), e1]
    generalize digs m = s at *
    go_enter Tryz.func62, Tryz.ntmps62
    go_wp2_with fail
    refine (HT.out _).mono ?_
    rintro e w2 ⟨rfl, hx⟩
    have hsz : ¬ ((⟨#[63]⟩ : ByteArray).size + (⟨s.toArray⟩ : ByteArray).size > 9223372036854775807) := by have := H20.out; rw [ba_size s]; show ¬ (1 + s.length > _); omega
    go_wp2
    go_ret
    refine ⟨?_, X0.out.trans hx⟩
    exact congrArg (fun b => Ending.returned (Value.string b)) (ByteArray.mk_append_mk [63] s)

set_option maxRecDepth 10000 in
set_option maxHeartbeats 2000000 in
/-- A variable's text. -/
theorem t_textV (v : Int) (h0 : -9223372036854775808 ≤ v) (h1 : v ≤ 9223372036854775807) (w : World) : Calls Tryz.prog 33 #[.agg #[.string ⟨#[]⟩, .int .i64 v, .slice none 0 0]] w fun e w' => e = .returned (encStr (varS v)) ∧ Ext w w' := by
  obtain ⟨W, hW⟩ : ∃ W, W = (w.alloc (.cells #[.string ⟨#[]⟩, .int .i64 v, .slice none 0 0] 37)).alloc (.cells #[.pointer none, .slice none 0 0] 123) := ⟨_, rfl⟩
  have X0 : Hid (Ext w W) := hide (by rw [hW]; exact ((Ext.refl w).alloc _).alloc _)
  have hsz : W.heap.size = w.heap.size + 2 := by rw [hW]; simp
  have XB : Hid (W.heap[w.heap.size]? = some (.cells #[.string ⟨#[]⟩, .int .i64 v, .slice none 0 0] 37 (0, 0))) := hide (by rw [hW]; exact ((Ext.refl _).alloc _).heap (by simp) |>.trans (at_newB _ _ _ rfl))
  have BB : Hid (W.heap[w.heap.size + 1]? = some (.cells #[.pointer none, .slice none 0 0] 123 (0, 0))) := hide (by rw [hW]; exact at_newB _ _ _ (by simp))
  have HO := hide (fun w' => t_of (varT v) w')
  have HN := hide (fun w' => t_name v 0 h0 h1 w')
  unfold headV varT tyV at HO
  simp only [Ty.con, Ty.var, Ty.A, Ty.cap, Ty.args, List.length_nil, encStr] at HO
  have HL := hide (varS_len h0 h1)
  have HE := hide (varS_ne v)
  generalize varS v = s at *
  have b0 : (w.alloc (.cells #[.string ⟨#[]⟩, .int .i64 v, .slice none 0 0] 37)).cell? ⟨w.heap.size, 0, none⟩ = some (.string ⟨#[]⟩) := bytes_block (at_newB _ _ _ rfl) 0
  have c0 := bytes_block XB.out 0
  have c1 := bytes_block XB.out 1
  have c2 := bytes_block XB.out 2
  simp only [List.getElem?_toArray, List.getElem?_cons_zero, List.getElem?_cons_succ] at c0 c1 c2
  go_enter Tryz.func33, Tryz.ntmps33
  go_wp2_with fail
  rw [← hW]
  clear b0 hW
  refine (HO.out _).mono ?_
  rintro e w2 ⟨rfl, hx2⟩
  have X2 := hide hx2
  clear hx2
  go_wp2_with fail
  refine (HN.out _).mono ?_
  rintro e w3 ⟨rfl, hx3⟩
  have X3 := hide (X2.out.trans hx3)
  have IB : Lib.IsBuilder 123 5 (w.heap.size + 1) (w.heap.size + 1) [] w3 := .inl ⟨Nat.le_refl _, _, (X3.out.heap (by omega)).trans BB.out, World.ownsRow_nil _ _ _ _, fun e => by cases e⟩
  have hs3 := X3.out.size
  have HW := hide (b_write (w.heap.size + 1) (w.heap.size + 1) [] ⟨s.toArray⟩ w3 IB (by have := HL.out; rw [ba_size]; show 0 + s.length ≤ _; omega) (by omega))
  clear IB hx3
  go_wp2_with fail
  refine HW.out.mono ?_
  rintro e w4 ⟨rfl, hb4, hx4⟩
  rw [List.nil_append, Lib.strCells_eq] at hb4
  have XB4 : Hid (w4.heap[w.heap.size]? = some (.cells #[.string ⟨#[]⟩, .int .i64 v, .slice none 0 0] 37 (0, 0))) := hide ((hx4.block _ (by omega)).trans ((X3.out.heap (by omega)).trans XB.out))
  have HS := hide (b_string (w.heap.size + 1) (w.heap.size + 1) s w4 (.inr hb4) HE.out)
  have X4 : Hid (Below w.heap.size w w4) := hide ((X0.out.trans X3.out).below.trans (hx4.mono (by omega)))
  clear hb4 hx4 c0 c1 c2
  have c2 := bytes_block XB4.out 2
  simp only [List.getElem?_toArray, List.getElem?_cons_zero, List.getElem?_cons_succ] at c2
  go_wp2
  go_loopw [34] (fun i wr => i = .int .i64 0 ∧ wr = w4) (fun _ _ => 0)
  case atStart => exact ⟨rfl, rfl⟩
  case round =>
    obtain ⟨rfl, rfl⟩ := hrel
    go_wp2_with fail
    refine HS.out.mono ?_
    rintro e w5 ⟨rfl, hx5⟩
    go_wp2
    go_ret
    exact ⟨rfl, Ext.of_below (X4.out.trans (hx5.mono (by omega))) (Nat.le_refl _)⟩

set_option maxRecDepth 10000 in
set_option maxHeartbeats 2000000 in
theorem t_TextV (v : Int) (h0 : -9223372036854775808 ≤ v) (h1 : v ≤ 9223372036854775807) (w : World) : Calls Tryz.prog 17 #[.agg #[.string ⟨#[]⟩, .int .i64 v, .slice none 0 0]] w fun e w' => e = .returned (encStr (varS v)) ∧ Ext w w' := by
  have X0 : Hid (Ext w (w.alloc (.cells #[.string ⟨#[]⟩, .int .i64 v, .slice none 0 0] 37))) := hide ((Ext.refl w).alloc _)
  have HB : Hid (∀ w', Ext (w.alloc (.cells #[.string ⟨#[]⟩, .int .i64 v, .slice none 0 0] 37)) w' → w'.cell? ⟨w.heap.size, 0, none⟩ = some (.string ⟨#[]⟩) ∧ w'.cell? ⟨w.heap.size, 1, none⟩ = some (.int .i64 v) ∧ w'.cell? ⟨w.heap.size, 2, none⟩ = some (.slice none 0 0)) := hide (fun w' e => ⟨e.cell (bytes_block (at_newB _ _ _ rfl) 0), e.cell (bytes_block (at_newB _ _ _ rfl) 1), e.cell (bytes_block (at_newB _ _ _ rfl) 2)⟩)
  obtain ⟨c0, c1, c2⟩ := HB.out _ (Ext.refl _)
  have HL := hide (fun w' => t_legal (varT v) w' (varT_in w' v) (by rw [varT_size]; omega))
  have HT := hide (fun w' => t_textV v h0 h1 w')
  rw [varT_legal] at HL
  unfold varT tyV at HL
  simp only [Ty.con, Ty.var, Ty.A, Ty.cap, Ty.args, List.length_nil, encStr] at HL
  go_enter Tryz.func17, Tryz.ntmps17
  go_wp2_with fail
  refine (HL.out _).mono ?_
  rintro e w2 ⟨rfl, hx2⟩
  have X2 := hide hx2
  obtain ⟨d0, d1, d2⟩ := HB.out _ X2.out
  clear hx2 c0 c1 c2
  go_wp2_with fail
  refine (HT.out _).mono ?_
  rintro e w3 ⟨rfl, hx3⟩
  go_wp2
  go_ret
  exact ⟨rfl, X0.out.trans (X2.out.trans hx3)⟩

end Go.Proofs.YtpdcjjgkpbpleaaGreatDoor

/- Types whose numbers are int's. -/
namespace Go.Proofs.YtpdcjjgkpbpleaaGreatDoor
open Go.RowKit

/-- All numbers of a type are int's; no name is beyond reach. -/
noncomputable def okI : Ty → Bool := Ty.allB fun t => decide (-9223372036854775808 ≤ t.var ∧ t.var ≤ 9223372036854775807 ∧ t.con.length ≤ 140737488351232)
theorem okI_eq (t : Ty) : okI t = (decide (-9223372036854775808 ≤ t.var ∧ t.var ≤ 9223372036854775807 ∧ t.con.length ≤ 140737488351232) && t.args.all okI) := allB_eq _ t
theorem okI_mk {s : Str} {v : Int} {A : Option Addr} {c : Nat} {l : List Ty} (h1 : -9223372036854775808 ≤ v) (h2 : v ≤ 9223372036854775807) (h3 : s.length ≤ 140737488351232) (h : ∀ k ∈ l, okI k = true) : okI (.mk s v A c l) = true := by
  rw [okI_eq, Bool.and_eq_true]
  exact ⟨decide_eq_true ⟨h1, h2, h3⟩, List.all_eq_true.2 h⟩
theorem okI_lo {t : Ty} (h : okI t = true) : -9223372036854775808 ≤ t.var := by
  rw [okI_eq, Bool.and_eq_true] at h
  exact (of_decide_eq_true h.1).1
theorem okI_hi {t : Ty} (h : okI t = true) : t.var ≤ 9223372036854775807 := by
  rw [okI_eq, Bool.and_eq_true] at h
  exact (of_decide_eq_true h.1).2.1
theorem okI_con {t : Ty} (h : okI t = true) : t.con.length ≤ 140737488351232 := by
  rw [okI_eq, Bool.and_eq_true] at h
  exact (of_decide_eq_true h.1).2.2
theorem okI_arg {t : Ty} (h : okI t = true) {k : Ty} (hk : k ∈ t.args) : okI k = true := by
  rw [okI_eq, Bool.and_eq_true] at h
  exact List.all_eq_true.1 h.2 k hk

end Go.Proofs.YtpdcjjgkpbpleaaGreatDoor

/- Texts of types: how long they are. No program in sight. -/
namespace Go.Proofs.YtpdcjjgkpbpleaaGreatDoor
open Go.RowKit

/-- What a type's text begins with. -/
def headT (t : Ty) : Str := if t.con = [] then varS t.var else t.con
theorem digsP_20 {n : Nat} (h : n ≤ 9223372036854775807) : (digs n).length ≤ 20 := digs_len 19 n (Nat.lt_of_le_of_lt h (by decide))
theorem varS_len30 {v : Int} (h0 : -9223372036854775808 ≤ v) (h1 : v ≤ 9223372036854775807) : (varS v).length ≤ 30 := by
  unfold varS
  split
  · unfold letter
    split
    · simp
    · rw [List.length_cons]
      split
      · simp
      · have := digsP_20 (show v.toNat / 26 ≤ 9223372036854775807 by omega)
        omega
  · have := digsP_20 (show (-1 - v).toNat ≤ 9223372036854775807 by omega)
    rw [List.length_cons]
    omega
theorem headT_len {t : Ty} (h : okI t = true) : (headT t).length ≤ 140737488351232 := by
  unfold headT
  split
  · exact Nat.le_trans (varS_len30 (okI_lo h) (okI_hi h)) (by decide)
  · exact okI_con h
theorem brack_len (b : Bool) (s : Str) : (brack b s).length ≤ s.length + 2 := by
  unfold brack
  split
  · simp
  · omega
theorem restT_len (l : List Ty) (h : ∀ k ∈ l, (textT k).length + 3 ≤ 140737488351272 * k.size) : (restT l).length ≤ 140737488351272 * (l.map Ty.size).sum := by
  unfold restT
  induction l with
  | nil => simp
  | cons k l ih =>
    have h1 := h k (List.mem_cons_self)
    have h2 := ih (fun x hx => h x (List.mem_cons_of_mem _ hx))
    have h3 := brack_len (decide (0 < k.args.length)) (textT k)
    rw [List.map_cons, List.flatten_cons, List.length_append, List.length_append, List.map_cons, List.sum_cons, Nat.mul_add]
    simp only [List.length_cons, List.length_nil]
    omega
theorem textT_len (t : Ty) : okI t = true → (textT t).length + 3 ≤ 140737488351272 * t.size := by
  induction t using Ty.ind with
  | h t ih =>
  intro ok
  have hk : ∀ k ∈ t.args, (textT k).length + 3 ≤ 140737488351272 * k.size := fun k hk => ih k hk (okI_arg ok hk)
  by_cases h : t.con = [45, 62] ∧ t.args.length = 2
  · obtain ⟨hc, hl⟩ := h
    rw [textT_fun hc (by omega) (by omega) hl, Ty.size_eq]
    obtain ⟨a, b, hab⟩ : ∃ a b, t.args = [a, b] := by
      match t.args, hl with
      | [a, b], _ => exact ⟨a, b, rfl⟩
    simp only [hab, List.getElem_cons_zero, List.getElem_cons_succ] at hk ⊢
    have h1 := hk a (by simp)
    have h2 := hk b (by simp)
    have h3 := brack_len (decide (a.con = [45, 62])) (textT a)
    simp only [List.length_append, List.length_cons, List.length_nil, List.map_cons, List.map_nil, List.sum_cons, List.sum_nil]
    omega
  · rw [textT_else h, Ty.size_eq, List.length_append]
    have h1 := restT_len t.args hk
    have h2 := headT_len ok
    unfold headT at h2
    omega
theorem textT_few {t : Ty} (h : okI t = true) (hs : t.size ≤ 20000) : (textT t).length ≤ 3000000000000000000 := by
  have := textT_len t h
  omega
theorem restT_few {t : Ty} (h : okI t = true) (hs : t.size ≤ 20000) (k : Nat) : (headT t ++ restT (t.args.take k)).length ≤ 3000000000000000000 := by
  have h1 := restT_len (t.args.take k) (fun x hx => textT_len x (okI_arg h (List.mem_of_mem_take hx)))
  have h2 := headT_len h
  have h3 : ((t.args.take k).map Ty.size).sum ≤ (t.args.map Ty.size).sum := by
    have e : (t.args.map Ty.size).sum = ((t.args.take k).map Ty.size).sum + ((t.args.drop k).map Ty.size).sum := by
      rw [← List.sum_append_nat, ← List.map_append, List.take_append_drop]
    omega
  have h4 := Ty.size_eq t
  rw [List.length_append]
  omega

end Go.Proofs.YtpdcjjgkpbpleaaGreatDoor

/- Contracts on the reference: a type's text. (A program of ours has printed a part.) -/
namespace Go.Proofs.YtpdcjjgkpbpleaaGreatDoor
open Go.RowKit

/-- May a type's text be told? -/
noncomputable def goodT : Ty → Bool := Ty.allB fun t => (!(t.con == [45, 62]) || decide (t.args.length = 2)) && (!(t.con == []) || decide (t.args.length = 0))
theorem goodT_eq (t : Ty) : goodT t = (((!(t.con == [45, 62]) || decide (t.args.length = 2)) && (!(t.con == []) || decide (t.args.length = 0))) && t.args.all goodT) := allB_eq _ t
theorem goodT_arg {t : Ty} (h : goodT t = true) {k : Ty} (hk : k ∈ t.args) : goodT k = true := by
  rw [goodT_eq, Bool.and_eq_true] at h
  exact List.all_eq_true.1 h.2 k hk
theorem goodT_fun {t : Ty} (h : goodT t = true) (hc : (t.con == [45, 62]) = true) : t.args.length = 2 := by
  rw [goodT_eq, hc, Bool.and_eq_true, Bool.and_eq_true] at h
  simpa using h.1.1
theorem goodT_var {t : Ty} (h : goodT t = true) (hc : (t.con == []) = true) : t.args = [] := by
  rw [goodT_eq, hc, Bool.and_eq_true, Bool.and_eq_true] at h
  have := h.1.2
  exact List.eq_nil_of_length_eq_zero (by simpa using this)



end Go.Proofs.YtpdcjjgkpbpleaaGreatDoor

/- Contract: whether a type of System F may be: the program's walk. -/
namespace Go.Proofs.YtpdcjjgkpbpleaaGreatDoor
open Go.RowKit Go.Shelf



end Go.Proofs.YtpdcjjgkpbpleaaGreatDoor

/- Contracts: whether a type of System F may be; of the program, and of the reference. -/
namespace Go.Proofs.YtpdcjjgkpbpleaaGreatDoor
open Go.RowKit Go.Shelf

theorem legalD_iff (t : Ty) : legalD t = true ↔ OkD t 4096 100 := by
  unfold legalD OkD
  simp only [Bool.and_eq_true, decide_eq_true_eq]
  constructor
  · rintro ⟨⟨h1, h2⟩, h3⟩
    exact ⟨by omega, by omega, h3⟩
  · rintro ⟨h1, h2, h3⟩
    exact ⟨⟨by omega, by omega⟩, h3⟩


end Go.Proofs.YtpdcjjgkpbpleaaGreatDoor

/- A legal type's text may be told. -/
namespace Go.Proofs.YtpdcjjgkpbpleaaGreatDoor
open Go.RowKit

theorem allB_mono {f g : Ty → Bool} (h : ∀ t, f t = true → g t = true) (t : Ty) : t.allB f = true → t.allB g = true := by
  induction t using Ty.ind with
  | h t ih =>
  intro k
  rw [allB_eq, Bool.and_eq_true, List.all_eq_true] at k ⊢
  exact ⟨h t k.1, fun x hx => ih x hx (k.2 x hx)⟩
theorem good_of_legal {t : Ty} (h : legalD t = true) : goodT t = true := by
  unfold legalD at h
  rw [Bool.and_eq_true] at h
  unfold shapeD at h
  refine allB_mono (fun x hx => ?_) t h.2
  rw [Bool.or_eq_true] at hx
  rcases hx with hx | hx
  · have hc : x.con ≠ [] ∧ x.con ≠ [45, 62] := by
      constructor
      · intro e
        unfold dictB at hx
        rw [e, show classS [] = [] from rfl] at hx
        simp at hx
      · intro e
        unfold dictB at hx
        rw [e, show classS [45, 62] = [] from rfl] at hx
        simp at hx
    simp [hc.1, hc.2]
  · unfold headOk at hx
    cases h1 : (x.con == [])
    · rw [h1] at hx
      cases h2 : (x.con == [45, 62])
      · rfl
      · rw [h2] at hx
        simp at hx
        simp [hx.2]
    · rw [h1] at hx
      have e : x.con = [] := by simpa using h1
      simp at hx
      rw [e, hx]
      rfl

end Go.Proofs.YtpdcjjgkpbpleaaGreatDoor

/- Contracts: a term's text. (A program of ours has printed a part.) -/
namespace Go.Proofs.YtpdcjjgkpbpleaaGreatDoor
open Go.RowKit

theorem isb_ext {B b : Nat} {bs : List Value} {w w' : World} (h : Lib.IsBuilder 123 5 B b bs w) (e : Ext w w') : Lib.IsBuilder 123 5 B b bs w' := by
  rcases h with ⟨hB, v, hbk, hown, hne⟩ | ⟨hB, v, hbk, hown, hne⟩
  · exact .inl ⟨hB, v, (e.heap (lt_of_obj hbk)).trans hbk, own_extB hown e, hne⟩
  · exact .inr ⟨hB, v, (e.heap (lt_of_obj hbk)).trans hbk, own_extB hown e, hne⟩
/-- A function's type has two args, all the way down. -/
noncomputable def arr2B : Ty → Bool := Ty.allB fun t => !(t.con == [45, 62]) || decide (t.args.length = 2)
theorem arr2B_eq (t : Ty) : arr2B t = ((!(t.con == [45, 62]) || decide (t.args.length = 2)) && t.args.all arr2B) := allB_eq _ t
theorem arr2B_arg {t k : Ty} (h : arr2B t = true) (hk : k ∈ t.args) : arr2B k = true := by
  rw [arr2B_eq, Bool.and_eq_true, List.all_eq_true] at h
  exact h.2 k hk
theorem arr2B_len {t : Ty} (h : arr2B t = true) (hc : t.con = [45, 62]) : t.args.length = 2 := by
  rw [arr2B_eq, Bool.and_eq_true, hc] at h
  simpa using h.1
/-- A head's text. -/
theorem t_nameA (t : Ty) (w : World) (ok : okI t = true) : Calls Tryz.prog 62 #[headV t] w fun e w' => e = .returned (encStr (headT t)) ∧ Ext w w' := by
  obtain ⟨s, v, A, cap, l⟩ := t
  have hv := And.intro (okI_lo ok) (okI_hi ok)
  cases s with
  | nil => exact t_name v l.length hv.1 hv.2 w
  | cons c s =>
    have X0 : Hid (Ext w (w.alloc (.cells #[encStr (c :: s), .int .i64 v, .int .i64 l.length] 130))) := hide ((Ext.refl w).alloc _)
    obtain ⟨c0, c1, c2⟩ := hbox (w.alloc (.cells #[encStr (c :: s), .int .i64 v, .int .i64 l.length] 130)) w.heap.size (c :: s) v l.length (at_newB _ _ _ rfl)
    have g1 : ((c :: s : Str) == []) = false := rfl
    have g2 : ((c :: s : Str) != []) = true := rfl
    have hh : headT (Ty.mk (c :: s) v A cap l) = (c :: s : Str) := by unfold headT; rw [if_neg (by simp [Ty.con])]; rfl
    rw [hh]
    unfold headV
    simp only [Ty.con, Ty.var, Ty.args]
    generalize (c :: s : Str) = n at *
    go_enter Tryz.func62, Tryz.ntmps62
    go_wp2
    go_ret
    exact ⟨rfl, X0.out⟩
theorem headT_ne {t : Ty} : headT t ≠ [] := by
  unfold headT
  split
  · exact varS_ne _
  · assumption

set_option maxRecDepth 10000 in
set_option maxHeartbeats 2000000 in
theorem t_closedOf (t : Ty) (hl : (textT t).length ≤ 3000000000000000000) (HT0 : ∀ w, TyIn w t → Calls Tryz.prog 33 #[tyV t] w fun e w' => e = .returned (encStr (textT t)) ∧ Ext w w') (b : Bool) (w : World) (h : TyIn w t) :
    Calls Tryz.prog 61 #[tyV t, .bool b] w fun e w' => e = .returned (encStr (brack b (textT t))) ∧ Ext w w' := by
  have X0 : Hid (Ext w (w.alloc (.cells #[encStr t.con, .int .i64 t.var, .slice t.A t.args.length t.cap] 37))) := hide ((Ext.refl w).alloc _)
  have HT := hide (HT0 _ (h.ext X0.out))
  have HL := hide hl
  clear HT0 h hl
  unfold tyV at *
  generalize textT t = s at *
  cases b
  · go_enter Tryz.func61, Tryz.ntmps61
    go_wp2_with fail
    refine HT.out.mono ?_
    rintro e w2 ⟨rfl, hx⟩
    go_wp2
    go_ret
    exact ⟨rfl, X0.out.trans hx⟩
  · have h1 : ¬ ((⟨#[40]⟩ : ByteArray).size + (⟨s.toArray⟩ : ByteArray).size > 9223372036854775807) := by have := HL.out; rw [ba_size s]; show ¬ (1 + s.length > _); omega
    have e1 : (ByteArray.mk #[40] ++ ByteArray.mk s.toArray) = ByteArray.mk ([40] ++ s : Str).toArray := ByteArray.mk_append_mk [40] s
    have h2 : ¬ ((⟨([40] ++ s : Str).toArray⟩ : ByteArray).size + (⟨#[41]⟩ : ByteArray).size > 9223372036854775807) := by
      have := HL.out
      rw [ba_size ([40] ++ s)]
      show ¬ (([40] ++ s).length + 1 > _)
      rw [List.length_append]
      simp only [List.length_cons, List.length_nil]
      omega
    have e2 : (ByteArray.mk ([40] ++ s : Str).toArray ++ ByteArray.mk #[41]) = ByteArray.mk ([40] ++ s ++ [41] : Str).toArray := ByteArray.mk_append_mk ([40] ++ s) [41]
    have hb : brack true s = [40] ++ s ++ [41] := rfl
    rw [hb]
    generalize ([40] ++ s ++ [41] : Str) = s2 at *
    generalize ([40] ++ s : Str) = s1 at *
    go_enter Tryz.func61, Tryz.ntmps61
    go_wp2_with fail
    refine HT.out.mono ?_
    rintro e w2 ⟨rfl, hx⟩
    go_wp2
    go_ret
    exact ⟨rfl, X0.out.trans hx⟩

/-- What a term's text asks for. -/
def TextC (t : Ty) : Prop := ∀ (w : World), TyIn w t → Calls Tryz.prog 33 #[tyV t] w fun e w' => e = .returned (encStr (textT t)) ∧ Ext w w'

set_option maxRecDepth 10000 in
set_option maxHeartbeats 4000000 in
theorem t_text_fun (t : Ty) (hf1 : t.con = [45, 62]) (hf2 : t.args.length = 2) (ok : okI t = true) (hsz : t.size ≤ 20000) (ih : ∀ k ∈ t.args, TextC k) : TextC t := by
  intro w h
  have hle := h.le
  have hmx := h.max
  have IH := hide ih
  have Hk := hide h.all
  have HB0 := hide (TBox.new w t)
  have X0 : Hid (Ext w (w.alloc (.cells #[encStr t.con, .int .i64 t.var, .slice t.A t.args.length t.cap] 37))) := hide ((Ext.refl w).alloc _)
  have HCl := hide (fun (k : Ty) (hk : k ∈ t.args) (b : Bool) (w' : World) (e : Ext w w') => hide (t_closedOf k (textT_few (okI_arg ok hk) (by have := Ty.size_arg hk; omega)) (fun v hv => ih k hk v hv) b w' ((h.all.args k hk).ext e)))
  have HTl := hide (fun (k : Ty) (hk : k ∈ t.args) (w' : World) (e : Ext w w') => hide (ih k hk w' ((h.all.args k hk).ext e)))
  have HL := hide (textT_few ok hsz)
  have c0 := HB0.out.c0
  have c1 := HB0.out.c1
  have c2 := HB0.out.c2
  have h0 : 0 < t.args.length := by omega
  have h1 : 1 < t.args.length := by omega
  have HE := hide (textT_fun hf1 h0 h1 hf2)
  have g1 : (t.con == [45, 62]) = true := by rw [hf1]; rfl
  have i0 : (0 : Int) < (t.args.length : Int) := by omega
  have i1 : (1 : Int) < (t.args.length : Int) := by omega
  obtain ⟨b, o, hA, hb, q0, q1, q2⟩ := (Hk.out.ext X0.out).at_ h0
  obtain ⟨b', o', hA', hb', r0, r1, r2⟩ := (Hk.out.ext X0.out).at_ h1
  have hbo : (⟨b', o', none⟩ : Addr) = ⟨b, o, none⟩ := Option.some.inj (hA'.symm.trans hA)
  cases hbo
  clear hA' hb'
  have HA := hide (HCl.out _ (List.getElem_mem h0) (decide ((t.args[0]'h0).con = [45, 62])))
  have HB2 := hide (HTl.out _ (List.getElem_mem h1))
  have LA := hide (textT_few (okI_arg ok (List.getElem_mem h0)) (by have := Ty.size_arg (List.getElem_mem h0); omega))
  have LT : Hid ((brack (decide ((t.args[0]'h0).con = [45, 62])) (textT (t.args[0]'h0)) ++ ([32, 45, 62, 32] : Str) ++ textT (t.args[1]'h1)).length ≤ 3000000000000000000) := hide (by rw [← HE.out]; exact HL.out)
  rw [HE.out]
  clear HE HCl HTl HL LA ih ok hsz IH Hk
  clear h
  have hdec : decide ((t.args[0]'h0).con = [45, 62]) = ((t.args[0]'h0).con == [45, 62]) := by rw [Bool.eq_iff_iff]; simp
  rw [hdec] at HA LT ⊢
  clear hdec
  obtain ⟨bb, hbb⟩ : ∃ bb, bb = ((t.args[0]'h0).con == [45, 62]) := ⟨_, rfl⟩
  rw [← hbb] at HA LT ⊢
  unfold tyV at HA HB2 ⊢
  rw [hA] at c2 ⊢
  generalize textT (t.args[0]'h0) = ta at *
  generalize textT (t.args[1]'h1) = tb at *
  generalize t.args[0]'h0 = ka at *
  generalize t.args[1]'h1 = kb at *
  generalize brack bb ta = sa at *
  have hs1 : ¬ ((⟨sa.toArray⟩ : ByteArray).size + (⟨#[32, 45, 62, 32]⟩ : ByteArray).size > 9223372036854775807) := by
    have := LT.out
    rw [ba_size sa]
    show ¬ (sa.length + 4 > _)
    simp only [List.length_append, List.length_cons, List.length_nil] at this
    omega
  have e1 : (ByteArray.mk sa.toArray ++ ByteArray.mk #[32, 45, 62, 32]) = ByteArray.mk (sa ++ ([32, 45, 62, 32] : Str) : Str).toArray := ByteArray.mk_append_mk sa ([32, 45, 62, 32] : Str)
  have hs2 : ¬ ((⟨(sa ++ ([32, 45, 62, 32] : Str) : Str).toArray⟩ : ByteArray).size + (⟨tb.toArray⟩ : ByteArray).size > 9223372036854775807) := by
    have := LT.out
    rw [ba_size (sa ++ ([32, 45, 62, 32] : Str)), ba_size tb]
    simp only [List.length_append, List.length_cons, List.length_nil] at this ⊢
    omega
  have e2 : (ByteArray.mk (sa ++ ([32, 45, 62, 32] : Str) : Str).toArray ++ ByteArray.mk tb.toArray) = ByteArray.mk (sa ++ ([32, 45, 62, 32] : Str) ++ tb : Str).toArray := ByteArray.mk_append_mk (sa ++ ([32, 45, 62, 32] : Str)) tb
  have hq1 : ¬ (9223372036854775807 < sa.length + 4) := by rw [ba_size sa] at hs1; exact hs1
  have hq2 : ¬ (9223372036854775807 < (sa ++ ([32, 45, 62, 32] : Str)).length + tb.length) := by rw [ba_size (sa ++ ([32, 45, 62, 32] : Str)), ba_size tb] at hs2; exact hs2
  clear LT
  generalize (sa ++ ([32, 45, 62, 32] : Str) ++ tb : Str) = s2 at *
  generalize (sa ++ ([32, 45, 62, 32] : Str) : Str) = s1 at *
  clear HB0
  have HS : Hid (∀ w', Ext (w.alloc (.cells #[encStr t.con, .int .i64 t.var, .slice (some ⟨b, o, none⟩) t.args.length t.cap] 37)) w' → (w'.cell? ⟨w.heap.size, 2, none⟩ = some (.slice (some ⟨b, o, none⟩) t.args.length t.cap) ∧ w'.cell? ⟨b, o, none⟩ = some (.string ⟨ka.con.toArray⟩) ∧ w'.cell? ⟨b, o + 1, none⟩ = some (.int .i64 ka.var) ∧ w'.cell? ⟨b, o + 2, none⟩ = some (.slice ka.A ka.args.length ka.cap) ∧ w'.cell? ⟨b, o + 3, none⟩ = some (.string ⟨kb.con.toArray⟩) ∧ w'.cell? ⟨b, o + 3 + 1, none⟩ = some (.int .i64 kb.var) ∧ w'.cell? ⟨b, o + 3 + 2, none⟩ = some (.slice kb.A kb.args.length kb.cap))) := hide (by
    rw [hA] at q0 q1 q2 r0 r1 r2
    exact fun w' e => ⟨e.cell c2, e.cell q0, e.cell q1, e.cell q2, e.cell r0, e.cell r1, e.cell r2⟩)
  rw [hA] at c0 c1 X0
  clear q0 q1 q2 r0 r1 r2 c1 hb h1 hle hmx hf1 hA i0 i1 h0
  generalize t.args.length = n at *
  subst hf2
  go_enter Tryz.func33, Tryz.ntmps33
  go_wp2
  generalize (w.alloc (.cells #[encStr t.con, .int .i64 t.var, .slice (some ⟨b, o, none⟩) 2 t.cap] 37)) = w0 at *
  obtain ⟨p0, p1, p2, p3, p4, p5, p6⟩ := HS.out _ (Ext.refl w0)
  clear c0 c2
  go_region_held3 (fun w' : World => (w'.cell? ⟨w.heap.size, 2, none⟩ = some (.slice (some ⟨b, o, none⟩) 2 t.cap) ∧ w'.cell? ⟨b, o, none⟩ = some (.string ⟨ka.con.toArray⟩) ∧ w'.cell? ⟨b, o + 1, none⟩ = some (.int .i64 ka.var) ∧ w'.cell? ⟨b, o + 2, none⟩ = some (.slice ka.A ka.args.length ka.cap) ∧ w'.cell? ⟨b, o + 3, none⟩ = some (.string ⟨kb.con.toArray⟩) ∧ w'.cell? ⟨b, o + 3 + 1, none⟩ = some (.int .i64 kb.var) ∧ w'.cell? ⟨b, o + 3 + 2, none⟩ = some (.slice kb.A kb.args.length kb.cap))) (first | assumption | (exact HS.out _ (Ext.refl w0).drew)) (first
    | (go_at_call 61
       rw [← hbb]
       refine Calls.mono (HA.out _ ?e).out ?_
       case e => first | (refine Ext.trans X0.out ?_; (repeat (first | exact Ext.refl _ | exact Ext.pre (by simp) | exact Ext.alloc (by assumption) _ | refine Ext.alloc ?_ _ | refine Ext.more ?_ _ _ | refine Ext.drew ?_ | refine Ext.drewN ?_ _)); done) | (refine Ext.trans (X0.out.trans X8.out) ?_; (repeat (first | exact Ext.refl _ | exact Ext.pre (by simp) | exact Ext.alloc (by assumption) _ | refine Ext.alloc ?_ _ | refine Ext.more ?_ _ _ | refine Ext.drew ?_ | refine Ext.drewN ?_ _)); done)
       rintro e w7 ⟨rfl, hx7⟩
       have X7 : Hid (Ext w0 w7) := hide (by
         refine Ext.trans ?_ hx7
         first | (refine Ext.trans (Ext.refl w0) ?_; (repeat (first | exact Ext.refl _ | exact Ext.pre (by simp) | exact Ext.alloc (by assumption) _ | refine Ext.alloc ?_ _ | refine Ext.more ?_ _ _ | refine Ext.drew ?_ | refine Ext.drewN ?_ _)); done) | (refine Ext.trans X8.out ?_; (repeat (first | exact Ext.refl _ | exact Ext.pre (by simp) | exact Ext.alloc (by assumption) _ | refine Ext.alloc ?_ _ | refine Ext.more ?_ _ _ | refine Ext.drew ?_ | refine Ext.drewN ?_ _)); done))
       have K7 := HS.out _ X7.out
       clear hx7)
    | (go_at_call 33
       refine Calls.mono (HB2.out _ ?e).out ?_
       case e => first | (refine Ext.trans X0.out ?_; (repeat (first | exact Ext.refl _ | exact Ext.pre (by simp) | exact Ext.alloc (by assumption) _ | refine Ext.alloc ?_ _ | refine Ext.more ?_ _ _ | refine Ext.drew ?_ | refine Ext.drewN ?_ _)); done) | (refine Ext.trans (X0.out.trans X7.out) ?_; (repeat (first | exact Ext.refl _ | exact Ext.pre (by simp) | exact Ext.alloc (by assumption) _ | refine Ext.alloc ?_ _ | refine Ext.more ?_ _ _ | refine Ext.drew ?_ | refine Ext.drewN ?_ _)); done)
       rintro e w8 ⟨rfl, hx8⟩
       have X8 : Hid (Ext w0 w8) := hide (by
         refine Ext.trans ?_ hx8
         first | (refine Ext.trans (Ext.refl w0) ?_; (repeat (first | exact Ext.refl _ | exact Ext.pre (by simp) | exact Ext.alloc (by assumption) _ | refine Ext.alloc ?_ _ | refine Ext.more ?_ _ _ | refine Ext.drew ?_ | refine Ext.drewN ?_ _)); done) | (refine Ext.trans X7.out ?_; (repeat (first | exact Ext.refl _ | exact Ext.pre (by simp) | exact Ext.alloc (by assumption) _ | refine Ext.alloc ?_ _ | refine Ext.more ?_ _ _ | refine Ext.drew ?_ | refine Ext.drewN ?_ _)); done))
       have K8 := HS.out _ X8.out
       clear hx8))
  all_goals
    go_wp2
    go_ret
    first
      | exact ⟨rfl, X0.out.trans X7.out⟩
      | exact ⟨rfl, X0.out.trans X8.out⟩
      | exact ⟨rfl, X0.out.trans (X7.out.trans (by repeat (first | exact Ext.refl _ | exact Ext.pre (by simp) | exact Ext.alloc (by assumption) _ | refine Ext.alloc ?_ _ |  refine Ext.more ?_ _ _ | refine Ext.drew ?_ | refine Ext.drewN ?_ _)))⟩
      | exact ⟨rfl, X0.out.trans (X8.out.trans (by repeat (first | exact Ext.refl _ | exact Ext.pre (by simp) | exact Ext.alloc (by assumption) _ | refine Ext.alloc ?_ _ |  refine Ext.more ?_ _ _ | refine Ext.drew ?_ | refine Ext.drewN ?_ _)))⟩

set_option maxRecDepth 10000 in
set_option maxHeartbeats 8000000 in
theorem t_text_con (t : Ty) (hf : t.con ≠ [45, 62]) (ok : okI t = true) (hsz : t.size ≤ 20000) (hlen : (textT t).length ≤ 100000000000000) (ih : ∀ k ∈ t.args, TextC k) : TextC t := by
  intro w h
  obtain ⟨W, hW⟩ : ∃ W, W = (w.alloc (.cells #[encStr t.con, .int .i64 t.var, .slice t.A t.args.length t.cap] 37)).alloc (.cells #[.pointer none, .slice none 0 0] 123) := ⟨_, rfl⟩
  have X0 : Hid (Ext w W) := hide (by rw [hW]; exact ((Ext.refl w).alloc _).alloc _)
  have hsW : W.heap.size = w.heap.size + 2 := by rw [hW]; simp
  have XB : Hid (TBox W w.heap.size t) := hide (by rw [hW]; exact (TBox.new w t).ext ((Ext.refl _).alloc _))
  have BB : Hid (W.heap[w.heap.size + 1]? = some (.cells #[.pointer none, .slice none 0 0] 123 (0, 0))) := hide (by rw [hW]; exact at_newB _ _ _ (by simp))
  have hle := h.le
  have hmx := h.max
  have H := hide h
  have HO := hide (fun w' => t_of t w')
  have HN := hide (fun w' => t_nameA t w' ok)
  have HCl := hide (fun (k : Ty) (hk : k ∈ t.args) (b : Bool) (w' : World) (hh : TyIn w' k) => hide (t_closedOf k (textT_few (okI_arg ok hk) (by have := Ty.size_arg hk; omega)) (fun v hv => ih k hk v hv) b w' hh))
  have HE2 : Hid (textT t = headT t ++ restT t.args) := hide (textT_else (fun hh => hf hh.1))
  have HLr : Hid (∀ k, (headT t ++ restT (t.args.take k)).length ≤ 100000000000000) := hide (fun k => by
    have h1 := HE2.out
    have h2 : restT t.args = restT (t.args.take k) ++ restT (t.args.drop k) := by unfold restT; rw [← List.flatten_append, ← List.map_append, List.take_append_drop]
    have h3 : (textT t).length = (headT t).length + ((restT (t.args.take k)).length + (restT (t.args.drop k)).length) := by rw [h1, h2, List.length_append, List.length_append]
    rw [List.length_append]
    omega)
  have HNe := hide (headT_ne (t := t))
  have g1 : (t.con == [45, 62]) = false := by simpa using hf
  have b0 := (TBox.new w t).c0
  have c0 := XB.out.c0
  have c1 := XB.out.c1
  have c2 := XB.out.c2
  obtain ⟨R, hR⟩ : ∃ R, R = headT t ++ restT t.args := ⟨_, rfl⟩
  rw [HE2.out, ← hR]
  have HR := hide hR
  clear hR
  unfold headV at HO HN
  unfold tyV at HO ⊢
  clear h ok hsz ih hf
  go_enter Tryz.func33, Tryz.ntmps33
  go_wp2_with fail
  rw [← hW]
  clear b0 hW
  refine (HO.out _).mono ?_
  rintro e w2 ⟨rfl, hx2⟩
  have X2 := hide hx2
  clear hx2
  go_wp2_with fail
  refine (HN.out _).mono ?_
  rintro e w3 ⟨rfl, hx3⟩
  have X3 := hide (X2.out.trans hx3)
  have IB : Lib.IsBuilder 123 5 (w.heap.size + 1) (w.heap.size + 1) [] w3 := .inl ⟨Nat.le_refl _, _, (X3.out.heap (by omega)).trans BB.out, World.ownsRow_nil _ _ _ _, fun e => by cases e⟩
  have hs3 := X3.out.size
  have hl0 := HLr.out 0
  have HW := hide (b_write (w.heap.size + 1) (w.heap.size + 1) [] ⟨(headT t).toArray⟩ w3 IB (by rw [List.take_zero] at hl0; have : (headT t ++ restT []).length ≤ 100000000000000 := hl0; rw [List.length_append] at this; rw [ba_size]; show 0 + (headT t).length ≤ _; omega) (by omega))
  clear IB hx3
  go_wp2_with fail
  refine HW.out.mono ?_
  rintro e w4 ⟨rfl, hb4, hx4⟩
  rw [List.nil_append, Lib.strCells_eq] at hb4
  have HB4 : Hid (Lib.IsBuilder 123 5 (w.heap.size + 1) (w.heap.size + 1) (Lib.byteCells (headT t)) w4) := hide (.inr hb4)
  have X4 : Hid (Below (w.heap.size + 1) w3 w4) := hide hx4
  have XB4 : Hid (TBox w4 w.heap.size t) := hide ((hx4.block _ (by omega)).trans (XB.out.ext X3.out))
  have hs4 : w3.heap.size ≤ w4.heap.size := hx4.size
  have HA4 : Hid (Below w.heap.size w w4) := hide ((X0.out.trans X3.out).below.trans (hx4.mono (by omega)))
  clear hb4 hx4 c0 c1 c2
  have c2 := XB4.out.c2
  go_wp2
  clear c2
  go_loopw [34] (fun i wr => ∃ k : Nat, k ≤ t.args.length ∧ i = .int .i64 k ∧ Hid (Below w.heap.size w wr) ∧ Hid (Lib.IsBuilder 123 5 (w.heap.size + 1) (w.heap.size + 1) (Lib.byteCells (headT t ++ restT (t.args.take k))) wr)) (fun i _ => t.args.length - (intOf i).toNat)
  case atStart => exact ⟨0, Nat.zero_le _, rfl, HA4, by simpa [restT] using HB4⟩
  case round =>
    obtain ⟨k, hk, rfl, HX, HB⟩ := hrel
    have hbl : w.heap.size + 1 < wr.heap.size := by
      rcases HB.out with ⟨-, v, hbk, -⟩ | ⟨-, v, hbk, -⟩ <;> exact lt_of_obj hbk
    by_cases hlt : k < t.args.length
    · have hlt' : (k : Int) < (t.args.length : Int) := by omega
      have hk0 : (0 : Int) ≤ (k : Int) := by omega
      obtain ⟨b, o, hA, hb, q0, q1, q2⟩ := (H.out.all.old HX.out).at_ hlt
      have hcm := List.getElem_mem hlt
      have hxa := (H.out.all.args _ hcm).old HX.out
      have HC := hide (HCl.out _ hcm (decide (0 < (t.args[k]'hlt).args.length)) (wr.alloc (.cells #[encStr (t.args[k]'hlt).con, .int .i64 (t.args[k]'hlt).var, .slice (t.args[k]'hlt).A (t.args[k]'hlt).args.length (t.args[k]'hlt).cap] 37)) (hxa.ext ((Ext.refl _).alloc _)))
      have hcat : headT t ++ restT (t.args.take (k + 1)) = (headT t ++ restT (t.args.take k)) ++ (([32] : Str) ++ brack (decide (0 < (t.args[k]'hlt).args.length)) (textT (t.args[k]'hlt))) := by rw [restT_take _ hlt, List.append_assoc]
      have hlr := HLr.out (k + 1)
      rw [hcat] at hlr
      have HCat := hide hcat
      clear hcm hxa hcat
      generalize brack (decide (0 < (t.args[k]'hlt).args.length)) (textT (t.args[k]'hlt)) = sa at *
      have hdec : decide ((t.args[k]'hlt).args.length > 0) = decide (0 < (t.args[k]'hlt).args.length) := rfl
      generalize t.args[k]'hlt = x at *
      generalize headT t ++ restT (t.args.take k) = s0 at *
      have hls : s0.length + (1 + sa.length) ≤ 100000000000000 := by simp only [List.length_append, List.length_cons, List.length_nil] at hlr; omega
      clear hlr
      have h1 : ¬ ((⟨#[32]⟩ : ByteArray).size + (⟨sa.toArray⟩ : ByteArray).size > 9223372036854775807) := by rw [ba_size sa]; show ¬ (1 + sa.length > _); omega
      have e1 : (ByteArray.mk #[32] ++ ByteArray.mk sa.toArray) = ByteArray.mk ([32] ++ sa : Str).toArray := ByteArray.mk_append_mk [32] sa
      have hq1 : ¬ (9223372036854775807 < 1 + sa.length) := by omega
      rw [hA]
      clear hA
      unfold tyV at HC
      go_wp2_with fail
      refine HC.out.mono ?_
      rintro e y ⟨rfl, hxy⟩
      have Xy := hide (((Ext.refl wr).alloc (.cells #[encStr x.con, .int .i64 x.var, .slice x.A x.args.length x.cap] 37)).trans hxy)
      have HBy := hide (isb_ext HB.out Xy.out)
      have hsy := Xy.out.size
      have HWr := hide (b_write (w.heap.size + 1) (w.heap.size + 1) (Lib.byteCells s0) ⟨([32] ++ sa : Str).toArray⟩ y HBy.out (by rw [ba_size]; simp only [Lib.byteCells, List.length_map, List.length_append, List.length_cons, List.length_nil]; omega) (by omega))
      clear hxy
      go_wp2_with fail
      refine HWr.out.mono ?_
      rintro e z ⟨rfl, hbz, hxz⟩
      have HBz : Hid (Lib.IsBuilder 123 5 (w.heap.size + 1) (w.heap.size + 1) (Lib.byteCells (headT t ++ restT (t.args.take (k + 1)))) z) := hide (.inr (by
        rw [HCat.out]
        rw [Lib.strCells_eq] at hbz
        have : Lib.byteCells (s0 ++ ([32] ++ sa)) = Lib.byteCells s0 ++ Lib.byteCells ([32] ++ sa) := by simp [Lib.byteCells]
        rw [this]
        exact hbz))
      have HXz : Hid (Below w.heap.size w z) := hide (HX.out.trans ((Xy.out.below.mono (by have := HX.out.size; omega)).trans (hxz.mono (by omega))))
      clear hbz hxz
      go_wp2
      go_roundw
      case rel => exact ⟨k + 1, hlt, by go_num, HXz, HBz⟩
      case measure => simp [intOf]; omega
    · have hge : ¬ (k : Int) < (t.args.length : Int) := by omega
      have HB2 : Hid (Lib.IsBuilder 123 5 (w.heap.size + 1) (w.heap.size + 1) (Lib.byteCells (headT t ++ restT t.args)) wr) := hide (by have := HB.out; rwa [List.take_of_length_le (by omega)] at this)
      have hne : headT t ++ restT t.args ≠ [] := fun e => HNe.out (List.append_eq_nil_iff.1 e).1
      have HS := hide (b_string (w.heap.size + 1) (w.heap.size + 1) (headT t ++ restT t.args) wr HB2.out hne)
      rw [← HR.out] at HS
      clear HB HB2 hne
      go_wp2_with fail
      refine HS.out.mono ?_
      rintro e w5 ⟨rfl, hx5⟩
      go_wp2
      go_ret
      exact ⟨rfl, Ext.of_below (HX.out.trans (hx5.mono (by omega))) (Nat.le_refl _)⟩

set_option maxRecDepth 10000 in
set_option maxHeartbeats 2000000 in
theorem t_Text (t : Ty) (w : World) (h : TyIn w t) (hl : legalT t = true) (hT : TextC t) : Calls Tryz.prog 17 #[tyV t] w fun e w' => e = .returned (encStr (textT t)) ∧ Ext w w' := by
  have X0 : Hid (Ext w (w.alloc (.cells #[encStr t.con, .int .i64 t.var, .slice t.A t.args.length t.cap] 37))) := hide ((Ext.refl w).alloc _)
  have HB := hide (TBox.new w t)
  have c0 := HB.out.c0
  have c1 := HB.out.c1
  have c2 := HB.out.c2
  have HL := hide (t_legalU t _ (h.ext X0.out))
  have HT := hide (fun w' (e : Ext w w') => hide (hT w' (h.ext e)))
  have HB2 := hide (fun w' (e : Ext (w.alloc (.cells #[encStr t.con, .int .i64 t.var, .slice t.A t.args.length t.cap] 37)) w') => And.intro (HB.out.ext e).c0 (And.intro (HB.out.ext e).c1 (HB.out.ext e).c2))
  rw [hl] at HL
  clear h hT
  unfold tyV at *
  generalize textT t = s at *
  go_enter Tryz.func17, Tryz.ntmps17
  go_wp2_with fail
  refine HL.out.mono ?_
  rintro e w2 ⟨rfl, hx⟩
  have X2 := hide (X0.out.trans hx)
  obtain ⟨d0, d1, d2⟩ := HB2.out _ hx
  clear hx c0 c1 c2
  go_wp2_with fail
  refine (HT.out _ X2.out).out.mono ?_
  rintro e w3 ⟨rfl, hx3⟩
  go_wp2
  go_ret
  exact ⟨rfl, X2.out.trans hx3⟩

end Go.Proofs.YtpdcjjgkpbpleaaGreatDoor

/- Chapter 24's example: plain. -/
namespace Go.Proofs.YtpdcjjgkpbpleaaGreatDoor
open Go.RowKit

def exG (n : Int) : Pf := .mk 1 n none 0 [] none 0 []
def exS (n : Int) (b : Nat) (g : Int) : Pf := .mk 2 n none 0 [] (some ⟨b, 0, none⟩) 1 [exG g]
def exP24 (b1 b0 : Nat) : Pf := .mk 3 0 none 0 [] (some ⟨b1, 0, none⟩) 1 [exS 1 b0 2]
def exV : Ty := .mk [] 5 none 0 []
def exQ24 (b9 b11 b10 : Nat) : Pf := .mk 3 0 (some ⟨b9, 0, none⟩) 1 [exV] (some ⟨b11, 0, none⟩) 1 [exS 0 b10 0]
def exC24 (b3 : Nat) : List KlD := [⟨[67], none, 0, [], none, 0, []⟩, ⟨[68], some ⟨b3, 0, none⟩, 1, [[67]], none, 0, []⟩]
def exI24 (b5 : Nat) : List InD := [⟨[68], [84], 1, some ⟨b5, 0, none⟩, 1, [⟨[67], Ty.zero⟩]⟩]
def exE24 (b3 b4 b5 b6 : Nat) : EnD := ⟨none, 0, [], some ⟨b4, 0, none⟩, 2, exC24 b3, some ⟨b6, 0, none⟩, 1, exI24 b5⟩
def exD24 : List Pd := [⟨[68], exV⟩]

theorem exV_legal : legalT exV = true := legal_var 5 none 0
theorem exT_legal (A : Option Addr) (c : Nat) : legalT (.mk [84] 0 A c [exV]) = true := by
  unfold legalT
  rw [shapeT_eq, Ty.size_eq, Ty.depth_eq]
  have h1 : exV.size = 1 := by rw [Ty.size_eq]; rfl
  have h2 : exV.depth = 1 := by rw [Ty.depth_eq]; rfl
  have h3 : shapeT exV = true := (legal_parts exV_legal).2.2
  simp only [Ty.args, Ty.con, Ty.var, List.map_cons, List.map_nil, h1, h2, List.all_cons, List.all_nil, h3]
  decide
theorem exD_given (b3 b5 : Nat) : prv (exC24 b3) (exI24 b5) exD24 (exG 0) = some ⟨[68], exV⟩ := by
  rw [prv_eq]
  have h : prv0 (exC24 b3) (exI24 b5) exD24 (exG 0) ((exG 0).kids.map (prv (exC24 b3) (exI24 b5) exD24)) = some ⟨[68], exV⟩ := rfl
  rw [h, Option.filter_some, if_pos]
  show (conB [68] && legalT exV) = true
  rw [exV_legal]
  rfl
theorem exD_super (b3 b5 b10 : Nat) : prv (exC24 b3) (exI24 b5) exD24 (exS 0 b10 0) = some ⟨[67], exV⟩ := by
  rw [prv_eq]
  have h : prv0 (exC24 b3) (exI24 b5) exD24 (exS 0 b10 0) [some ⟨[68], exV⟩] = some ⟨[67], exV⟩ := rfl
  rw [show (exS 0 b10 0).kids.map (prv (exC24 b3) (exI24 b5) exD24) = [some ⟨[68], exV⟩] from by show [prv _ _ _ (exG 0)] = _; rw [exD_given]]
  rw [h, Option.filter_some, if_pos]
  show (conB [67] && legalT exV) = true
  rw [exV_legal]
  rfl
theorem exI_ok (b5 : Nat) : instB ⟨[68], [84], 1, some ⟨b5, 0, none⟩, 1, [⟨[67], Ty.zero⟩]⟩ = true := by
  have h : instB ⟨[68], [84], 1, some ⟨0, 0, none⟩, 1, [⟨[67], Ty.zero⟩]⟩ = true := by decide +kernel
  exact h
theorem exQ_prv (b3 b5 b9 b11 b10 : Nat) : prv (exC24 b3) (exI24 b5) exD24 (exQ24 b9 b11 b10) = some ⟨[68], .mk [84] 0 (some ⟨b9, 0, none⟩) 1 [exV]⟩ := by
  rw [prv_eq]
  rw [show (exQ24 b9 b11 b10).kids.map (prv (exC24 b3) (exI24 b5) exD24) = [some ⟨[67], exV⟩] from by show [prv _ _ _ (exS 0 b10 0)] = _; rw [exD_super]]
  have h : prv0 (exC24 b3) (exI24 b5) exD24 (exQ24 b9 b11 b10) [some ⟨[67], exV⟩] = some ⟨[68], .mk [84] 0 (some ⟨b9, 0, none⟩) 1 [exV]⟩ := by
    show instR (exI24 b5) (exQ24 b9 b11 b10) [some ⟨[67], exV⟩] = _
    unfold instR
    rw [show atZ (exI24 b5) (exQ24 b9 b11 b10).n = some ⟨[68], [84], 1, some ⟨b5, 0, none⟩, 1, [⟨[67], Ty.zero⟩]⟩ from rfl, Option.bind_some, if_pos]
    · rfl
    · rw [Bool.and_eq_true]
      constructor
      · unfold instOkB
        rw [exI_ok]
        show (true && decide ((1 : Int) = 1) && decide (1 = 1) && [exV].all legalT) = true
        simp [exV_legal]
      · unfold wantsB
        show ([(⟨[67], Ty.zero⟩, some ⟨[67], exV⟩)] : List (Pd × Option Pd)).all _ = true
        simp only [List.all_cons, List.all_nil, Bool.and_true]
        show (([67] : Str) == [67] && sameB exV exV) = true
        rw [sameB_refl]
        rfl
  rw [h, Option.filter_some, if_pos]
  show (conB [68] && legalT _) = true
  rw [exT_legal]
  rfl
theorem exP_prv (b3 b5 b1 b0 : Nat) : prv (exC24 b3) (exI24 b5) exD24 (exP24 b1 b0) = none := by
  rw [prv_eq]
  have h : ∀ l, prv0 (exC24 b3) (exI24 b5) exD24 (exP24 b1 b0) l = none := by
    intro l
    show instR (exI24 b5) (exP24 b1 b0) l = _
    unfold instR
    rw [show atZ (exI24 b5) (exP24 b1 b0).n = some ⟨[68], [84], 1, some ⟨b5, 0, none⟩, 1, [⟨[67], Ty.zero⟩]⟩ from rfl, Option.bind_some, if_neg]
    rw [Bool.and_eq_true]
    rintro ⟨h, -⟩
    unfold instOkB at h
    simp only [Bool.and_eq_true, decide_eq_true_eq] at h
    exact absurd h.1.1.2 (by show ¬ (0 : Int) = 1; decide)
  rw [h]
  rfl
/-- What a type says, told by its parts. -/
theorem exT_inv {t : Ty} (h : t.pure = (Ty.mk [84] 0 none 0 [exV]).pure) : ∃ A c A1 c1, t = .mk [84] 0 A c [.mk [] 5 A1 c1 []] := by
  obtain ⟨s, v, A, c, l⟩ := t
  rw [Ty.pure_eq, Ty.pure_eq] at h
  simp only [Ty.con, Ty.var, Ty.args, List.map_cons, List.map_nil] at h
  injection h with h1 h2 h3
  cases l with
  | nil => cases h3
  | cons x l =>
    cases l with
    | cons y l => simp at h3
    | nil =>
      simp only [List.map_cons, List.map_nil, List.cons.injEq, and_true] at h3
      obtain ⟨s', v', A', c', l'⟩ := x
      rw [Ty.pure_eq, Ty.pure_eq exV] at h3
      simp only [Ty.con, Ty.var, Ty.args, exV, List.map_nil] at h3
      injection h3 with k1 k2 k3
      have : l' = [] := by simpa using k3
      subst this k1 k2 h1 h2
      exact ⟨A, c, A', c', rfl⟩
theorem exT_text (A : Option Addr) (c : Nat) (A1 : Option Addr) (c1 : Nat) : textT (.mk [84] 0 A c [.mk [] 5 A1 c1 []]) = [84, 32, 102] := by
  rw [textT_else (by rintro ⟨h, -⟩; cases h)]
  have h1 : textT (.mk [] 5 A1 c1 []) = [102] := by
    rw [textT_else (by rintro ⟨h, -⟩; cases h)]
    show headT _ ++ restT [] = _
    rfl
  show headT _ ++ restT [Ty.mk [] 5 A1 c1 []] = _
  unfold restT
  simp only [List.map_cons, List.map_nil, h1]
  rfl
theorem exP_size (b1 b0 : Nat) : (exP24 b1 b0).size = 3 := by
  have h1 : (exG 2).size = 1 := by rw [Pf.size_eq]; rfl
  have h2 : (exS 1 b0 2).size = 2 := by rw [Pf.size_eq]; show ([exG 2].map Pf.size).sum + 1 = 2; simp [h1]
  rw [Pf.size_eq]
  show ([exS 1 b0 2].map Pf.size).sum + 1 = 3
  simp [h2]
/-- Others put in. -/
theorem exQ_put (b9 b11 b10 : Nat) : putK [exG 7] (exQ24 b9 b11 b10) = some (.mk 3 0 [exV.pure] [.mk 2 0 [] [.mk 1 7 [] []]]) ∧ putZ [exG 7] (exQ24 b9 b11 b10) = 3 := by
  have a1 : putK [exG 7] (exG 0) = some (.mk 1 7 [] []) := by
    rw [putK_eq, if_pos (show (exG 0).kind = 1 from rfl)]
    show some (exG 7).pure = _
    rw [Pf.pure_eq]
    rfl
  have a2 : putK [exG 7] (exS 0 b10 0) = some (.mk 2 0 [] [.mk 1 7 [] []]) := by
    rw [putK_eq, if_neg (show ¬ (exS 0 b10 0).kind = 1 from by show ¬ (2:Int) = 1; decide)]
    show (allSome [putK [exG 7] (exG 0)]).map _ = _
    rw [a1]
    rfl
  have z1 : putZ [exG 7] (exG 0) = 1 := by
    rw [putZ_eq, if_pos (show (exG 0).kind = 1 from rfl)]
    show (exG 7).size = 1
    rw [Pf.size_eq]
    rfl
  have z2 : putZ [exG 7] (exS 0 b10 0) = 2 := by
    rw [putZ_eq, if_neg (show ¬ (exS 0 b10 0).kind = 1 from by show ¬ (2:Int) = 1; decide)]
    show ([putZ [exG 7] (exG 0)]).sum + 1 = 2
    rw [z1]
    rfl
  constructor
  · rw [putK_eq, if_neg (show ¬ (exQ24 b9 b11 b10).kind = 1 from by show ¬ (3:Int) = 1; decide)]
    show (allSome [putK [exG 7] (exS 0 b10 0)]).map _ = _
    rw [a2]
    rfl
  · rw [putZ_eq, if_neg (show ¬ (exQ24 b9 b11 b10).kind = 1 from by show ¬ (3:Int) = 1; decide)]
    show ([putZ [exG 7] (exS 0 b10 0)]).sum + 1 = 3
    rw [z2]
    rfl
/-- The one kid of a proof. -/
theorem one_kid {p : Pf} {k n : Int} {ts : List Ty.Pure} {x : Pf.Pure} (h : p.pure = .mk k n ts [x]) : p.kind = k ∧ p.n = n ∧ ∃ y, p.kids = [y] ∧ y.pure = x := by
  rw [Pf.pure_eq] at h
  injection h with h1 h2 h3 h4
  refine ⟨h1, h2, ?_⟩
  cases e : p.kids with
  | nil => rw [e] at h4; cases h4
  | cons y l =>
    rw [e] at h4
    cases l with
    | cons z l => simp at h4
    | nil => simp at h4; exact ⟨y, rfl, h4⟩
theorem no_kid {p : Pf} {k n : Int} {ts : List Ty.Pure} (h : p.pure = .mk k n ts []) : p.kind = k ∧ p.n = n ∧ p.kids = [] := by
  rw [Pf.pure_eq] at h
  injection h with h1 h2 h3 h4
  exact ⟨h1, h2, by simpa using h4⟩

end Go.Proofs.YtpdcjjgkpbpleaaGreatDoor
