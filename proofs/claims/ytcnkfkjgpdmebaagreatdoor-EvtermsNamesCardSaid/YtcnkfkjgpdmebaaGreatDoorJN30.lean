/- Contracts: a strings.Builder of the caller's own: what is written, and the text. (Lines of the shelf's own proofs, turned to this program: its laying falls on copyCheck's panic, which is another text here.) -/
import Derived.Test.YtcnkfkjgpdmebaaGreatDoorJN29
import Derived.Lib.Strings
import Derived.Lib.Builder
import Derived.Lib.AppendStr
import Derived.Lib.UnsafeStr
import Derived.Laws.Externs
import Derived.Deep.RegionHeld3
/- Contracts: a strings.Builder of the caller's own: what is written, and the text. (Lines of the shelf's own proofs, turned to this program: its laying falls on copyCheck's panic, which is another text here.) -/
namespace Go.Proofs.YtcnkfkjgpdmebaaGreatDoor
open Go.RowKit

theorem bld_size : (Tryz.prog.info? 239).map (·.size) = some 2 := by kernel_rfl
theorem bld_lies : liesAt Tryz.prog Tryz.prog.depth 239 (2 / Tryz.prog.cellsOf 239) 0 239 1 = true := by kernel_rfl

set_option maxRecDepth 100000 in
set_option maxHeartbeats 1000000 in
theorem b_check_used (b : Nat) (w : World) (h0 : w.cell? ⟨b, 0, none⟩ = some (.pointer (some ⟨b, 0, none⟩))) :
    Calls Tryz.prog 204 #[.pointer (some ⟨b, 0, none⟩)] w fun e w' => e = .returned (.tuple #[]) ∧ w' = w := by
  obtain ⟨j, hj, _⟩ := Option.map_eq_some_iff.1 bld_size
  go_enter Tryz.func204, Tryz.ntmps204
  go_wp2
  rw [Lib.run_neq_ptr_same w _ Tryz.underlying237 hj]
  go_wp2
  go_end0
  exact ⟨rfl, rfl⟩

set_option maxRecDepth 100000 in
set_option maxHeartbeats 1000000 in
theorem b_check_fresh (b : Nat) (w : World) (h0 : w.cell? ⟨b, 0, none⟩ = some (.pointer none)) (hsh : w.shape? b = some (239, 2)) (hfz : w.frozen? ⟨b, 0, none⟩ = false) :
    Calls Tryz.prog 204 #[.pointer (some ⟨b, 0, none⟩)] w fun e w' => e = .returned (.tuple #[]) ∧ w' = w.setCell ⟨b, 0, none⟩ (.pointer (some ⟨b, 0, none⟩)) := by
  obtain ⟨j, hj, hjs⟩ := Option.map_eq_some_iff.1 bld_size
  go_enter Tryz.func204, Tryz.ntmps204
  go_wp2
  rw [Lib.run_to_unsafe w ⟨b, 0, none⟩ Tryz.underlying237 Tryz.underlying182 hj (by rw [hjs]; decide) hsh (Nat.zero_lt_succ 1)]
  simp only [Result.andThen]
  rw [Oper.upon_value]
  go_wp2
  rw [run_callFunc_extern Tryz.func229 (by kernel_rfl) (by kernel_rfl) (by kernel_rfl) (e := Extern.AbiNoEscape.same) (by kernel_rfl)]
  rw [Lib.run_noEscape]
  simp only [Result.andThen]
  rw [Oper.upon_value]
  go_wp2
  rw [Lib.run_from_unsafe w ⟨b, 0, none⟩ Tryz.underlying182 Tryz.underlying237 hj hsh bld_lies]
  simp only [Result.andThen]
  rw [Oper.upon_value]
  go_wp2
  go_end0
  exact ⟨rfl, rfl⟩

theorem b_check (B b : Nat) (bs : List Value) (w : World) (h : Lib.IsBuilder 239 5 B b bs w) :
    Calls Tryz.prog 204 #[.pointer (some ⟨b, 0, none⟩)] w fun e w' => e = .returned (.tuple #[]) ∧ (Lib.BuilderAt 239 5 B b (.pointer (some ⟨b, 0, none⟩)) bs w' ∧ Below B w w') := by
  rcases h with h | h
  · refine (b_check_fresh b w h.cell0 h.shape h.frozen0).mono ?_
    rintro e w' ⟨rfl, rfl⟩
    exact ⟨rfl, h.used _, (Below.refl B w).setCell (p := ⟨b, 0, none⟩) h.1 _⟩
  · refine (b_check_used b w h.cell0).mono ?_
    rintro e w' ⟨rfl, rfl⟩
    exact ⟨rfl, h, Below.refl B _⟩

theorem byte_info : (Tryz.prog.info? 5).map (fun i => (i.zero, i.size, i.bytes)) = some (some (.int .u8 0), 1, 1) := by kernel_rfl

set_option maxRecDepth 100000 in
set_option maxHeartbeats 2000000 in
theorem b_write (B b : Nat) (bs : List Value) (s : ByteArray) (w : World) (h : Lib.IsBuilder 239 5 B b bs w) (hlen : bs.length + s.size ≤ 140737488355328) (hBw : B ≤ w.heap.size) :
    Calls Tryz.prog 164 #[.pointer (some ⟨b, 0, none⟩), .string s] w fun e w' => e = .returned (.tuple #[.int .i64 s.size, .nilIface]) ∧ (Lib.BuilderAt 239 5 B b (.pointer (some ⟨b, 0, none⟩)) (bs ++ Lib.strCells s) w' ∧ Below B w w') := by
  obtain ⟨i0, hi, hz0, hz1, hz2⟩ := info_parts byte_info
  have HC := hide (b_check B b bs w h)
  clear h
  go_enter Tryz.func164, Tryz.ntmps164
  go_wp2_with fail
  refine HC.out.mono ?_
  rintro e w1 ⟨rfl, h1, hb1⟩
  obtain ⟨hB, v, hbk, hown, hne⟩ := h1
  have c0 : w1.cell? ⟨b, 0, none⟩ = some (.pointer (some ⟨b, 0, none⟩)) := by rw [Lib.cell_of_heap hbk]; rfl
  have c1 : w1.cell? ⟨b, 1, none⟩ = some v := by rw [Lib.cell_of_heap hbk]; rfl
  go_wp2_with (at_builtin; refine Lib.wpList_append_own_string _ rfl _ _ 126 9 rfl B 5 i0 Tryz.underlying126 Tryz.underlying9 hi hz0 hz1 hz2 _ _ _ rfl hown s rfl ?c3 ?c4 ?c5 ?_)
  case c3 => unfold maxLen; omega
  case c4 => omega
  case c5 => have := hb1.size; omega
  intro v' w2 hown' hgrow _
  have hlt : b < w1.heap.size := lt_of_obj hbk
  have hb2 : w2.heap[b]? = some (.cells #[.pointer (some ⟨b, 0, none⟩), v] 239 (0, 0)) := by
    rw [hgrow.block b hlt (fun e => hne e.symm)]
    exact hbk
  have d0 : w2.cell? ⟨b, 0, none⟩ = some (.pointer (some ⟨b, 0, none⟩)) := by rw [Lib.cell_of_heap hb2]; rfl
  have d1 : w2.cell? ⟨b, 1, none⟩ = some v := by rw [Lib.cell_of_heap hb2]; rfl
  have f1 : w2.frozen? ⟨b, 1, none⟩ = false := Lib.frozen_of_heap hb2 1
  obtain ⟨ao, n', cap, rfl⟩ : ∃ ao n' cap, v' = .slice ao n' cap := by
    rcases hown'.2 with ⟨hv, _⟩ | ⟨g, cap, cur, hv, _⟩
    · exact ⟨_, _, _, hv⟩
    · exact ⟨_, _, _, hv⟩
  go_wp2
  go_ret2
  refine ⟨rfl, ?_, ?_⟩
  · exact Lib.BuilderAt.put (T := 239) (e := 5) hB hb2 (bs' := bs ++ Lib.strCells s) (by simpa [Lib.strCells_length] using hown') (by decide)
  · exact (hb1.grown hgrow (by have := hb1.size; omega) (fun k hk => (hown.lt k hk).1)).setCell (p := ⟨b, 1, none⟩) hB _

set_option maxRecDepth 100000 in
set_option maxHeartbeats 2000000 in
theorem b_string (B b : Nat) (l : List UInt8) (w : World) (h : Lib.IsBuilder 239 5 B b (Lib.byteCells l) w) (h0 : l ≠ []) :
    Calls Tryz.prog 165 #[.pointer (some ⟨b, 0, none⟩)] w fun e w' => e = .returned (.string ⟨l.toArray⟩) ∧ Below B w w' := by
  obtain ⟨p, hB, v, hbk, hown, hne⟩ : ∃ p, Lib.BuilderAt 239 5 B b p (Lib.byteCells l) w := by
    rcases h with h | h
    · exact ⟨_, h⟩
    · exact ⟨_, h⟩
  have hl0 : l.length ≠ 0 := by simpa using h0
  rw [Lib.byteCells_length] at hown
  obtain ⟨g, cap, cur, rfl, hbg, hg, hnc, hcm, hcs, htake⟩ : ∃ g cap cur, v = .slice (some ⟨g, 0, none⟩) l.length cap ∧ B ≤ g ∧ w.heap[g]? = some (.cells cur 5 (0, 0)) ∧ l.length ≤ cap ∧ cap ≤ maxLen ∧ cur.size = cap * 1 ∧ cur.toList.take (l.length * 1) = Lib.byteCells l := by
    rcases hown.2 with ⟨_, hz⟩ | ⟨g, cap, cur, hv, r⟩
    · exact absurd hz hl0
    · exact ⟨g, cap, cur, hv, r⟩
  have c1 : w.drew.cell? ⟨b, 1, none⟩ = some (.slice (some ⟨g, 0, none⟩) l.length cap) := by
    have : w.drew.heap[b]? = some (.cells #[p, .slice (some ⟨g, 0, none⟩) l.length cap] 239 (0, 0)) := hbk
    rw [Lib.cell_of_heap this]; rfl
  have hSD : (Builtin.unsafeSliceData_ #[126] 281 #[.slice (some ⟨g, 0, none⟩) l.length cap]).run Tryz.prog w.drew = .ok (.pointer (some ⟨g, 0, none⟩)) w.drew :=
    Lib.run_unsafeSliceData_row _ _ _ _ _ _ (by omega)
  have hUS : (Builtin.unsafeString_ #[281, 3] 9 #[.pointer (some ⟨g, 0, none⟩), .int .i64 l.length]).run Tryz.prog w.drew = .ok (.string ⟨l.toArray⟩) (w.drew.freeze ⟨g, 0, none⟩ l.length) := by
    refine Lib.run_unsafeString_row w.drew 281 3 9 5 Tryz.underlying281 (by kernel_rfl) g cur.size (by have hg' : w.drew.heap[g]? = some (.cells cur 5 (0, 0)) := hg; simp [World.shape?, hg']) l h0 (by omega) (by unfold maxLen at hcm; omega) ?_
    intro j x hx
    have := hown.cells (g := g) rfl j (.int .u8 x.toNat) (by simp [Lib.byteCells, hx])
    exact this
  go_enter Tryz.func165, Tryz.ntmps165
  go_wp2
  go_region
  all_goals (go_wp2; go_ret; exact ⟨rfl, Lib.below_freeze (Below.drew (Below.refl B w)) (p := ⟨g, 0, none⟩) hbg _⟩)

end Go.Proofs.YtcnkfkjgpdmebaaGreatDoor

/- Contracts: a variable's text; the text that a type begins with. -/
namespace Go.Proofs.YtcnkfkjgpdmebaaGreatDoor
open Go.RowKit

theorem letter_len {v : Int} (h1 : v ≤ 9223372036854775807) : (letter v).length ≤ 30 := by
  unfold letter
  split
  · simp
  · rw [List.length_cons]
    split
    · simp
    · have := digs_20 (show v.toNat / 26 ≤ 9223372036854775807 by omega)
      omega
theorem varS_len {v : Int} (h0 : -9223372036854775808 ≤ v) (h1 : v ≤ 9223372036854775807) : (varS v).length ≤ 30 := by
  unfold varS
  split
  · exact letter_len h1
  · have := digs_20 (show (-1 - v).toNat ≤ 9223372036854775807 by omega)
    rw [List.length_cons]
    omega
theorem varS_ne (v : Int) : varS v ≠ [] := by
  unfold varS
  split
  · unfold letter
    rw [if_neg (by omega)]
    simp
  · simp
theorem varS_nn {v : Int} (h : 0 ≤ v) : varS v = letter v := by unfold varS; rw [if_pos h]
theorem varS_neg {v : Int} (h : v < 0) : varS v = [63] ++ digs (-1 - v).toNat := by unfold varS; rw [if_neg (by omega)]; rfl

/-- A variable. -/
def varT (v : Int) : Ty := .mk [] v none 0 []
theorem varT_in (w : World) (v : Int) : TyIn w (varT v) := TyIn.of (Nat.zero_le _) (by omega) (by decide) (RowOf.nil _ _ _) (by simp)
theorem varT_size (v : Int) : (varT v).size = 1 := by rw [Ty.size_eq]; rfl
theorem varT_legal (v : Int) : legalT (varT v) = true := by
  have h1 := varT_size v
  have h2 : (varT v).depth = 1 := by rw [Ty.depth_eq]; rfl
  have h3 : shapeT (varT v) = true := by unfold shapeT; rw [allB_eq]; rfl
  unfold legalT
  rw [h1, h2, h3]
  rfl

set_option maxRecDepth 10000 in
set_option maxHeartbeats 2000000 in
theorem t_name (v : Int) (n : Nat) (h0 : -9223372036854775808 ≤ v) (h1 : v ≤ 9223372036854775807) (w : World) : Calls Tryz.prog 210 #[.agg #[.string ⟨#[]⟩, .int .i64 v, .int .i64 n]] w fun e w' => e = .returned (encStr (varS v)) ∧ Ext w w' := by
  have X0 : Hid (Ext w (w.alloc (.cells #[.string ⟨#[]⟩, .int .i64 v, .int .i64 n] 248))) := hide ((Ext.refl w).alloc _)
  obtain ⟨c0, c1, c2⟩ := hbox (w.alloc (.cells #[encStr [], .int .i64 v, .int .i64 n] 248)) w.heap.size [] v n (at_newB _ _ _ rfl)
  unfold encStr at c0
  by_cases hv : 0 ≤ v
  · have hv' : decide (v ≥ 0) = true := decide_eq_true hv
    have HN := hide (fun w' => n_letter v h1 w')
    rw [varS_nn hv]
    generalize letter v = s at *
    go_enter Tryz.func210, Tryz.ntmps210
    go_wp2_with fail
    refine (HN.out _).mono ?_
    rintro e w2 ⟨rfl, hx⟩
    go_wp2
    go_ret
    exact ⟨rfl, X0.out.trans hx⟩
  · have hv' : decide (v ≥ 0) = false := decide_eq_false hv
    obtain ⟨m, hm⟩ : ∃ m : Nat, -1 - v = m := ⟨(-1 - v).toNat, by omega⟩
    have HT := hide (fun w' => i_text m (by omega) w')
    have H20 := hide (digs_20 (show m ≤ 9223372036854775807 by omega))
    have e1 : (-1 - v).toNat = m := by omega
    rw [varS_neg (by omega), e1]
    generalize digs m = s at *
    go_enter Tryz.func210, Tryz.ntmps210
    go_wp2_with fail
    refine (HT.out _).mono ?_
    rintro e w2 ⟨rfl, hx⟩
    have hsz : ¬ ((⟨#[63]⟩ : ByteArray).size + (⟨s.toArray⟩ : ByteArray).size > 9223372036854775807) := by have := H20.out; rw [ba_size s]; show ¬ (1 + s.length > _); omega
    go_wp2
    go_ret
    refine ⟨?_, X0.out.trans hx⟩
    exact congrArg (fun b => Ending.returned (Value.string b)) (ByteArray.mk_append_mk [63] s)

set_option maxRecDepth 10000 in
set_option maxHeartbeats 2000000 in
/-- A variable's text. -/
theorem t_textV (v : Int) (h0 : -9223372036854775808 ≤ v) (h1 : v ≤ 9223372036854775807) (w : World) : Calls Tryz.prog 173 #[.agg #[.string ⟨#[]⟩, .int .i64 v, .slice none 0 0]] w fun e w' => e = .returned (encStr (varS v)) ∧ Ext w w' := by
  obtain ⟨W, hW⟩ : ∃ W, W = (w.alloc (.cells #[.string ⟨#[]⟩, .int .i64 v, .slice none 0 0] 53)).alloc (.cells #[.pointer none, .slice none 0 0] 239) := ⟨_, rfl⟩
  have X0 : Hid (Ext w W) := hide (by rw [hW]; exact ((Ext.refl w).alloc _).alloc _)
  have hsz : W.heap.size = w.heap.size + 2 := by rw [hW]; simp
  have XB : Hid (W.heap[w.heap.size]? = some (.cells #[.string ⟨#[]⟩, .int .i64 v, .slice none 0 0] 53 (0, 0))) := hide (by rw [hW]; exact ((Ext.refl _).alloc _).heap (by simp) |>.trans (at_newB _ _ _ rfl))
  have BB : Hid (W.heap[w.heap.size + 1]? = some (.cells #[.pointer none, .slice none 0 0] 239 (0, 0))) := hide (by rw [hW]; exact at_newB _ _ _ (by simp))
  have HO := hide (fun w' => t_of (varT v) w')
  have HN := hide (fun w' => t_name v 0 h0 h1 w')
  unfold headV varT tyV at HO
  simp only [Ty.con, Ty.var, Ty.A, Ty.cap, Ty.args, List.length_nil, encStr] at HO
  have HL := hide (varS_len h0 h1)
  have HE := hide (varS_ne v)
  generalize varS v = s at *
  have b0 : (w.alloc (.cells #[.string ⟨#[]⟩, .int .i64 v, .slice none 0 0] 53)).cell? ⟨w.heap.size, 0, none⟩ = some (.string ⟨#[]⟩) := bytes_block (at_newB _ _ _ rfl) 0
  have c0 := bytes_block XB.out 0
  have c1 := bytes_block XB.out 1
  have c2 := bytes_block XB.out 2
  simp only [List.getElem?_toArray, List.getElem?_cons_zero, List.getElem?_cons_succ] at c0 c1 c2
  go_enter Tryz.func173, Tryz.ntmps173
  go_wp2_with fail
  rw [← hW]
  clear b0 hW
  refine (HO.out _).mono ?_
  rintro e w2 ⟨rfl, hx2⟩
  have X2 := hide hx2
  clear hx2
  go_wp2_with fail
  refine (HN.out _).mono ?_
  rintro e w3 ⟨rfl, hx3⟩
  have X3 := hide (X2.out.trans hx3)
  have IB : Lib.IsBuilder 239 5 (w.heap.size + 1) (w.heap.size + 1) [] w3 := .inl ⟨Nat.le_refl _, _, (X3.out.heap (by omega)).trans BB.out, World.ownsRow_nil _ _ _ _, fun e => by cases e⟩
  have hs3 := X3.out.size
  have HW := hide (b_write (w.heap.size + 1) (w.heap.size + 1) [] ⟨s.toArray⟩ w3 IB (by have := HL.out; rw [ba_size]; show 0 + s.length ≤ _; omega) (by omega))
  clear IB hx3
  go_wp2_with fail
  refine HW.out.mono ?_
  rintro e w4 ⟨rfl, hb4, hx4⟩
  rw [List.nil_append, Lib.strCells_eq] at hb4
  have XB4 : Hid (w4.heap[w.heap.size]? = some (.cells #[.string ⟨#[]⟩, .int .i64 v, .slice none 0 0] 53 (0, 0))) := hide ((hx4.block _ (by omega)).trans ((X3.out.heap (by omega)).trans XB.out))
  have HS := hide (b_string (w.heap.size + 1) (w.heap.size + 1) s w4 (.inr hb4) HE.out)
  have X4 : Hid (Below w.heap.size w w4) := hide ((X0.out.trans X3.out).below.trans (hx4.mono (by omega)))
  clear hb4 hx4 c0 c1 c2
  have c2 := bytes_block XB4.out 2
  simp only [List.getElem?_toArray, List.getElem?_cons_zero, List.getElem?_cons_succ] at c2
  go_wp2
  go_loopw [34] (fun i wr => i = .int .i64 0 ∧ wr = w4) (fun _ _ => 0)
  case atStart => exact ⟨rfl, rfl⟩
  case round =>
    obtain ⟨rfl, rfl⟩ := hrel
    go_wp2_with fail
    refine HS.out.mono ?_
    rintro e w5 ⟨rfl, hx5⟩
    go_wp2
    go_ret
    exact ⟨rfl, Ext.of_below (X4.out.trans (hx5.mono (by omega))) (Nat.le_refl _)⟩

set_option maxRecDepth 10000 in
set_option maxHeartbeats 2000000 in
theorem t_TextV (v : Int) (h0 : -9223372036854775808 ≤ v) (h1 : v ≤ 9223372036854775807) (w : World) : Calls Tryz.prog 125 #[.agg #[.string ⟨#[]⟩, .int .i64 v, .slice none 0 0]] w fun e w' => e = .returned (encStr (varS v)) ∧ Ext w w' := by
  have X0 : Hid (Ext w (w.alloc (.cells #[.string ⟨#[]⟩, .int .i64 v, .slice none 0 0] 53))) := hide ((Ext.refl w).alloc _)
  have HB : Hid (∀ w', Ext (w.alloc (.cells #[.string ⟨#[]⟩, .int .i64 v, .slice none 0 0] 53)) w' → w'.cell? ⟨w.heap.size, 0, none⟩ = some (.string ⟨#[]⟩) ∧ w'.cell? ⟨w.heap.size, 1, none⟩ = some (.int .i64 v) ∧ w'.cell? ⟨w.heap.size, 2, none⟩ = some (.slice none 0 0)) := hide (fun w' e => ⟨e.cell (bytes_block (at_newB _ _ _ rfl) 0), e.cell (bytes_block (at_newB _ _ _ rfl) 1), e.cell (bytes_block (at_newB _ _ _ rfl) 2)⟩)
  obtain ⟨c0, c1, c2⟩ := HB.out _ (Ext.refl _)
  have HL := hide (fun w' => t_legal (varT v) w' (varT_in w' v) (by rw [varT_size]; omega))
  have HT := hide (fun w' => t_textV v h0 h1 w')
  rw [varT_legal] at HL
  unfold varT tyV at HL
  simp only [Ty.con, Ty.var, Ty.A, Ty.cap, Ty.args, List.length_nil, encStr] at HL
  go_enter Tryz.func125, Tryz.ntmps125
  go_wp2_with fail
  refine (HL.out _).mono ?_
  rintro e w2 ⟨rfl, hx2⟩
  have X2 := hide hx2
  obtain ⟨d0, d1, d2⟩ := HB.out _ X2.out
  clear hx2 c0 c1 c2
  go_wp2_with fail
  refine (HT.out _).mono ?_
  rintro e w3 ⟨rfl, hx3⟩
  go_wp2
  go_ret
  exact ⟨rfl, X0.out.trans (X2.out.trans hx3)⟩

end Go.Proofs.YtcnkfkjgpdmebaaGreatDoor

/- Types whose numbers are int's. -/
namespace Go.Proofs.YtcnkfkjgpdmebaaGreatDoor
open Go.RowKit

/-- All numbers of a type are int's; no name is beyond reach. -/
noncomputable def okI : Ty → Bool := Ty.allB fun t => decide (-9223372036854775808 ≤ t.var ∧ t.var ≤ 9223372036854775807 ∧ t.con.length ≤ 140737488351232)
theorem okI_eq (t : Ty) : okI t = (decide (-9223372036854775808 ≤ t.var ∧ t.var ≤ 9223372036854775807 ∧ t.con.length ≤ 140737488351232) && t.args.all okI) := allB_eq _ t
theorem okI_mk {s : Str} {v : Int} {A : Option Addr} {c : Nat} {l : List Ty} (h1 : -9223372036854775808 ≤ v) (h2 : v ≤ 9223372036854775807) (h3 : s.length ≤ 140737488351232) (h : ∀ k ∈ l, okI k = true) : okI (.mk s v A c l) = true := by
  rw [okI_eq, Bool.and_eq_true]
  exact ⟨decide_eq_true ⟨h1, h2, h3⟩, List.all_eq_true.2 h⟩
theorem okI_lo {t : Ty} (h : okI t = true) : -9223372036854775808 ≤ t.var := by
  rw [okI_eq, Bool.and_eq_true] at h
  exact (of_decide_eq_true h.1).1
theorem okI_hi {t : Ty} (h : okI t = true) : t.var ≤ 9223372036854775807 := by
  rw [okI_eq, Bool.and_eq_true] at h
  exact (of_decide_eq_true h.1).2.1
theorem okI_con {t : Ty} (h : okI t = true) : t.con.length ≤ 140737488351232 := by
  rw [okI_eq, Bool.and_eq_true] at h
  exact (of_decide_eq_true h.1).2.2
theorem okI_arg {t : Ty} (h : okI t = true) {k : Ty} (hk : k ∈ t.args) : okI k = true := by
  rw [okI_eq, Bool.and_eq_true] at h
  exact List.all_eq_true.1 h.2 k hk

end Go.Proofs.YtcnkfkjgpdmebaaGreatDoor

/- Texts of types: how long they are. No program in sight. -/
namespace Go.Proofs.YtcnkfkjgpdmebaaGreatDoor
open Go.RowKit

/-- What a type's text begins with. -/
def headT (t : Ty) : Str := if t.con = [] then varS t.var else t.con
theorem digsP_20 {n : Nat} (h : n ≤ 9223372036854775807) : (digs n).length ≤ 20 := digs_len 19 n (Nat.lt_of_le_of_lt h (by decide))
theorem varS_len30 {v : Int} (h0 : -9223372036854775808 ≤ v) (h1 : v ≤ 9223372036854775807) : (varS v).length ≤ 30 := by
  unfold varS
  split
  · unfold letter
    split
    · simp
    · rw [List.length_cons]
      split
      · simp
      · have := digsP_20 (show v.toNat / 26 ≤ 9223372036854775807 by omega)
        omega
  · have := digsP_20 (show (-1 - v).toNat ≤ 9223372036854775807 by omega)
    rw [List.length_cons]
    omega
theorem headT_len {t : Ty} (h : okI t = true) : (headT t).length ≤ 140737488351232 := by
  unfold headT
  split
  · exact Nat.le_trans (varS_len30 (okI_lo h) (okI_hi h)) (by decide)
  · exact okI_con h
theorem brack_len (b : Bool) (s : Str) : (brack b s).length ≤ s.length + 2 := by
  unfold brack
  split
  · simp
  · omega
theorem restT_len (l : List Ty) (h : ∀ k ∈ l, (textT k).length + 3 ≤ 140737488351272 * k.size) : (restT l).length ≤ 140737488351272 * (l.map Ty.size).sum := by
  unfold restT
  induction l with
  | nil => simp
  | cons k l ih =>
    have h1 := h k (List.mem_cons_self)
    have h2 := ih (fun x hx => h x (List.mem_cons_of_mem _ hx))
    have h3 := brack_len (decide (0 < k.args.length)) (textT k)
    rw [List.map_cons, List.flatten_cons, List.length_append, List.length_append, List.map_cons, List.sum_cons, Nat.mul_add]
    simp only [List.length_cons, List.length_nil]
    omega
theorem textT_len (t : Ty) : okI t = true → (textT t).length + 3 ≤ 140737488351272 * t.size := by
  induction t using Ty.ind with
  | h t ih =>
  intro ok
  have hk : ∀ k ∈ t.args, (textT k).length + 3 ≤ 140737488351272 * k.size := fun k hk => ih k hk (okI_arg ok hk)
  by_cases h : t.con = [45, 62] ∧ t.args.length = 2
  · obtain ⟨hc, hl⟩ := h
    rw [textT_fun hc (by omega) (by omega) hl, Ty.size_eq]
    obtain ⟨a, b, hab⟩ : ∃ a b, t.args = [a, b] := by
      match t.args, hl with
      | [a, b], _ => exact ⟨a, b, rfl⟩
    simp only [hab, List.getElem_cons_zero, List.getElem_cons_succ] at hk ⊢
    have h1 := hk a (by simp)
    have h2 := hk b (by simp)
    have h3 := brack_len (decide (a.con = [45, 62])) (textT a)
    simp only [List.length_append, List.length_cons, List.length_nil, List.map_cons, List.map_nil, List.sum_cons, List.sum_nil]
    omega
  · rw [textT_else h, Ty.size_eq, List.length_append]
    have h1 := restT_len t.args hk
    have h2 := headT_len ok
    unfold headT at h2
    omega
theorem textT_few {t : Ty} (h : okI t = true) (hs : t.size ≤ 20000) : (textT t).length ≤ 3000000000000000000 := by
  have := textT_len t h
  omega
theorem restT_few {t : Ty} (h : okI t = true) (hs : t.size ≤ 20000) (k : Nat) : (headT t ++ restT (t.args.take k)).length ≤ 3000000000000000000 := by
  have h1 := restT_len (t.args.take k) (fun x hx => textT_len x (okI_arg h (List.mem_of_mem_take hx)))
  have h2 := headT_len h
  have h3 : ((t.args.take k).map Ty.size).sum ≤ (t.args.map Ty.size).sum := by
    have e : (t.args.map Ty.size).sum = ((t.args.take k).map Ty.size).sum + ((t.args.drop k).map Ty.size).sum := by
      rw [← List.sum_append_nat, ← List.map_append, List.take_append_drop]
    omega
  have h4 := Ty.size_eq t
  rw [List.length_append]
  omega

end Go.Proofs.YtcnkfkjgpdmebaaGreatDoor

/- Contracts: a type's text. (A program of ours has printed a part.) -/
namespace Go.Proofs.YtcnkfkjgpdmebaaGreatDoor
open Go.RowKit

set_option maxRecDepth 10000 in
set_option maxHeartbeats 2000000 in
theorem f_head (t : Ty) (w : World) (ok : okI t = true) : Calls Tryz.prog 78 #[tyV t] w fun e w' => e = .returned (encStr (headT t)) ∧ Ext w w' := by
  have HB := hide (TBox.new w t)
  have X0 : Hid (Ext w (w.alloc (.cells #[encStr t.con, .int .i64 t.var, .slice t.A t.args.length t.cap] 53))) := hide ((Ext.refl w).alloc _)
  have c0 := HB.out.c0
  have c1 := HB.out.c1
  have HT := hide (fun w' => t_TextV t.var (okI_lo ok) (okI_hi ok) w')
  have HH : Hid (headT t = if t.con = [] then varS t.var else t.con) := hide rfl
  clear ok
  generalize headT t = R at *
  unfold tyV at *
  cases hc : (t.con == [])
  · have hc2 : (t.con != []) = true := by unfold bne; rw [hc]; rfl
    have hR : R = t.con := by rw [HH.out, if_neg (by simpa using hc)]
    clear HH
    subst hR
    go_enter Tryz.func78, Tryz.ntmps78
    go_wp2
    go_ret
    exact ⟨rfl, X0.out⟩
  · have hc2 : (t.con != []) = false := by unfold bne; rw [hc]; rfl
    have hR : R = varS t.var := by rw [HH.out, if_pos (by simpa using hc)]
    clear HH
    subst hR
    generalize varS t.var = R at *
    go_enter Tryz.func78, Tryz.ntmps78
    go_wp2_with fail
    refine (HT.out _).mono ?_
    rintro e w2 ⟨rfl, hx⟩
    go_wp2
    go_ret
    exact ⟨rfl, X0.out.trans hx⟩

set_option maxRecDepth 10000 in
set_option maxHeartbeats 2000000 in
theorem f_closedOf (t : Ty) (hl : (textT t).length ≤ 3000000000000000000) (HT0 : ∀ w, TyIn w t → Calls Tryz.prog 48 #[tyV t] w fun e w' => e = .returned (encStr (textT t)) ∧ Ext w w') (b : Bool) (w : World) (h : TyIn w t) :
    Calls Tryz.prog 77 #[tyV t, .bool b] w fun e w' => e = .returned (encStr (brack b (textT t))) ∧ Ext w w' := by
  have X0 : Hid (Ext w (w.alloc (.cells #[encStr t.con, .int .i64 t.var, .slice t.A t.args.length t.cap] 53))) := hide ((Ext.refl w).alloc _)
  have HT := hide (HT0 _ (h.ext X0.out))
  have HL := hide hl
  clear HT0 h hl
  unfold tyV at *
  generalize textT t = s at *
  cases b
  · go_enter Tryz.func77, Tryz.ntmps77
    go_wp2_with fail
    refine HT.out.mono ?_
    rintro e w2 ⟨rfl, hx⟩
    go_wp2
    go_ret
    exact ⟨rfl, X0.out.trans hx⟩
  · have h1 : ¬ ((⟨#[40]⟩ : ByteArray).size + (⟨s.toArray⟩ : ByteArray).size > 9223372036854775807) := by have := HL.out; rw [ba_size s]; show ¬ (1 + s.length > _); omega
    have e1 : (ByteArray.mk #[40] ++ ByteArray.mk s.toArray) = ByteArray.mk ([40] ++ s : Str).toArray := ByteArray.mk_append_mk [40] s
    have h2 : ¬ ((⟨([40] ++ s : Str).toArray⟩ : ByteArray).size + (⟨#[41]⟩ : ByteArray).size > 9223372036854775807) := by
      have := HL.out
      rw [ba_size ([40] ++ s)]
      show ¬ (([40] ++ s).length + 1 > _)
      rw [List.length_append]
      simp only [List.length_cons, List.length_nil]
      omega
    have e2 : (ByteArray.mk ([40] ++ s : Str).toArray ++ ByteArray.mk #[41]) = ByteArray.mk ([40] ++ s ++ [41] : Str).toArray := ByteArray.mk_append_mk ([40] ++ s) [41]
    have hb : brack true s = [40] ++ s ++ [41] := rfl
    rw [hb]
    generalize ([40] ++ s ++ [41] : Str) = s2 at *
    generalize ([40] ++ s : Str) = s1 at *
    go_enter Tryz.func77, Tryz.ntmps77
    go_wp2_with fail
    refine HT.out.mono ?_
    rintro e w2 ⟨rfl, hx⟩
    go_wp2
    go_ret
    exact ⟨rfl, X0.out.trans hx⟩

set_option maxRecDepth 10000 in
set_option maxHeartbeats 2000000 in
theorem f_text (t : Ty) : ∀ (w : World), TyIn w t → okI t = true → t.size ≤ 20000 →
    Calls Tryz.prog 48 #[tyV t] w fun e w' => e = .returned (encStr (textT t)) ∧ Ext w w' := by
  induction t using Ty.ind with
  | h t ih =>
  intro w h ok hsz
  have IH := hide ih
  have Hk := hide h.all
  have hle := h.le
  have hmx := h.max
  have HB0 := hide (TBox.new w t)
  have X0 : Hid (Ext w (w.alloc (.cells #[encStr t.con, .int .i64 t.var, .slice t.A t.args.length t.cap] 53))) := hide ((Ext.refl w).alloc _)
  have HCl := hide (fun (k : Ty) (hk : k ∈ t.args) (b : Bool) (w' : World) (e : Ext w w') => hide (f_closedOf k (textT_few (okI_arg ok hk) (by have := Ty.size_arg hk; omega)) (fun v hv => ih k hk v hv (okI_arg ok hk) (by have := Ty.size_arg hk; omega)) b w' ((h.all.args k hk).ext e)))
  have HTl := hide (fun (k : Ty) (hk : k ∈ t.args) (w' : World) (e : Ext w w') => hide (ih k hk w' ((h.all.args k hk).ext e) (okI_arg ok hk) (by have := Ty.size_arg hk; omega)))
  have HHd := hide (fun w' => hide (f_head t w' ok))
  have HLr := hide (fun k => restT_few ok hsz k)
  have HL := hide (textT_few ok hsz)
  have c0 := HB0.out.c0
  have c1 := HB0.out.c1
  have c2 := HB0.out.c2
  by_cases hf : t.con = [45, 62] ∧ t.args.length = 2
  · obtain ⟨hf1, hf2⟩ := hf
    have h0 : 0 < t.args.length := by omega
    have h1 : 1 < t.args.length := by omega
    have HE := hide (textT_fun hf1 h0 h1 hf2)
    have g1 : (t.con == [45, 62]) = true := by rw [hf1]; rfl
    have g2 : ((t.args.length : Int) == 2) = true := by rw [hf2]; rfl
    have i0 : (0 : Int) < (t.args.length : Int) := by omega
    have i1 : (1 : Int) < (t.args.length : Int) := by omega
    obtain ⟨b, o, hA, hb, q0, q1, q2⟩ := (Hk.out.ext X0.out).at_ h0
    obtain ⟨b', o', hA', hb', r0, r1, r2⟩ := (Hk.out.ext X0.out).at_ h1
    have hbo : (⟨b', o', none⟩ : Addr) = ⟨b, o, none⟩ := Option.some.inj (hA'.symm.trans hA)
    cases hbo
    clear hA' hb'
    have HA := hide (HCl.out _ (List.getElem_mem h0) (decide ((t.args[0]'h0).con = [45, 62])))
    have HB2 := hide (HTl.out _ (List.getElem_mem h1))
    have LA := hide (textT_few (okI_arg ok (List.getElem_mem h0)) (by have := Ty.size_arg (List.getElem_mem h0); omega))
    have LT : Hid ((brack (decide ((t.args[0]'h0).con = [45, 62])) (textT (t.args[0]'h0)) ++ ([32, 45, 62, 32] : Str) ++ textT (t.args[1]'h1)).length ≤ 3000000000000000000) := hide (by rw [← HE.out]; exact HL.out)
    rw [HE.out]
    clear HE HCl HTl HHd HLr HL LA ih ok hsz IH Hk
    clear h
    have hdec : decide ((t.args[0]'h0).con = [45, 62]) = ((t.args[0]'h0).con == [45, 62]) := by rw [Bool.eq_iff_iff]; simp
    rw [hdec] at HA LT ⊢
    clear hdec
    obtain ⟨bb, hbb⟩ : ∃ bb, bb = ((t.args[0]'h0).con == [45, 62]) := ⟨_, rfl⟩
    rw [← hbb] at HA LT ⊢
    unfold tyV at HA HB2 ⊢
    rw [hA] at c2 ⊢
    generalize textT (t.args[0]'h0) = ta at *
    generalize textT (t.args[1]'h1) = tb at *
    generalize t.args[0]'h0 = ka at *
    generalize t.args[1]'h1 = kb at *
    generalize brack bb ta = sa at *
    have hs1 : ¬ ((⟨sa.toArray⟩ : ByteArray).size + (⟨#[32, 45, 62, 32]⟩ : ByteArray).size > 9223372036854775807) := by
      have := LT.out
      rw [ba_size sa]
      show ¬ (sa.length + 4 > _)
      simp only [List.length_append, List.length_cons, List.length_nil] at this
      omega
    have e1 : (ByteArray.mk sa.toArray ++ ByteArray.mk #[32, 45, 62, 32]) = ByteArray.mk (sa ++ ([32, 45, 62, 32] : Str) : Str).toArray := ByteArray.mk_append_mk sa ([32, 45, 62, 32] : Str)
    have hs2 : ¬ ((⟨(sa ++ ([32, 45, 62, 32] : Str) : Str).toArray⟩ : ByteArray).size + (⟨tb.toArray⟩ : ByteArray).size > 9223372036854775807) := by
      have := LT.out
      rw [ba_size (sa ++ ([32, 45, 62, 32] : Str)), ba_size tb]
      simp only [List.length_append, List.length_cons, List.length_nil] at this ⊢
      omega
    have e2 : (ByteArray.mk (sa ++ ([32, 45, 62, 32] : Str) : Str).toArray ++ ByteArray.mk tb.toArray) = ByteArray.mk (sa ++ ([32, 45, 62, 32] : Str) ++ tb : Str).toArray := ByteArray.mk_append_mk (sa ++ ([32, 45, 62, 32] : Str)) tb
    have hq1 : ¬ (9223372036854775807 < sa.length + 4) := by rw [ba_size sa] at hs1; exact hs1
    have hq2 : ¬ (9223372036854775807 < (sa ++ ([32, 45, 62, 32] : Str)).length + tb.length) := by rw [ba_size (sa ++ ([32, 45, 62, 32] : Str)), ba_size tb] at hs2; exact hs2
    clear LT
    generalize (sa ++ ([32, 45, 62, 32] : Str) ++ tb : Str) = s2 at *
    generalize (sa ++ ([32, 45, 62, 32] : Str) : Str) = s1 at *
    clear HB0
    have HS : Hid (∀ w', Ext (w.alloc (.cells #[encStr t.con, .int .i64 t.var, .slice (some ⟨b, o, none⟩) t.args.length t.cap] 53)) w' → (w'.cell? ⟨w.heap.size, 2, none⟩ = some (.slice (some ⟨b, o, none⟩) t.args.length t.cap) ∧ w'.cell? ⟨b, o, none⟩ = some (.string ⟨ka.con.toArray⟩) ∧ w'.cell? ⟨b, o + 1, none⟩ = some (.int .i64 ka.var) ∧ w'.cell? ⟨b, o + 2, none⟩ = some (.slice ka.A ka.args.length ka.cap) ∧ w'.cell? ⟨b, o + 3, none⟩ = some (.string ⟨kb.con.toArray⟩) ∧ w'.cell? ⟨b, o + 3 + 1, none⟩ = some (.int .i64 kb.var) ∧ w'.cell? ⟨b, o + 3 + 2, none⟩ = some (.slice kb.A kb.args.length kb.cap))) := hide (by
      rw [hA] at q0 q1 q2 r0 r1 r2
      exact fun w' e => ⟨e.cell c2, e.cell q0, e.cell q1, e.cell q2, e.cell r0, e.cell r1, e.cell r2⟩)
    rw [hA] at c0 c1 X0
    clear q0 q1 q2 r0 r1 r2 c1 hb h1 hle hmx hf1 hA g2 i0 i1 h0
    generalize t.args.length = n at *
    subst hf2
    go_enter Tryz.func48, Tryz.ntmps48
    go_wp2
    generalize (w.alloc (.cells #[encStr t.con, .int .i64 t.var, .slice (some ⟨b, o, none⟩) 2 t.cap] 53)) = w0 at *
    obtain ⟨p0, p1, p2, p3, p4, p5, p6⟩ := HS.out _ (Ext.refl w0)
    clear c0 c2
    go_region_held3 (fun w' : World => (w'.cell? ⟨w.heap.size, 2, none⟩ = some (.slice (some ⟨b, o, none⟩) 2 t.cap) ∧ w'.cell? ⟨b, o, none⟩ = some (.string ⟨ka.con.toArray⟩) ∧ w'.cell? ⟨b, o + 1, none⟩ = some (.int .i64 ka.var) ∧ w'.cell? ⟨b, o + 2, none⟩ = some (.slice ka.A ka.args.length ka.cap) ∧ w'.cell? ⟨b, o + 3, none⟩ = some (.string ⟨kb.con.toArray⟩) ∧ w'.cell? ⟨b, o + 3 + 1, none⟩ = some (.int .i64 kb.var) ∧ w'.cell? ⟨b, o + 3 + 2, none⟩ = some (.slice kb.A kb.args.length kb.cap))) (first | assumption | (exact HS.out _ (Ext.refl w0).drew)) (first
      | (go_at_call 77
         rw [← hbb]
         refine Calls.mono (HA.out _ ?e).out ?_
         case e => first | (refine Ext.trans X0.out ?_; (repeat (first | exact Ext.refl _ | exact Ext.pre (by simp) | exact Ext.alloc (by assumption) _ | refine Ext.alloc ?_ _ | refine Ext.more ?_ _ _ | refine Ext.drew ?_ | refine Ext.drewN ?_ _)); done) | (refine Ext.trans (X0.out.trans X8.out) ?_; (repeat (first | exact Ext.refl _ | exact Ext.pre (by simp) | exact Ext.alloc (by assumption) _ | refine Ext.alloc ?_ _ | refine Ext.more ?_ _ _ | refine Ext.drew ?_ | refine Ext.drewN ?_ _)); done)
         rintro e w7 ⟨rfl, hx7⟩
         have X7 : Hid (Ext w0 w7) := hide (by
           refine Ext.trans ?_ hx7
           first | (refine Ext.trans (Ext.refl w0) ?_; (repeat (first | exact Ext.refl _ | exact Ext.pre (by simp) | exact Ext.alloc (by assumption) _ | refine Ext.alloc ?_ _ | refine Ext.more ?_ _ _ | refine Ext.drew ?_ | refine Ext.drewN ?_ _)); done) | (refine Ext.trans X8.out ?_; (repeat (first | exact Ext.refl _ | exact Ext.pre (by simp) | exact Ext.alloc (by assumption) _ | refine Ext.alloc ?_ _ | refine Ext.more ?_ _ _ | refine Ext.drew ?_ | refine Ext.drewN ?_ _)); done))
         have K7 := HS.out _ X7.out
         clear hx7)
      | (go_at_call 48
         refine Calls.mono (HB2.out _ ?e).out ?_
         case e => first | (refine Ext.trans X0.out ?_; (repeat (first | exact Ext.refl _ | exact Ext.pre (by simp) | exact Ext.alloc (by assumption) _ | refine Ext.alloc ?_ _ | refine Ext.more ?_ _ _ | refine Ext.drew ?_ | refine Ext.drewN ?_ _)); done) | (refine Ext.trans (X0.out.trans X7.out) ?_; (repeat (first | exact Ext.refl _ | exact Ext.pre (by simp) | exact Ext.alloc (by assumption) _ | refine Ext.alloc ?_ _ | refine Ext.more ?_ _ _ | refine Ext.drew ?_ | refine Ext.drewN ?_ _)); done)
         rintro e w8 ⟨rfl, hx8⟩
         have X8 : Hid (Ext w0 w8) := hide (by
           refine Ext.trans ?_ hx8
           first | (refine Ext.trans (Ext.refl w0) ?_; (repeat (first | exact Ext.refl _ | exact Ext.pre (by simp) | exact Ext.alloc (by assumption) _ | refine Ext.alloc ?_ _ | refine Ext.more ?_ _ _ | refine Ext.drew ?_ | refine Ext.drewN ?_ _)); done) | (refine Ext.trans X7.out ?_; (repeat (first | exact Ext.refl _ | exact Ext.pre (by simp) | exact Ext.alloc (by assumption) _ | refine Ext.alloc ?_ _ | refine Ext.more ?_ _ _ | refine Ext.drew ?_ | refine Ext.drewN ?_ _)); done))
         have K8 := HS.out _ X8.out
         clear hx8))
    all_goals
      go_wp2
      go_ret
      first
        | exact ⟨rfl, X0.out.trans X7.out⟩
        | exact ⟨rfl, X0.out.trans X8.out⟩
        | exact ⟨rfl, X0.out.trans (X7.out.trans (by repeat (first | exact Ext.refl _ | exact Ext.pre (by simp) | exact Ext.alloc (by assumption) _ | refine Ext.alloc ?_ _ |  refine Ext.more ?_ _ _ | refine Ext.drew ?_ | refine Ext.drewN ?_ _)))⟩
        | exact ⟨rfl, X0.out.trans (X8.out.trans (by repeat (first | exact Ext.refl _ | exact Ext.pre (by simp) | exact Ext.alloc (by assumption) _ | refine Ext.alloc ?_ _ |  refine Ext.more ?_ _ _ | refine Ext.drew ?_ | refine Ext.drewN ?_ _)))⟩
  · have HE := hide (textT_else hf)
    have HE2 : Hid (textT t = headT t ++ restT t.args) := hide HE.out
    rw [HE2.out]
    clear HE HE2 HTl HL ih ok hsz IH
    have HAll := hide h.all
    clear h
    have h3 : (t.con == [45, 62]) = false ∨ ((t.con == [45, 62]) = true ∧ ((t.args.length : Int) == 2) = false) := by
      cases g : (t.con == [45, 62])
      · exact .inl rfl
      · refine .inr ⟨rfl, ?_⟩
        have g1 : t.con = [45, 62] := by simpa using g
        rw [← Bool.not_eq_true]
        intro g2
        exact hf ⟨g1, by have := eq_of_beq g2; omega⟩
    clear hf
    unfold tyV at HHd ⊢
    rcases h3 with h3 | ⟨h3, h4⟩
    · go_enter Tryz.func48, Tryz.ntmps48
      go_wp2_with fail
      refine (HHd.out _).out.mono ?_
      rintro e w1 ⟨rfl, hx1⟩
      have X1 := hide (X0.out.trans hx1)
      have c2' := (HB0.out.ext hx1).c2
      clear hx1 c0 c1 c2 HHd
      go_wp2
      go_loopw [3, 38] (fun s i wr => ∃ k : Nat, k ≤ t.args.length ∧ i = .int .i64 k ∧ s = encStr (headT t ++ restT (t.args.take k)) ∧ Hid (Ext w1 wr)) (fun _ i _ => t.args.length - (intOf i).toNat)
      case atStart => exact ⟨0, Nat.zero_le _, rfl, by simp [restT], hide (Ext.refl _)⟩
      case round =>
        obtain ⟨k, hk, rfl, rfl, HX⟩ := hrel
        by_cases hlt : k < t.args.length
        · have hlt' : (k : Int) < (t.args.length : Int) := by omega
          have hk0 : (0 : Int) ≤ (k : Int) := by omega
          obtain ⟨b, o, hA, hb, q0, q1, q2⟩ := (HAll.out.ext (X1.out.trans HX.out)).at_ hlt
          have hcm := List.getElem_mem hlt
          have HC := hide (HCl.out _ hcm (decide (0 < (t.args[k]'hlt).args.length)) (wr.alloc (.cells #[encStr (t.args[k]'hlt).con, .int .i64 (t.args[k]'hlt).var, .slice (t.args[k]'hlt).A (t.args[k]'hlt).args.length (t.args[k]'hlt).cap] 53)) ((X1.out.trans HX.out).alloc _))
          have hcat : headT t ++ restT (t.args.take (k + 1)) = (headT t ++ restT (t.args.take k)) ++ (([32] : Str) ++ brack (decide (0 < (t.args[k]'hlt).args.length)) (textT (t.args[k]'hlt))) := by rw [restT_take _ hlt, List.append_assoc]
          have hlen := HLr.out (k + 1)
          rw [hcat] at hlen
          rw [hA]
          clear hA hcm
          generalize t.args[k]'hlt = c at *
          obtain ⟨bb, hbb⟩ : ∃ bb, bb = decide (0 < c.args.length) := ⟨_, rfl⟩
          have hd : decide (0 < c.args.length) = bb := hbb.symm
          rw [← hbb] at HC hcat hlen
          clear hbb
          unfold tyV at HC
          generalize brack bb (textT c) = sc at *
          have HR : Hid (encStr (headT t ++ restT (t.args.take k) ++ (([32] : Str) ++ sc)) = encStr (headT t ++ restT (t.args.take (k + 1)))) := hide (by rw [hcat])
          clear hcat
          generalize headT t ++ restT (t.args.take k) = S0 at *
          have HLn := hide hlen
          have hs1 : ¬ ((⟨#[32]⟩ : ByteArray).size + (⟨sc.toArray⟩ : ByteArray).size > 9223372036854775807) := by
            rw [List.length_append, List.length_append] at hlen
            rw [ba_size sc]
            show ¬ (1 + sc.length > _)
            omega
          have e1 : (ByteArray.mk #[32] ++ ByteArray.mk sc.toArray) = ByteArray.mk (([32] : Str) ++ sc).toArray := ByteArray.mk_append_mk [32] sc
          have hs2 : ¬ ((⟨S0.toArray⟩ : ByteArray).size + (⟨(([32] : Str) ++ sc).toArray⟩ : ByteArray).size > 9223372036854775807) := by
            rw [List.length_append] at hlen
            rw [ba_size S0, ba_size (([32] : Str) ++ sc)]
            omega
          have e2 : (ByteArray.mk S0.toArray ++ ByteArray.mk (([32] : Str) ++ sc).toArray) = ByteArray.mk (S0 ++ (([32] : Str) ++ sc)).toArray := ByteArray.mk_append_mk S0 (([32] : Str) ++ sc)
          clear hlen HLn
          generalize S0 ++ (([32] : Str) ++ sc) = S2 at *
          generalize ([32] : Str) ++ sc = S1 at *
          go_wp2_with fail
          refine HC.out.out.mono ?_
          rintro e w3 ⟨rfl, hx3⟩
          have X3 : Hid (Ext w1 w3) := hide ((HX.out.alloc _).trans hx3)
          clear hx3
          go_wp2
          go_roundw
          case rel => exact ⟨k + 1, hlt, by go_num, HR.out, X3⟩
          case measure => simp [intOf]; omega
        · have hge : ¬ (k : Int) < (t.args.length : Int) := by omega
          have HR : Hid (headT t ++ restT (t.args.take k) = headT t ++ restT t.args) := hide (by rw [List.take_of_length_le (by omega)])
          rw [HR.out]
          go_wp2
          go_ret
          exact ⟨rfl, X1.out.trans HX.out⟩
    · go_enter Tryz.func48, Tryz.ntmps48
      go_wp2_with fail
      refine (HHd.out _).out.mono ?_
      rintro e w1 ⟨rfl, hx1⟩
      have X1 := hide (X0.out.trans hx1)
      have c2' := (HB0.out.ext hx1).c2
      clear hx1 c0 c1 c2 HHd
      go_wp2
      go_loopw [3, 38] (fun s i wr => ∃ k : Nat, k ≤ t.args.length ∧ i = .int .i64 k ∧ s = encStr (headT t ++ restT (t.args.take k)) ∧ Hid (Ext w1 wr)) (fun _ i _ => t.args.length - (intOf i).toNat)
      case atStart => exact ⟨0, Nat.zero_le _, rfl, by simp [restT], hide (Ext.refl _)⟩
      case round =>
        obtain ⟨k, hk, rfl, rfl, HX⟩ := hrel
        by_cases hlt : k < t.args.length
        · have hlt' : (k : Int) < (t.args.length : Int) := by omega
          have hk0 : (0 : Int) ≤ (k : Int) := by omega
          obtain ⟨b, o, hA, hb, q0, q1, q2⟩ := (HAll.out.ext (X1.out.trans HX.out)).at_ hlt
          have hcm := List.getElem_mem hlt
          have HC := hide (HCl.out _ hcm (decide (0 < (t.args[k]'hlt).args.length)) (wr.alloc (.cells #[encStr (t.args[k]'hlt).con, .int .i64 (t.args[k]'hlt).var, .slice (t.args[k]'hlt).A (t.args[k]'hlt).args.length (t.args[k]'hlt).cap] 53)) ((X1.out.trans HX.out).alloc _))
          have hcat : headT t ++ restT (t.args.take (k + 1)) = (headT t ++ restT (t.args.take k)) ++ (([32] : Str) ++ brack (decide (0 < (t.args[k]'hlt).args.length)) (textT (t.args[k]'hlt))) := by rw [restT_take _ hlt, List.append_assoc]
          have hlen := HLr.out (k + 1)
          rw [hcat] at hlen
          rw [hA]
          clear hA hcm
          generalize t.args[k]'hlt = c at *
          obtain ⟨bb, hbb⟩ : ∃ bb, bb = decide (0 < c.args.length) := ⟨_, rfl⟩
          have hd : decide (0 < c.args.length) = bb := hbb.symm
          rw [← hbb] at HC hcat hlen
          clear hbb
          unfold tyV at HC
          generalize brack bb (textT c) = sc at *
          have HR : Hid (encStr (headT t ++ restT (t.args.take k) ++ (([32] : Str) ++ sc)) = encStr (headT t ++ restT (t.args.take (k + 1)))) := hide (by rw [hcat])
          clear hcat
          generalize headT t ++ restT (t.args.take k) = S0 at *
          have HLn := hide hlen
          have hs1 : ¬ ((⟨#[32]⟩ : ByteArray).size + (⟨sc.toArray⟩ : ByteArray).size > 9223372036854775807) := by
            rw [List.length_append, List.length_append] at hlen
            rw [ba_size sc]
            show ¬ (1 + sc.length > _)
            omega
          have e1 : (ByteArray.mk #[32] ++ ByteArray.mk sc.toArray) = ByteArray.mk (([32] : Str) ++ sc).toArray := ByteArray.mk_append_mk [32] sc
          have hs2 : ¬ ((⟨S0.toArray⟩ : ByteArray).size + (⟨(([32] : Str) ++ sc).toArray⟩ : ByteArray).size > 9223372036854775807) := by
            rw [List.length_append] at hlen
            rw [ba_size S0, ba_size (([32] : Str) ++ sc)]
            omega
          have e2 : (ByteArray.mk S0.toArray ++ ByteArray.mk (([32] : Str) ++ sc).toArray) = ByteArray.mk (S0 ++ (([32] : Str) ++ sc)).toArray := ByteArray.mk_append_mk S0 (([32] : Str) ++ sc)
          clear hlen HLn
          generalize S0 ++ (([32] : Str) ++ sc) = S2 at *
          generalize ([32] : Str) ++ sc = S1 at *
          go_wp2_with fail
          refine HC.out.out.mono ?_
          rintro e w3 ⟨rfl, hx3⟩
          have X3 : Hid (Ext w1 w3) := hide ((HX.out.alloc _).trans hx3)
          clear hx3
          go_wp2
          go_roundw
          case rel => exact ⟨k + 1, hlt, by go_num, HR.out, X3⟩
          case measure => simp [intOf]; omega
        · have hge : ¬ (k : Int) < (t.args.length : Int) := by omega
          have HR : Hid (headT t ++ restT (t.args.take k) = headT t ++ restT t.args) := hide (by rw [List.take_of_length_le (by omega)])
          rw [HR.out]
          go_wp2
          go_ret
          exact ⟨rfl, X1.out.trans HX.out⟩

end Go.Proofs.YtcnkfkjgpdmebaaGreatDoor
