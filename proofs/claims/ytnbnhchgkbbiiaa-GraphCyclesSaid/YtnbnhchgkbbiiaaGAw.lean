/- Contract: chapter 13's example. -/
import Derived.Test.YtnbnhchgkbbiiaaRfF
namespace Go.Proofs.Ytnbnhchgkbbiiaa
open Go.RowKit

def e3 : List Edge := [⟨0, 1⟩, ⟨1, 0⟩, ⟨2, 0⟩]
def e2 : List Edge := [⟨1, 0⟩, ⟨2, 0⟩]
theorem ok3 : ∀ e ∈ e3, edgeOk (3 : Nat) e = true := by decide
theorem ok2 : ∀ e ∈ e2, edgeOk (3 : Nat) e = true := by decide
theorem sr_table {es : List Edge} {T : Nat → Nat → Prop} (h1 : ∀ a b, b ∈ nextN es a → T a b) (h2 : ∀ a b c, T a b → c ∈ nextN es b → T a c) {a b : Nat} (h : SR (nextN es) a b) : T a b := by
  induction h with
  | one h => exact h1 _ _ h
  | step _ h ih => exact h2 _ _ _ ih h
theorem next3 (a b : Nat) : b ∈ nextN e3 a ↔ (a = 0 ∧ b = 1) ∨ (a = 1 ∧ b = 0) ∨ (a = 2 ∧ b = 0) := by
  rw [mem_next ok3]
  simp [pairsN, e3]
theorem next2 (a b : Nat) : b ∈ nextN e2 a ↔ (a = 1 ∧ b = 0) ∨ (a = 2 ∧ b = 0) := by
  rw [mem_next ok2]
  simp [pairsN, e2]
theorem reach3 : reachB e3 = fun i j => decide (i ≤ 2 ∧ j ≤ 1) := by
  funext i j
  apply bool_eq
  rw [reachB_iff, decide_eq_true_eq]
  constructor
  · intro h
    refine sr_table (T := fun i j => i ≤ 2 ∧ j ≤ 1) ?_ ?_ h
    · intro a b h; rw [next3] at h; omega
    · intro a b c h1 h2; rw [next3] at h2; omega
  · rintro ⟨h1, h2⟩
    have s01 : SR (nextN e3) 0 1 := .one ((next3 0 1).2 (by omega))
    have s10 : SR (nextN e3) 1 0 := .one ((next3 1 0).2 (by omega))
    have s20 : SR (nextN e3) 2 0 := .one ((next3 2 0).2 (by omega))
    have c1 : i = 0 ∨ i = 1 ∨ i = 2 := by omega
    have c2 : j = 0 ∨ j = 1 := by omega
    rcases c1 with rfl | rfl | rfl <;> rcases c2 with rfl | rfl
    · exact s01.trans s10
    · exact s01
    · exact s10
    · exact s10.trans s01
    · exact s20
    · exact s20.trans s01
theorem reach2 : reachB e2 = fun i j => decide ((i = 1 ∨ i = 2) ∧ j = 0) := by
  funext i j
  apply bool_eq
  rw [reachB_iff, decide_eq_true_eq]
  constructor
  · intro h
    refine sr_table (T := fun i j => (i = 1 ∨ i = 2) ∧ j = 0) ?_ ?_ h
    · intro a b h; rw [next2] at h; omega
    · intro a b c h1 h2; rw [next2] at h2; omega
  · rintro ⟨h1, rfl⟩
    rcases h1 with rfl | rfl
    · exact .one ((next2 1 0).2 (by omega))
    · exact .one ((next2 2 0).2 (by omega))
theorem grps3 : grpsL 3 e3 = [[0, 1], [2]] := by
  unfold grpsL
  rw [if_pos (by decide), reach3]
  decide
theorem grps2 : grpsL 3 e2 = [[0], [1], [2]] := by
  unfold grpsL
  rw [if_pos (by decide), reach2]
  decide
theorem okN3 : okN 3 e3 = 0 := by decide
theorem ord2 : orderL 3 e2 = [0, 1, 2] := by
  unfold orderL
  rw [grps2]
  decide
theorem ordN2 : orderN 3 e2 = 0 := by
  unfold orderN
  rw [grps2]
  decide
theorem ordN3 : orderN 3 e3 = 9 := by
  unfold orderN
  rw [grps3]
  decide
theorem rch3 : reachL 3 2 e3 = [0, 1] := by
  unfold reachL
  rw [if_pos (by decide), reach3]
  decide
theorem cyc3 : cycleL 3 e3 = [0, 1] := by
  unfold cycleL
  rw [grps3]
  decide
theorem chk3 : graphOk 2 e3 = false := by decide

theorem Ints.block {w : World} {b : Nat} {t : TypeId} {fr : Nat × Nat} (l : List Nat) (h : w.heap[b]? = some (.cells ((zs l).map (Value.int .i64)).toArray t fr)) : Ints w (some ⟨b, 0, none⟩) (zs l) := by
  refine RowOf.block intC (zs l) (t := t) (fr := fr) ?_
  rw [h]
  congr 2
  rw [show (zs l).flatMap intC.f = (zs l).map (Value.int .i64) from flat_one _ _]

theorem grps_lit (w : World) (t : TypeId) : Grps (((w.alloc (.cells #[.int .i64 0, .int .i64 1] 3)).alloc (.cells #[.int .i64 2] 3)).alloc (.cells #[.slice (some ⟨w.heap.size, 0, none⟩) 2 2, .slice (some ⟨w.heap.size + 1, 0, none⟩) 1 1] t)) (some ⟨w.heap.size + 1 + 1, 0, none⟩) [[0, 1], [2]] := by
  refine ⟨[⟨.slice (some ⟨w.heap.size, 0, none⟩) 2 2, [0, 1]⟩, ⟨.slice (some ⟨w.heap.size + 1, 0, none⟩) 1 1, [2]⟩], rfl, RowOf.block slvC _ (t := t) (fr := (0, 0)) (at_newB _ _ _ (by simp)), ?_⟩
  intro s hs
  simp only [List.mem_cons, List.not_mem_nil, or_false] at hs
  rcases hs with rfl | rfl
  · exact ⟨_, 2, rfl, Nat.le_refl _, by omega, RowOf.ext intC (RowOf.ext intC (Ints.block [0, 1] (at_newB w (.cells #[.int .i64 0, .int .i64 1] 3) _ rfl)) ((Ext.refl _).alloc _)) ((Ext.refl _).alloc _)⟩
  · exact ⟨_, 1, rfl, Nat.le_refl _, by omega, RowOf.ext intC (Ints.block [2] (at_newB _ (.cells #[.int .i64 2] 3) _ (by simp))) ((Ext.refl _).alloc _)⟩
theorem ints_lit01 (w : World) : Ints (w.alloc (.cells #[.int .i64 0, .int .i64 1] 3)) (some ⟨w.heap.size, 0, none⟩) (zs [0, 1]) := Ints.block [0, 1] (at_newB _ _ _ rfl)
theorem ints_lit012 (w : World) : Ints (w.alloc (.cells #[.int .i64 0, .int .i64 1, .int .i64 2] 3)) (some ⟨w.heap.size, 0, none⟩) (zs [0, 1, 2]) := Ints.block [0, 1, 2] (at_newB _ _ _ rfl)
/-- Rows that hold the same. -/
theorem same_groups (A B : Option Addr) (cap cap' : Nat) (gs : List (List Nat)) (w : World) (hg : Grps w A gs) (hh : Grps w B gs) (hgl : gs.length ≤ 1000) :
    Calls Try.prog 18 #[.slice A gs.length cap, .slice B gs.length cap'] w fun e w' => e = .returned (.bool true) ∧ Ext w w' := by
  have := r_same A B cap cap' gs gs w hg hh hgl
  rwa [decide_eq_true rfl] at this
theorem same_ints (A B : Option Addr) (cap cap' : Nat) (l : List Nat) (w : World) (h : Ints w A (zs l)) (h' : Ints w B (zs l)) (hl : l.length ≤ 9223372036854775807) :
    Calls Try.prog 19 #[.slice A l.length cap, .slice B l.length cap'] w fun e w' => e = .returned (.bool true) ∧ Ext w w' := by
  have := ref_ints A B cap cap' (zs l) (zs l) w h h' (by rw [zs_len]; exact hl)
  rwa [decide_eq_true rfl, zs_len] at this

set_option maxRecDepth 10000 in
set_option maxHeartbeats 8000000 in
theorem l_awake (w : World) : Calls Try.prog 11 #[] w fun e w' => e = .returned (.bool true) ∧ Ext w w' := by
  have HE : Hid (Edges (w.alloc (.cells #[.int .i64 0, .int .i64 1, .int .i64 1, .int .i64 0, .int .i64 2, .int .i64 0] 45)) (some ⟨w.heap.size, 0, none⟩) e3) := hide (RowOf.block edgeC e3 (at_newB _ _ _ rfl))
  have HE2 : Hid (Edges (w.alloc (.cells #[.int .i64 0, .int .i64 1, .int .i64 1, .int .i64 0, .int .i64 2, .int .i64 0] 45)) (some ⟨w.heap.size, 2, none⟩) e2) := hide (by
    have := RowOf.cut edgeC HE.out (k := 1) (cap := 3) (by decide) (by decide)
    exact this)
  have X0 : Hid (Ext w (w.alloc (.cells #[.int .i64 0, .int .i64 1, .int .i64 1, .int .i64 0, .int .i64 2, .int .i64 0] 45))) := hide ((Ext.refl w).alloc _)
  have C1 := hide (g_groupsA 3 _ 3 e3 _ HE.out (by decide))
  have C2 := hide (fun w' (e : Ext (w.alloc (.cells #[.int .i64 0, .int .i64 1, .int .i64 1, .int .i64 0, .int .i64 2, .int .i64 0] 45)) w') => hide (g_order 3 _ 2 e2 w' (RowOf.ext edgeC HE2.out e) (by decide)))
  have C3 := hide (fun w' (e : Ext (w.alloc (.cells #[.int .i64 0, .int .i64 1, .int .i64 1, .int .i64 0, .int .i64 2, .int .i64 0] 45)) w') => hide (g_order 3 _ 3 e3 w' (RowOf.ext edgeC HE.out e) (by decide)))
  have C4 := hide (fun w' (e : Ext (w.alloc (.cells #[.int .i64 0, .int .i64 1, .int .i64 1, .int .i64 0, .int .i64 2, .int .i64 0] 45)) w') => hide (g_reachA 3 2 _ 3 e3 w' (RowOf.ext edgeC HE.out e) (by decide)))
  have C5 := hide (fun w' (e : Ext (w.alloc (.cells #[.int .i64 0, .int .i64 1, .int .i64 1, .int .i64 0, .int .i64 2, .int .i64 0] 45)) w') => hide (g_cycle 3 _ 3 e3 w' (RowOf.ext edgeC HE.out e) (by decide)))
  have C6 := hide (fun w' (e : Ext (w.alloc (.cells #[.int .i64 0, .int .i64 1, .int .i64 1, .int .i64 0, .int .i64 2, .int .i64 0] 45)) w') => hide (g_check 2 _ 3 e3 w' (RowOf.ext edgeC HE.out e) (by decide)))
  rw [grps3, okN3] at C1
  simp only [ord2, ordN2] at C2
  simp only [ordN3] at C3
  simp only [rch3] at C4
  simp only [cyc3] at C5
  simp only [chk3] at C6
  simp only [show e3.length = 3 from rfl, List.length_cons, List.length_nil, Nat.zero_add, Nat.reduceAdd] at C1 C3 C4 C5 C6
  simp only [show e2.length = 2 from rfl, List.length_cons, List.length_nil, Nat.zero_add, Nat.reduceAdd] at C2
  go_enter Try.func11, Try.ntmps11
  go_wp2_with fail
  refine C1.out.mono ?_
  rintro e w1 ⟨⟨A1, c1, rfl, -, -, hG⟩, hx1⟩
  have HG := hide hG
  have X1 := hide hx1
  clear hG hx1
  go_wp2_with fail
  refine (C2.out _ X1.out).out.mono ?_
  rintro e w2 ⟨⟨A2, c2, rfl, -, -, hI2⟩, hx2⟩
  have HI2 := hide hI2
  have X2 := hide (X1.out.trans hx2)
  have X12 := hide hx2
  clear hI2 hx2
  go_wp2_with fail
  refine (C3.out _ X2.out).out.mono ?_
  rintro e w3 ⟨⟨A3, c3, rfl, -, -, -⟩, hx3⟩
  have X3 := hide (X2.out.trans hx3)
  have X13 := hide (X12.out.trans hx3)
  have X23 := hide hx3
  clear hx3
  have GL := hide (grps_lit w3 31)
  have XL : Hid (Ext w3 (((w3.alloc (.cells #[.int .i64 0, .int .i64 1] 3)).alloc (.cells #[.int .i64 2] 3)).alloc (.cells #[.slice (some ⟨w3.heap.size, 0, none⟩) 2 2, .slice (some ⟨w3.heap.size + 1, 0, none⟩) 1 1] 31))) := hide ((((Ext.refl _).alloc _).alloc _).alloc _)
  go_wp2_with fail
  refine Calls.mono (same_groups A1 _ c1 2 [[0, 1], [2]] _ (HG.out.ext (X13.out.trans XL.out)) GL.out (by decide)) ?_
  rintro e w4 ⟨rfl, hx4⟩
  have X4 := hide ((X3.out.trans XL.out).trans hx4)
  have X24 := hide ((X23.out.trans XL.out).trans hx4)
  clear hx4 GL
  go_wp2_with fail
  refine Calls.mono (same_ints A2 _ c2 3 [0, 1, 2] _ (RowOf.ext intC HI2.out (X24.out.alloc _)) (ints_lit012 w4) (by decide)) ?_
  rintro e w5 ⟨rfl, hx5⟩
  have X5 := hide ((X4.out.alloc _).trans hx5)
  clear hx5
  go_wp2_with fail
  refine (C4.out _ X5.out).out.mono ?_
  rintro e w6 ⟨⟨A6, c6, rfl, -, -, hI6⟩, hx6⟩
  have HI6 := hide hI6
  have X6 := hide (X5.out.trans hx6)
  clear hI6 hx6
  go_wp2_with fail
  refine Calls.mono (same_ints A6 _ c6 2 [0, 1] _ (RowOf.ext intC HI6.out ((Ext.refl w6).alloc _)) (ints_lit01 w6) (by decide)) ?_
  rintro e w7 ⟨rfl, hx7⟩
  have X7 := hide ((X6.out.alloc _).trans hx7)
  clear hx7
  go_wp2_with fail
  refine (C5.out _ X7.out).out.mono ?_
  rintro e w8 ⟨⟨A8, c8, rfl, -, -, hI8⟩, hx8⟩
  have HI8 := hide hI8
  have X8 := hide (X7.out.trans hx8)
  clear hI8 hx8
  go_wp2_with fail
  refine Calls.mono (same_ints A8 _ c8 2 [0, 1] _ (RowOf.ext intC HI8.out ((Ext.refl w8).alloc _)) (ints_lit01 w8) (by decide)) ?_
  rintro e w9 ⟨rfl, hx9⟩
  have X9 := hide ((X8.out.alloc _).trans hx9)
  clear hx9
  go_wp2_with fail
  refine (C6.out _ X9.out).out.mono ?_
  rintro e w10 ⟨rfl, hx10⟩
  have X10 := hide (X9.out.trans hx10)
  clear hx10
  go_wp2
  go_ret
  exact ⟨rfl, X0.out.trans X10.out⟩

end Go.Proofs.Ytnbnhchgkbbiiaa
