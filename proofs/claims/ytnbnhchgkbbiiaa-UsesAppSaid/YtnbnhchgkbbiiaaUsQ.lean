/- Contract: chapter 14's example holds. -/
import Derived.Test.YtnbnhchgkbbiiaaUsP
import Derived.Deep.RegionHeld3
namespace Go.Proofs.Ytnbnhchgkbbiiaa
open Go.RowKit Go.Sort

theorem hd_drew (w : World) (n : Nat) : w.drew.heap[n]? = w.heap[n]? := rfl
theorem ha_hit {w : World} {o : Obj} {n : Nat} (h : n = w.heap.size) : (w.alloc o).heap[n]? = some o := by rw [ha_alloc, if_pos h]
theorem ha_miss {w : World} {o o' : Obj} {n : Nat} (h : n ≠ w.heap.size) (k : w.heap[n]? = some o') : (w.alloc o).heap[n]? = some o' := by rw [ha_alloc, if_neg h]; exact k
theorem strs_two (w : World) (a b : Str) : Strs (w.alloc (.cells #[encStr a, encStr b] 9)) (some ⟨w.heap.size, 0, none⟩) [a, b] := strs_iff.2 (RowOf.block strC [a, b] (at_newB _ _ _ rfl))

set_option maxRecDepth 10000 in
set_option maxHeartbeats 8000000 in
theorem l_awake14 (w : World) : Calls Try.prog 26 #[] w fun e w' => e = .returned (.bool true) ∧ Ext w w' := by
  go_enter Try.func26, Try.ntmps26
  go_wp2_with fail
  refine (l_name14 [102] _).mono ?_
  rintro e w1 ⟨rfl, rfl⟩
  go_wp2
  have X1 : Hid (Ext w ((w.alloc (.cells #[.int .i64 21, .int .i64 0, .int .i64 0, encStr [102], .slice none 0 0] 54)).alloc (.cells #[.int .i64 21, .int .i64 0, .int .i64 0, .string { data := #[102] }, .slice none 0 0] 54))) := hide (((Ext.refl _).alloc _).alloc _)
  have hbk : (((w.alloc (.cells #[.int .i64 21, .int .i64 0, .int .i64 0, encStr [102], .slice none 0 0] 54)).alloc (.cells #[.int .i64 21, .int .i64 0, .int .i64 0, .string { data := #[102] }, .slice none 0 0] 54))).heap[w.heap.size + 1]? = some (.cells #[.int .i64 21, .int .i64 0, .int .i64 0, .string { data := #[102] }, .slice none 0 0] 54 (0, 0)) := at_newB _ _ _ (by simp)
  have hsz : (((w.alloc (.cells #[.int .i64 21, .int .i64 0, .int .i64 0, encStr [102], .slice none 0 0] 54)).alloc (.cells #[.int .i64 21, .int .i64 0, .int .i64 0, .string { data := #[102] }, .slice none 0 0] 54))).heap.size = w.heap.size + 2 := by simp
  generalize ((w.alloc (.cells #[.int .i64 21, .int .i64 0, .int .i64 0, encStr [102], .slice none 0 0] 54)).alloc (.cells #[.int .i64 21, .int .i64 0, .int .i64 0, .string { data := #[102] }, .slice none 0 0] 54)) = w1 at *
  have HS : Hid (∀ w', Ext w1 w' → w'.cell? ⟨w.heap.size + 1, 0, none⟩ = some (.int .i64 21) ∧ w'.cell? ⟨w.heap.size + 1, 1, none⟩ = some (.int .i64 0) ∧ w'.cell? ⟨w.heap.size + 1, 2, none⟩ = some (.int .i64 0) ∧ w'.cell? ⟨w.heap.size + 1, 3, none⟩ = some (.string { data := #[102] }) ∧ w'.cell? ⟨w.heap.size + 1, 4, none⟩ = some (.slice none 0 0)) := hide (fun w' e => by
    have h := (e.heap (lt_of_obj hbk)).trans hbk
    refine ⟨?_, ?_, ?_, ?_, ?_⟩ <;> simp [World.cell?, h])
  rename_i Q0 K0 hK0
  have key : ∀ (k1 k2 k3 B : Nat) (u7 u8 u9 u11 u12 u14 u16 : Value) (wr : World), Ext w1 wr → wr.heap[k1]? = some (.cells #[.int .i64 21, .int .i64 0, .int .i64 0, encStr [102], .slice none 0 0, .int .i64 21, .int .i64 0, .int .i64 0, encStr [120], .slice none 0 0] 54 (0, 0)) → wr.heap[k2]? = some (.cells #[.int .i64 24, .int .i64 0, .int .i64 0, encStr [], .slice (some ⟨k1, 0, none⟩) 2 2, .int .i64 21, .int .i64 0, .int .i64 0, encStr [121], .slice none 0 0] 54 (0, 0)) → wr.heap[k3]? = some (.cells #[.int .i64 24, .int .i64 0, .int .i64 0, encStr [], .slice (some ⟨k2, 0, none⟩) 2 2] 54 (0, 0)) → wr.heap[B]? = some (.cells #[.int .i64 25, .int .i64 0, .int .i64 0, .string { data := #[120] }, .slice (some ⟨k3, 0, none⟩) 1 1] 54 (0, 0)) →
      Exit.then K0 Q0 Exit.normal { tmps := #[.bool false, .pointer (some ⟨w.heap.size + 1, 0, none⟩), .pointer (some ⟨B, 0, none⟩), undef, undef, undef, undef, u7, u8, u9, .slice (some ⟨k1, 0, none⟩) 2 2, u11, u12, .slice (some ⟨k2, 0, none⟩) 2 2, u14, .slice (some ⟨k3, 0, none⟩) 1 1, u16, undef, undef, undef, undef, undef, undef, undef, undef, undef, undef, undef, undef, undef, undef, undef, undef, undef, undef, undef, undef, undef, undef, undef, undef, undef, undef, undef, undef, undef, undef, undef, undef, undef, undef, undef, undef, undef, undef, undef, undef, undef, undef, undef, undef, undef, undef, undef], defers := [] } wr := by
    intro k1 k2 k3 B u7 u8 u9 u11 u12 u14 u16 wr hx h1 h2 h3 hB
    have XR : Hid (Ext w wr) := hide (X1.out.trans hx)
    have HT : Hid (NodeIn wr (exT k1 k2 k3)) := hide (exT_in h1 h2 h3)
    have HC : Hid (∀ w', Ext wr w' → w'.cell? ⟨B, 0, none⟩ = some (.int .i64 25) ∧ w'.cell? ⟨B, 1, none⟩ = some (.int .i64 0) ∧ w'.cell? ⟨B, 2, none⟩ = some (.int .i64 0) ∧ w'.cell? ⟨B, 3, none⟩ = some (.string { data := #[120] }) ∧ w'.cell? ⟨B, 4, none⟩ = some (.slice (some ⟨k3, 0, none⟩) 1 1)) := hide (fun w' e => by
      have h := (e.heap (lt_of_obj hB)).trans hB
      refine ⟨?_, ?_, ?_, ?_, ?_⟩ <;> simp [World.cell?, h])
    have HL : Hid (NodesIn (wr.alloc (.cells #[.int .i64 31, .int .i64 1, .int .i64 0, .string { data := #[102] }, .slice none 0 0, .int .i64 32, .int .i64 2, .int .i64 0, .string { data := #[102] }, .slice none 0 0, .int .i64 31, .int .i64 3, .int .i64 0, .string { data := #[102] }, .slice none 0 0] 54)) (some ⟨wr.heap.size, 0, none⟩) exL) := hide (exL_in (at_newB _ _ _ rfl))
    have XL : Hid (Ext wr (wr.alloc (.cells #[.int .i64 31, .int .i64 1, .int .i64 0, .string { data := #[102] }, .slice none 0 0, .int .i64 32, .int .i64 2, .int .i64 0, .string { data := #[102] }, .slice none 0 0, .int .i64 31, .int .i64 3, .int .i64 0, .string { data := #[102] }, .slice none 0 0] 54))) := hide ((Ext.refl _).alloc _)
    have H1 := hide (u_twice (some ⟨wr.heap.size, 0, none⟩) 3 exL _ HL.out (by decide))
    rw [exL_twice] at H1
    have H2 := hide (fun w' (e : Ext (wr.alloc (.cells #[.int .i64 31, .int .i64 1, .int .i64 0, .string { data := #[102] }, .slice none 0 0, .int .i64 32, .int .i64 2, .int .i64 0, .string { data := #[102] }, .slice none 0 0, .int .i64 31, .int .i64 3, .int .i64 0, .string { data := #[102] }, .slice none 0 0] 54)) w') => hide (u_uses (exT k1 k2 k3) w' (HT.out.ext (XL.out.trans e)) (by rw [exT_size]; decide)))
    have H3 := hide (fun w' (e : Ext (wr.alloc (.cells #[.int .i64 31, .int .i64 1, .int .i64 0, .string { data := #[102] }, .slice none 0 0, .int .i64 32, .int .i64 2, .int .i64 0, .string { data := #[102] }, .slice none 0 0, .int .i64 31, .int .i64 3, .int .i64 0, .string { data := #[102] }, .slice none 0 0] 54)) w') => hide (u_free (exT k1 k2 k3) w' (HT.out.ext (XL.out.trans e)) (by rw [exT_size]; decide) (by rw [exT_uses]; intro u hu; simp only [List.mem_cons, List.not_mem_nil, or_false] at hu; rcases hu with rfl | rfl <;> decide)))
    have H4 := hide (fun w' (e : Ext (wr.alloc (.cells #[.int .i64 31, .int .i64 1, .int .i64 0, .string { data := #[102] }, .slice none 0 0, .int .i64 32, .int .i64 2, .int .i64 0, .string { data := #[102] }, .slice none 0 0, .int .i64 31, .int .i64 3, .int .i64 0, .string { data := #[102] }, .slice none 0 0] 54)) w') => hide (u_cons (exT k1 k2 k3) w' (HT.out.ext (XL.out.trans e)) (by rw [exT_size]; decide)))
    have H5 := hide (fun w' (e : Ext (wr.alloc (.cells #[.int .i64 31, .int .i64 1, .int .i64 0, .string { data := #[102] }, .slice none 0 0, .int .i64 32, .int .i64 2, .int .i64 0, .string { data := #[102] }, .slice none 0 0, .int .i64 31, .int .i64 3, .int .i64 0, .string { data := #[102] }, .slice none 0 0] 54)) w') => hide (u_binds (some ⟨wr.heap.size, 0, none⟩) 3 exL w' (HL.out.ext e) (by decide)))
    simp only [exT_uses] at H2
    simp only [exT_free] at H3
    simp only [exT_cons] at H4
    simp only [exL_binds] at H5
    simp only [show exL.length = 3 from rfl] at H1 H5
    clear HT HL h1 h2 h3 hB hx HS hbk hsz
    refine hK0 _ _ ?_
    go_wp2_with fail
    refine H1.out.mono ?_
    rintro e w2 ⟨rfl, hx2⟩
    have X2 := hide hx2
    obtain ⟨c0, c1, c2, c3, c4⟩ := HC.out _ (XL.out.trans X2.out)
    clear hx2
    go_wp2_with fail
    refine (H2.out _ X2.out).out.mono ?_
    rintro e w3 ⟨⟨A3, p3, rfl, -, -, hU3⟩, hx3⟩
    have X3 := hide (X2.out.trans hx3)
    obtain ⟨b3, o3, rfl, hb3, hc3⟩ := RowOf.at_ useC hU3 (i := 0) (by decide)
    have q0 : w3.cell? ⟨b3, o3, none⟩ = some (.string { data := #[102] }) := by have := hc3 0 (by decide); simpa [useC] using this
    obtain ⟨d0, d1, d2, d3, d4⟩ := HC.out _ (XL.out.trans X3.out)
    clear hU3 hx3 hc3
    go_wp2_with fail
    refine (H3.out _ X3.out).out.mono ?_
    rintro e w4 ⟨⟨v4, rfl, hO4⟩, hx4⟩
    obtain ⟨A4, p4, rfl, -, -, hS4, -⟩ := Strs.of_own hO4
    have X4 := hide (X3.out.trans hx4)
    have S4 := hide hS4
    clear hO4 hx4 hS4
    go_wp2_with fail
    refine (ref_texts A4 (some ⟨w4.heap.size, 0, none⟩) p4 2 [[102], [121]] [[102], [121]] _ (S4.out.ext ((Ext.refl _).alloc _)) (strs_two w4 [102] [121]) (by decide)).mono ?_
    rintro e w5 ⟨rfl, hx5⟩
    have X5 := hide ((X4.out.alloc _).trans hx5)
    obtain ⟨g0, g1, g2, g3, g4⟩ := HC.out _ (XL.out.trans X5.out)
    clear hx5
    go_wp2_with fail
    refine (H4.out _ X5.out).out.mono ?_
    rintro e w6 ⟨⟨A6, p6, rfl, -, -, -⟩, hx6⟩
    have X6 := hide (X5.out.trans hx6)
    clear hx6
    go_wp2_with fail
    refine (H5.out _ X6.out).out.mono ?_
    rintro e w7 ⟨⟨A7, p7, rfl, -, -, hS7, -⟩, hx7⟩
    have X7 := hide (X6.out.trans hx7)
    have S7 := hide hS7
    clear hx7 hS7
    go_wp2_with fail
    refine (ref_texts A7 (some ⟨w7.heap.size, 0, none⟩) p7 2 [[102], [102]] [[102], [102]] _ (S7.out.ext ((Ext.refl _).alloc _)) (strs_two w7 [102] [102]) (by decide)).mono ?_
    rintro e w8 ⟨rfl, hx8⟩
    have X8 := hide ((X7.out.alloc _).trans hx8)
    clear hx8
    go_wp2
    go_ret
    exact ⟨by simp, (XR.out.trans XL.out).trans X8.out⟩
  go_region_held3 (fun w' => w'.cell? ⟨w.heap.size + 1, 0, none⟩ = some (.int .i64 21) ∧ w'.cell? ⟨w.heap.size + 1, 1, none⟩ = some (.int .i64 0) ∧ w'.cell? ⟨w.heap.size + 1, 2, none⟩ = some (.int .i64 0) ∧ w'.cell? ⟨w.heap.size + 1, 3, none⟩ = some (.string { data := #[102] }) ∧ w'.cell? ⟨w.heap.size + 1, 4, none⟩ = some (.slice none 0 0)) (exact HS.out _ (by repeat (first | exact Ext.refl _ | exact Ext.pre (by simp) | exact Ext.alloc (by assumption) _ | refine Ext.alloc ?_ _ |  refine Ext.more ?_ _ _ | refine Ext.drew ?_ | refine Ext.drewN ?_ _))) (
    (go_at_call 47
     refine Calls.mono (l_name14 _ _) ?_
     rintro e w2 ⟨rfl, rfl⟩))
  all_goals (refine key _ _ _ _ _ _ _ _ _ _ _ _ (by repeat (first | exact Ext.refl _ | exact Ext.pre (by simp) | exact Ext.alloc (by assumption) _ | refine Ext.alloc ?_ _ |  refine Ext.more ?_ _ _ | refine Ext.drew ?_ | refine Ext.drewN ?_ _)) ?_ ?_ ?_ ?_ <;> (rw [hd_drew]; repeat (first | exact ha_hit (by simp only [World.size_alloc, hsz]) | refine ha_miss (by simp only [World.size_alloc, hsz]; omega) ?_)))

end Go.Proofs.Ytnbnhchgkbbiiaa
