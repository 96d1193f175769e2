/- Contracts on the reference's nodes: how many levels; whether a tree is an expression that is not too deep. -/
import Derived.Test.YtnbnhchgkbbiiaaGreatJUsesUses20
/- Contracts on the reference's nodes: how many levels; whether a tree is an expression that is not too deep. -/
namespace Go.Proofs.YtnbnhchgkbbiiaaGreat
open Go.RowKit

noncomputable def dmax (l : List Tree) : Nat := (l.map Tree.depth).foldr max 0
theorem max_snoc (l : List Nat) (x : Nat) : (l ++ [x]).foldr max 0 = max (l.foldr max 0) x := by
  induction l with
  | nil => simp
  | cons y l ih => simp only [List.cons_append, List.foldr_cons, ih]; omega
theorem dmax_take {l : List Tree} {k : Nat} (h : k < l.length) : dmax (l.take (k + 1)) = max (dmax (l.take k)) (l[k]'h).depth := by
  unfold dmax
  rw [List.take_succ_eq_append_getElem h, List.map_append, List.map_singleton, max_snoc]

set_option maxRecDepth 10000 in
set_option maxHeartbeats 2000000 in
theorem r_depth (t : Tree) : ∀ w, NodeIn w t → t.size ≤ 100000 → Calls Tryz.prog 64 #[treeV t] w fun e w' => e = .returned (.int .i64 (t.depth : Int)) ∧ Ext w w' := by
  induction t using Tree.ind with
  | h t ih =>
    intro w h hsz
    have HE : Hid (t.depth = dmax t.kids + 1) := hide (Tree.depth_eq t)
    have hds := depth_le_size t
    have hkl := Tree.kids_len t
    have Hk := hide h.nodes
    have hle := h.le
    have hmx := h.max
    have HB0 := hide (NBox.new w t)
    have X0 : Hid (Ext w (w.alloc (.cells #[.int .i64 t.kind, .int .i64 t.pos, .int .i64 t.n, encStr t.text, .slice t.A t.kids.length t.cap] 24))) := hide ((Ext.refl w).alloc _)
    have HF : Hid (∀ k ∈ t.kids, ∀ w, NodeIn w k → Calls Tryz.prog 64 #[treeV k] w fun e w' => e = .returned (.int .i64 (k.depth : Int)) ∧ Ext w w') := hide (fun k hk w hw => ih k hk w hw (by have := Tree.size_kid hk; omega))
    have HDs : Hid (∀ k ∈ t.kids, k.depth ≤ 100000) := hide (fun k hk => by have := Tree.size_kid hk; have := depth_le_size k; omega)
    have HD0 : Hid (dmax (t.kids.take 0) = 0) := hide rfl
    generalize t.depth = R at *
    clear ih hsz hkl
    unfold treeV at *
    have HN := hide h
    clear h
    generalize hA0 : t.A = A0 at *
    have HA0 := hide hA0
    clear hA0
    go_enter Tryz.func64, Tryz.ntmps64
    go_wp2
    go_loopw [3, 4] (fun m i wr => ∃ k M : Nat, k ≤ t.kids.length ∧ m = .int .i64 (M : Int) ∧ i = .int .i64 k ∧ Hid (Ext w wr) ∧ Hid (NBox wr w.heap.size t) ∧ Hid (dmax (t.kids.take k) = M) ∧ M ≤ 100000) (fun _ i _ => t.kids.length - (intOf i).toNat)
    case atStart => exact ⟨0, 0, by omega, rfl, rfl, X0, HB0, HD0, by omega⟩
    case round =>
      obtain ⟨k, M, hk, rfl, rfl, HX, HB, HD, hM⟩ := hrel
      have c0 := HB.out.c0
      have c1 := HB.out.c1
      have c2 := HB.out.c2
      have c3 := HB.out.c3
      have c4 := HB.out.c4
      rw [HA0.out] at c4
      by_cases hlt : k < t.kids.length
      · have hlt' : (k : Int) < (t.kids.length : Int) := by omega
        have hk0 : (0 : Int) ≤ (k : Int) := by omega
        obtain ⟨b, o, rfl, hb, q0, q1, q2, q3, q4⟩ := (Hk.out.ext HX.out).at_ hlt
        have HC := hide (HF.out _ (List.getElem_mem hlt) wr ((Hk.out.kids _ (List.getElem_mem hlt)).ext HX.out))
        have hdk := HDs.out _ (List.getElem_mem hlt)
        have HD2 := hide (dmax_take hlt)
        rw [HD.out] at HD2
        generalize t.kids[k]'hlt = c at *
        generalize c.depth = d at *
        by_cases hgt : (d : Int) > (M : Int)
        · go_wp2_with fail
          refine HC.out.mono ?_
          rintro e w3 ⟨rfl, hx3⟩
          have X3 := hide (HX.out.trans hx3)
          have HB3 := hide (HB.out.ext hx3)
          clear hx3
          go_wp2
          go_roundw
          case rel => exact ⟨k + 1, d, by omega, by first | rfl | exact congrArg (Value.int .i64) (by omega), by go_num, X3, HB3, hide (by rw [HD2.out]; omega), hdk⟩
          case measure => simp [intOf]; omega
        · go_wp2_with fail
          refine HC.out.mono ?_
          rintro e w3 ⟨rfl, hx3⟩
          have X3 := hide (HX.out.trans hx3)
          have HB3 := hide (HB.out.ext hx3)
          clear hx3
          go_wp2
          go_roundw
          case rel => exact ⟨k + 1, M, by omega, by first | rfl | exact congrArg (Value.int .i64) (by omega), by go_num, X3, HB3, hide (by rw [HD2.out]; omega), hM⟩
          case measure => simp [intOf]; omega
      · have hge : ¬ (k : Int) < (t.kids.length : Int) := by omega
        have hM0 : (0 : Int) ≤ (M : Int) := by omega
        have hR : R = M + 1 := by
          have := HD.out
          rw [List.take_of_length_le (by omega)] at this
          rw [HE.out, this]
        clear HE
        subst hR
        go_wp2
        go_ret
        exact ⟨by go_num, HX.out⟩

theorem r_low (t : Tree) (w : World) (h : NodeIn w t) (hsz : t.size ≤ 100000) : Calls Tryz.prog 37 #[treeV t] w fun e w' => e = .returned (.bool (lowB t)) ∧ Ext w w' := by
  have HE : Hid (lowB t = decide (t.depth ≤ 100)) := hide rfl
  have H0 := hide (fun w' (e : Ext w w') => hide (r_depth t w' (h.ext e) hsz))
  have X0 : Hid (Ext w (w.alloc (.cells #[.int .i64 t.kind, .int .i64 t.pos, .int .i64 t.n, encStr t.text, .slice t.A t.kids.length t.cap] 24))) := hide ((Ext.refl w).alloc _)
  generalize lowB t = R at *
  generalize t.depth = D at *
  unfold treeV at *
  clear h
  by_cases hd : (D : Int) ≤ 100
  · have hR : R = true := by rw [HE.out]; simp; omega
    clear HE
    subst hR
    go_enter Tryz.func37, Tryz.ntmps37
    go_wp2_with fail
    refine (H0.out _ X0.out).out.mono ?_
    rintro e w1 ⟨rfl, hx⟩
    go_wp2
    go_ret
    exact ⟨rfl, X0.out.trans hx⟩
  · have hR : R = false := by rw [HE.out]; simp; omega
    clear HE
    subst hR
    go_enter Tryz.func37, Tryz.ntmps37
    go_wp2_with fail
    refine (H0.out _ X0.out).out.mono ?_
    rintro e w1 ⟨rfl, hx⟩
    go_wp2
    go_ret
    exact ⟨by simp [Array.getD]; omega, X0.out.trans hx⟩

theorem r_exp (t : Tree) (w : World) (h : NodeIn w t) (hsz : t.size ≤ 100000) : Calls Tryz.prog 22 #[treeV t] w fun e w' => e = .returned (.bool (isExpB t)) ∧ Ext w w' := by
  have HE : Hid (isExpB t = (lowB t && expB t)) := hide rfl
  have H1 := hide (fun w' (e : Ext w w') => hide (r_low t w' (h.ext e) hsz))
  have H0 := hide (fun w' (e : Ext w w') => hide (r_isexp t w' (h.ext e)))
  have HB0 := hide (NBox.new w t)
  have X0 : Hid (Ext w (w.alloc (.cells #[.int .i64 t.kind, .int .i64 t.pos, .int .i64 t.n, encStr t.text, .slice t.A t.kids.length t.cap] 24))) := hide ((Ext.refl w).alloc _)
  generalize isExpB t = R at *
  generalize expB t = B0 at *
  generalize lowB t = B1 at *
  unfold treeV at *
  clear h
  cases B0
  · have hR : R = false := by rw [HE.out]; simp
    clear HE
    subst hR
    go_enter Tryz.func22, Tryz.ntmps22
    go_wp2_with fail
    refine (H0.out _ X0.out).out.mono ?_
    rintro e w1 ⟨rfl, hx⟩
    go_wp2
    go_ret
    exact ⟨rfl, X0.out.trans hx⟩
  · have hR : R = B1 := by rw [HE.out]; simp
    clear HE
    subst hR
    go_enter Tryz.func22, Tryz.ntmps22
    go_wp2_with fail
    refine (H0.out _ X0.out).out.mono ?_
    rintro e w1 ⟨rfl, hx⟩
    have X1 := hide (X0.out.trans hx)
    have HB1 := hide (HB0.out.ext hx)
    clear hx
    have c0 := HB1.out.c0
    have c1 := HB1.out.c1
    have c2 := HB1.out.c2
    have c3 := HB1.out.c3
    have c4 := HB1.out.c4
    go_wp2_with fail
    refine (H1.out _ X1.out).out.mono ?_
    rintro e w2 ⟨rfl, hx⟩
    go_wp2
    go_ret
    exact ⟨rfl, X1.out.trans hx⟩

end Go.Proofs.YtnbnhchgkbbiiaaGreat
