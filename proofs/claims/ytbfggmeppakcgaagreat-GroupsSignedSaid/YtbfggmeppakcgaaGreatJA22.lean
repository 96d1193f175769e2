/- Contract: groups alike. -/
import Derived.Test.YtbfggmeppakcgaaGreatJA21
/- Contract: groups alike. -/
namespace Go.Proofs.YtbfggmeppakcgaaGreat
open Go.RowKit

theorem alike_groups {gs hs : List (List Nat)} (hlen : gs.length = hs.length) (h : ∀ i, i < gs.length → gs.getD i [] = hs.getD i []) : gs = hs := by
  apply List.ext_getElem hlen
  intro i h1 h2
  have := h i h1
  simpa [h1, h2] using this
theorem alike_nats {l m : List Nat} (hlen : l.length = m.length) (h : ∀ i, i < l.length → l.getD i 0 = m.getD i 0) : l = m := by
  apply List.ext_getElem hlen
  intro i h1 h2
  have := h i h1
  simpa [h1, h2] using this

set_option maxRecDepth 10000 in
set_option maxHeartbeats 4000000 in
theorem r_same (A B : Option Addr) (cap cap' : Nat) (gs hs : List (List Nat)) (w : World) (hg : Grps w A gs) (hh : Grps w B hs) (hgl : gs.length ≤ 1000) :
    Calls Tryz.prog 7 #[.slice A gs.length cap, .slice B hs.length cap'] w fun e w' => e = .returned (.bool (decide (gs = hs))) ∧ Ext w w' := by
  by_cases hlen : gs.length = hs.length
  · have Hall : Hid ((∀ j, j < gs.length → gs.getD j [] = hs.getD j []) → decide (gs = hs) = true) := hide (fun hall => decide_eq_true (alike_groups hlen hall))
    have Hne : Hid (∀ j, gs.getD j [] ≠ hs.getD j [] → decide (gs = hs) = false) := hide (fun j hj => decide_eq_false (fun e => hj (by rw [e])))
    have HG := hide hg
    have HH := hide hh
    have Hlen := hide hlen
    clear hg hh
    generalize decide (gs = hs) = R at *
    rw [← hlen]
    clear hlen
    go_enter Tryz.func7, Tryz.ntmps7
    go_wp2
    go_loopw [5] (fun i wr => ∃ j : Nat, j ≤ gs.length ∧ i = .int .i64 j ∧ Hid (∀ i, i < j → gs.getD i [] = hs.getD i []) ∧ Hid (Ext w wr)) (fun i _ => gs.length - (intOf i).toNat)
    case atStart => exact ⟨0, Nat.zero_le _, rfl, hide (fun i hi => absurd hi (by omega)), hide (by repeat (first | exact Ext.refl _ | exact Ext.pre (by simp) | exact Ext.alloc (by assumption) _ | refine Ext.alloc ?_ _ |  refine Ext.more ?_ _ _ | refine Ext.drew ?_ | refine Ext.drewN ?_ _))⟩
    case round =>
      obtain ⟨j, hj, rfl, Hj, HX⟩ := hrel
      by_cases hlt : j < gs.length
      · have hlt2 : j < hs.length := by rw [← Hlen.out]; exact hlt
        obtain ⟨b, o, A1, c1, rfl, hb, q1, p1, p2, p3⟩ := (HG.out.ext HX.out).at_ hlt
        obtain ⟨b', o', A2, c2, rfl, hb', q2, r1, r2, r3⟩ := (HH.out.ext HX.out).at_ hlt2
        have hlt' : (j : Int) < (gs.length : Int) := by omega
        have hj0 : (0 : Int) ≤ (j : Int) := by omega
        have HI := hide p3
        have HI2 := hide r3
        have Hy : Hid (gs.getD j [] = gs[j]'hlt) := hide (by simp [hlt])
        have Hz : Hid (hs.getD j [] = hs[j]'hlt2) := hide (by simp [hlt2])
        clear p3 r3
        generalize gs[j]'hlt = g at *
        generalize hs[j]'hlt2 = h at *
        by_cases hgl2 : g.length = h.length
        · have hd : ((g.length : Int) != (h.length : Int)) = false := by simp; omega
          have hd2 : ((g.length : Int) == (h.length : Int)) = true := by simp; omega
          have Hgl2 := hide hgl2
          rw [← hgl2] at q2 hd hd2
          clear hgl2
          rename World => wA
          go_wp2
          go_quiet (fail)
          go_wp2
          go_loopw [6] (fun i wr => ∃ k : Nat, k ≤ g.length ∧ i = .int .i64 k ∧ Hid (∀ i, i < k → g.getD i 0 = h.getD i 0) ∧ Hid (Ext wA wr)) (fun i _ => g.length - (intOf i).toNat)
          case atStart => exact ⟨0, Nat.zero_le _, rfl, hide (fun i hi => absurd hi (by omega)), hide (by repeat (first | exact Ext.refl _ | exact Ext.pre (by simp) | exact Ext.alloc (by assumption) _ | refine Ext.alloc ?_ _ |  refine Ext.more ?_ _ _ | refine Ext.drew ?_ | refine Ext.drewN ?_ _))⟩
          case round =>
            obtain ⟨k, hk, rfl, Hk, HXk⟩ := hrel
            have qq1 : wr.cell? ⟨b, o + j, none⟩ = some (.slice A1 g.length c1) := (World.cell?_of_block (a := ⟨b, o + j, none⟩) (HXk.out.heap hb)).trans q1
            have qq2 : wr.cell? ⟨b', o' + j, none⟩ = some (.slice A2 g.length c2) := (World.cell?_of_block (a := ⟨b', o' + j, none⟩) (HXk.out.heap hb')).trans q2
            by_cases hlt3 : k < g.length
            · have hlt4 : k < h.length := by rw [← Hgl2.out]; exact hlt3
              have hz1 : k < (zs g).length := by rw [zs_len]; exact hlt3
              have hz2 : k < (zs h).length := by rw [zs_len]; exact hlt4
              obtain ⟨b3, o3, rfl, hb3, q3⟩ := Ints.at_ (RowOf.ext intC HI.out HXk.out) hz1
              obtain ⟨b4, o4, rfl, hb4, q4⟩ := Ints.at_ (RowOf.ext intC HI2.out HXk.out) hz2
              rw [zs_get _ hz1 hlt3] at q3
              rw [zs_get _ hz2 hlt4] at q4
              have Hy3 : Hid (g.getD k 0 = g[k]'hlt3) := hide (by simp [hlt3])
              have Hz3 : Hid (h.getD k 0 = h[k]'hlt4) := hide (by simp [hlt4])
              have hlt3' : (k : Int) < (g.length : Int) := by omega
              have hk0 : (0 : Int) ≤ (k : Int) := by omega
              generalize g[k]'hlt3 = x at *
              generalize h[k]'hlt4 = y at *
              by_cases hxy : x = y
              · subst hxy
                go_wp2
                go_quiet (fail)
                go_wp2
                go_roundw
                case rel =>
                  refine ⟨k + 1, hlt3, by go_num, hide (fun i hi => ?_), hide (HXk.out.trans (by repeat (first | exact Ext.refl _ | exact Ext.pre (by simp) | exact Ext.alloc (by assumption) _ | refine Ext.alloc ?_ _ |  refine Ext.more ?_ _ _ | refine Ext.drew ?_ | refine Ext.drewN ?_ _)))⟩
                  by_cases hij : i = k
                  · subst hij; rw [Hy3.out, Hz3.out]
                  · exact Hk.out i (by omega)
                case measure => simp [intOf]; omega
              · have hR := Hne.out j (by rw [Hy.out, Hz.out]; intro e; exact hxy (by rw [← Hy3.out, ← Hz3.out, e]))
                have hxy1 : ((x : Int) == (y : Int)) = false := by simp; omega
                have hxy2 : ((x : Int) != (y : Int)) = true := by simp; omega
                clear Hall Hne
                subst hR
                go_wp2
                go_quiet (fail)
                go_wp2
                go_ret
                exact ⟨rfl, (HX.out.trans HXk.out).trans (by repeat (first | exact Ext.refl _ | exact Ext.pre (by simp) | exact Ext.alloc (by assumption) _ | refine Ext.alloc ?_ _ |  refine Ext.more ?_ _ _ | refine Ext.drew ?_ | refine Ext.drewN ?_ _))⟩
            · have hge : (g.length : Int) ≤ (k : Int) := by omega
              have hgh : g = h := alike_nats Hgl2.out (fun i hi => Hk.out i (by omega))
              have HJ : Hid (∀ i, i < j + 1 → gs.getD i [] = hs.getD i []) := hide (fun i hi => by
                by_cases hij : i = j
                · subst hij; rw [Hy.out, Hz.out, hgh]
                · exact Hj.out i (by omega))
              clear hgh
              go_wp2
              go_roundw
              case rel => exact ⟨j + 1, hlt, by go_num, HJ, hide (HX.out.trans HXk.out)⟩
              case measure => simp [intOf]; omega
        · have hR := Hne.out j (by rw [Hy.out, Hz.out]; intro e; exact hgl2 (by rw [e]))
          have hd : ((g.length : Int) != (h.length : Int)) = true := by simp; omega
          have hd2 : ((g.length : Int) == (h.length : Int)) = false := by simp; omega
          clear Hall Hne
          subst hR
          go_wp2
          go_quiet (fail)
          go_wp2
          go_ret
          exact ⟨rfl, HX.out.trans (by repeat (first | exact Ext.refl _ | exact Ext.pre (by simp) | exact Ext.alloc (by assumption) _ | refine Ext.alloc ?_ _ |  refine Ext.more ?_ _ _ | refine Ext.drew ?_ | refine Ext.drewN ?_ _))⟩
      · have hge : (gs.length : Int) ≤ (j : Int) := by omega
        have hR := Hall.out (fun i hi => Hj.out i (by omega))
        clear Hall Hne
        subst hR
        go_wp2
        go_ret
        exact ⟨rfl, HX.out⟩
  · have hR : decide (gs = hs) = false := decide_eq_false (fun e => hlen (by rw [e]))
    rw [hR]
    have hd : ((gs.length : Int) != (hs.length : Int)) = true := by simp; omega
    have hd2 : ((gs.length : Int) == (hs.length : Int)) = false := by simp; omega
    clear hR hg hh
    go_enter Tryz.func7, Tryz.ntmps7
    go_wp2
    go_ret
    exact ⟨rfl, (by repeat (first | exact Ext.refl _ | exact Ext.pre (by simp) | exact Ext.alloc (by assumption) _ | refine Ext.alloc ?_ _ |  refine Ext.more ?_ _ _ | refine Ext.drew ?_ | refine Ext.drewN ?_ _))⟩

end Go.Proofs.YtbfggmeppakcgaaGreat

/- Contract: chapter 15's example. -/
namespace Go.Proofs.YtbfggmeppakcgaaGreat
open Go.RowKit Go.Sort Go.Maps

theorem one_treesG (l : List Tree) : ∀ u ∈ l.flatMap treeC.f, u.oneCell' = true := by
  intro u hu
  obtain ⟨t, -, ht⟩ := List.mem_flatMap.1 hu
  simp only [treeC, Tree.cells, List.mem_cons, List.not_mem_nil, or_false] at ht
  rcases ht with rfl | rfl | rfl | rfl | rfl <;> rfl
theorem Ints.blockG {w : World} {b : Nat} {t : TypeId} {fr : Nat × Nat} (l : List Nat) (h : w.heap[b]? = some (.cells ((zs l).map (Value.int .i64)).toArray t fr)) : Ints w (some ⟨b, 0, none⟩) (zs l) := by
  refine RowOf.block intC (zs l) (t := t) (fr := fr) ?_
  rw [h]
  congr 2
  rw [show (zs l).flatMap intC.f = (zs l).map (Value.int .i64) from flat_one _ _]
theorem nameT_size (y : Str) : (nameT y).size = 1 := by rw [Tree.size_eq]; rfl
theorem bindT_size (x y : Str) (b : Nat) : (bindT x y b).size = 2 := by
  rw [Tree.size_eq]
  simp [bindT, Tree.kids, nameT_size]
theorem sigT_size (x : Str) : (sigT x).size = 1 := by rw [Tree.size_eq]; rfl
theorem sigT_in (w : World) (s : Str) (h : s.length ≤ 9223372036854775807) : NodeIn w (sigT s) := NodeIn.mk (Nat.le_refl _) (by simp [sigT, Tree.cap]) h (RowOf.nil _ _ _) (fun k hk => by cases hk)
theorem all_size (b1 b2 b3 : Nat) : ∀ t ∈ all4 b1 b2 b3, t.size ≤ 9000 := by
  intro t ht
  simp only [all4, bs3, List.cons_append, List.nil_append, List.mem_cons, List.not_mem_nil, or_false] at ht
  rcases ht with rfl | rfl | rfl | rfl <;> simp [bindT_size, sigT_size]
theorem bs_size (b1 b2 b3 : Nat) : ∀ t ∈ bs3 b1 b2 b3, t.size ≤ 9000 := fun t ht => all_size b1 b2 b3 t (List.mem_append_left _ ht)
theorem grps_litA (w : World) (t : TypeId) : Grps (((w.alloc (.cells #[.int .i64 0, .int .i64 1] 3)).alloc (.cells #[.int .i64 2] 3)).alloc (.cells #[.slice (some ⟨w.heap.size, 0, none⟩) 2 2, .slice (some ⟨w.heap.size + 1, 0, none⟩) 1 1] t)) (some ⟨w.heap.size + 2, 0, none⟩) [[0, 1], [2]] := by
  refine ⟨[⟨.slice (some ⟨w.heap.size, 0, none⟩) 2 2, [0, 1]⟩, ⟨.slice (some ⟨w.heap.size + 1, 0, none⟩) 1 1, [2]⟩], rfl, RowOf.block slvC _ (t := t) (fr := (0, 0)) (at_newB _ _ _ (by simp)), ?_⟩
  intro s hs
  simp only [List.mem_cons, List.not_mem_nil, or_false] at hs
  rcases hs with rfl | rfl
  · exact ⟨_, 2, rfl, Nat.le_refl _, by omega, RowOf.ext intC (RowOf.ext intC (Ints.blockG [0, 1] (at_newB w (.cells #[.int .i64 0, .int .i64 1] 3) _ rfl)) ((Ext.refl _).alloc _)) ((Ext.refl _).alloc _)⟩
  · exact ⟨_, 1, rfl, Nat.le_refl _, by omega, RowOf.ext intC (Ints.blockG [2] (at_newB _ (.cells #[.int .i64 2] 3) _ (by simp))) ((Ext.refl _).alloc _)⟩
theorem grps_litB (w : World) (t : TypeId) : Grps ((((w.alloc (.cells #[.int .i64 1] 3)).alloc (.cells #[.int .i64 0] 3)).alloc (.cells #[.int .i64 2] 3)).alloc (.cells #[.slice (some ⟨w.heap.size, 0, none⟩) 1 1, .slice (some ⟨w.heap.size + 1, 0, none⟩) 1 1, .slice (some ⟨w.heap.size + 2, 0, none⟩) 1 1] t)) (some ⟨w.heap.size + 3, 0, none⟩) [[1], [0], [2]] := by
  refine ⟨[⟨.slice (some ⟨w.heap.size, 0, none⟩) 1 1, [1]⟩, ⟨.slice (some ⟨w.heap.size + 1, 0, none⟩) 1 1, [0]⟩, ⟨.slice (some ⟨w.heap.size + 2, 0, none⟩) 1 1, [2]⟩], rfl, RowOf.block slvC _ (t := t) (fr := (0, 0)) (at_newB _ _ _ (by simp)), ?_⟩
  intro s hs
  simp only [List.mem_cons, List.not_mem_nil, or_false] at hs
  rcases hs with rfl | rfl | rfl
  · exact ⟨_, 1, rfl, Nat.le_refl _, by omega, RowOf.ext intC (RowOf.ext intC (RowOf.ext intC (Ints.blockG [1] (at_newB w (.cells #[.int .i64 1] 3) _ rfl)) ((Ext.refl _).alloc _)) ((Ext.refl _).alloc _)) ((Ext.refl _).alloc _)⟩
  · exact ⟨_, 1, rfl, Nat.le_refl _, by omega, RowOf.ext intC (RowOf.ext intC (Ints.blockG [0] (at_newB _ (.cells #[.int .i64 0] 3) _ (by simp))) ((Ext.refl _).alloc _)) ((Ext.refl _).alloc _)⟩
  · exact ⟨_, 1, rfl, Nat.le_refl _, by omega, RowOf.ext intC (Ints.blockG [2] (at_newB _ (.cells #[.int .i64 2] 3) _ (by simp))) ((Ext.refl _).alloc _)⟩
theorem same_groupsG (A B : Option Addr) (cap cap' : Nat) (gs : List (List Nat)) (w : World) (hg : Grps w A gs) (hh : Grps w B gs) (hgl : gs.length ≤ 1000) :
    Calls Tryz.prog 7 #[.slice A gs.length cap, .slice B gs.length cap'] w fun e w' => e = .returned (.bool true) ∧ Ext w w' := by
  have := r_same A B cap cap' gs gs w hg hh hgl
  rwa [decide_eq_true rfl] at this

set_option maxRecDepth 100000 in
set_option maxHeartbeats 4000000 in
theorem l_awake15 (w : World) : Calls Tryz.prog 5 #[] w fun e w' => e = .returned (.bool true) ∧ Ext w w' := by
  obtain ⟨i0, hi, hz0, hz1, hz2⟩ := info_parts node_info
  have HB := hide (fun (x y : Str) (hx : x.length ≤ 9223372036854775807) (hy : y.length ≤ 9223372036854775807) w' => hide (l_bind15 x y w' hx hy))
  go_enter Tryz.func5, Tryz.ntmps5
  go_wp2_with fail
  refine (HB.out fS gS (by decide) (by decide) w).out.mono ?_
  rintro e w1 ⟨⟨b1, rfl, n1⟩, x1⟩
  go_wp2_with fail
  refine (HB.out gS fS (by decide) (by decide) w1).out.mono ?_
  rintro e w2 ⟨⟨b2, rfl, n2⟩, x2⟩
  go_wp2_with fail
  refine (HB.out hS fS (by decide) (by decide) w2).out.mono ?_
  rintro e w3 ⟨⟨b3, rfl, n3⟩, x3⟩
  have N1 := hide (n1.ext (x2.trans x3))
  have N2 := hide (n2.ext x3)
  have N3 := hide n3
  have X3 := hide ((x1.trans x2).trans x3)
  clear n1 n2 n3 x1 x2 x3
  obtain ⟨W, hW⟩ : ∃ W, W = w3.alloc (.cells ((bs3 b1 b2 b3).flatMap treeC.f).toArray 28) := ⟨_, rfl⟩
  have HBs : Hid (NodesIn W (some ⟨w3.heap.size, 0, none⟩) (bs3 b1 b2 b3)) := hide (by
    rw [hW]
    refine ⟨RowOf.block treeC (bs3 b1 b2 b3) (at_newB _ _ _ rfl), fun k hk => ?_⟩
    simp only [bs3, List.mem_cons, List.not_mem_nil, or_false] at hk
    rcases hk with rfl | rfl | rfl
    · exact N1.out.ext ((Ext.refl _).alloc _)
    · exact N2.out.ext ((Ext.refl _).alloc _)
    · exact N3.out.ext ((Ext.refl _).alloc _))
  have XW : Hid (Ext w W) := hide (by rw [hW]; exact X3.out.alloc _)
  go_wp2_with (at_builtin; refine wpList_append_row _ rfl _ _ 22 rfl (w3.heap.size + 1) 28 i0 _ 5 64 Tryz.underlying22 hi hz0 hz1 hz2 rfl (by decide) (.slice none 0 0) 0 [] rfl (World.ownsRow_nil _ _ _ _) _ 3 3 ((bs3 b1 b2 b3).flatMap treeC.f) rfl ?c2 ?c3 ?c4 ?c5 ?c6 ?_)
  case c2 => exact (by have := HBs.out.row; rw [hW] at this; exact this)
  case c3 => exact one_treesG _
  case c4 => unfold maxLen; omega
  case c5 => omega
  case c6 => first | omega | simp
  intro v4 w4 ho4 hg4 _
  have X4 : Hid (Ext W w4) := hide (by rw [hW]; exact (Ext.refl _).grown hg4 (fun k e => by cases e))
  have O4 : Hid (w4.ownsRow (w3.heap.size + 1) 28 5 v4 3 ((bs3 b1 b2 b3).flatMap treeC.f)) := hide ho4
  have hw4 : w3.heap.size + 1 ≤ w4.heap.size := by have := hg4.size; simp at this; omega
  clear ho4 hg4
  go_wp2_with (at_builtin; refine wpList_append_row _ rfl _ _ 22 rfl (w3.heap.size + 1) 28 i0 _ 5 64 Tryz.underlying22 hi hz0 hz1 hz2 rfl (by decide) v4 3 ((bs3 b1 b2 b3).flatMap treeC.f) rfl (own_extB O4.out ((Ext.refl _).alloc _)) _ 1 1 ([sigT fS].flatMap treeC.f) rfl ?c2 ?c3 ?c4 ?c5 ?c6 ?_)
  case c2 => exact RowOf.block (t := 28) (fr := (0, 0)) treeC [sigT fS] (heap_alloc_new _ _)
  case c3 => exact one_treesG _
  case c4 => unfold maxLen; omega
  case c5 => omega
  case c6 => first | omega | (simp; omega)
  intro v5 w5 ho5 hg5 _
  have X5 : Hid (Ext W w5) := hide (Ext.appU (X4.out.alloc _) hg5 (own_extB O4.out ((Ext.refl _).alloc _)) (by rw [hW]; simp))
  have O5 : Hid (w5.ownsRow (w3.heap.size + 1) 28 5 v5 (all4 b1 b2 b3).length ((all4 b1 b2 b3).flatMap treeC.f)) := hide ho5
  obtain ⟨A5, c5, hv5, -, -, r5, -⟩ := RowOf.own treeC O5.out
  have hv5' : v5 = .slice A5 4 c5 := hv5
  subst hv5'
  have XX5 := hide (XW.out.trans X5.out)
  have H5 : Hid (NodesIn w5 A5 (all4 b1 b2 b3)) := hide ⟨r5, fun k hk => by
    simp only [all4, bs3, List.cons_append, List.nil_append, List.mem_cons, List.not_mem_nil, or_false] at hk
    rcases hk with rfl | rfl | rfl | rfl
    · exact (HBs.out.kids _ (by simp [bs3])).ext X5.out
    · exact (HBs.out.kids _ (by simp [bs3])).ext X5.out
    · exact (HBs.out.kids _ (by simp [bs3])).ext X5.out
    · exact sigT_in _ _ (by decide)⟩
  have H5b : Hid (NodesIn w5 (some ⟨w3.heap.size, 0, none⟩) (bs3 b1 b2 b3)) := hide (HBs.out.ext X5.out)
  have HL1 : Hid (Calls Tryz.prog 11 #[.slice A5 4 c5] w5 fun e w' => e = .returned (.tuple #[.int .i64 0, .bool true]) ∧ Ext w5 w') := hide (g_lone A5 c5 (all4 b1 b2 b3) w5 H5.out (show 4 ≤ 100000 by decide))
  have HL2 : Hid (∀ (b : Nat) w', NodesIn w' (some ⟨b, 0, none⟩) [sigT fS] → Hid (Calls Tryz.prog 11 #[.slice (some ⟨b, 0, none⟩) 1 1] w' fun e w'' => e = .returned (.tuple #[.int .i64 7, .bool false]) ∧ Ext w' w'')) := hide (fun b w' h => hide (g_lone (some ⟨b, 0, none⟩) 1 [sigT fS] w' h (by decide)))
  have HG1 : Hid (∀ w', Ext w5 w' → Hid (Calls Tryz.prog 8 #[.slice (some ⟨w3.heap.size, 0, none⟩) 3 3] w' fun e w'' => (∃ A' cap', e = .returned (.slice A' 2 cap') ∧ 2 ≤ cap' ∧ cap' ≤ 9223372036854775807 ∧ Grps w'' A' [[0, 1], [2]]) ∧ Ext w' w'')) :=
    hide (fun w' e => hide (g_groups15 _ 3 (bs3 b1 b2 b3) w' (H5b.out.ext e) (show 3 ≤ 900 by decide) (bs_size b1 b2 b3) F3 (bs_F b1 b2 b3) us3 (pl_us b1 b2 b3) (us3_one _) 3 rfl m3 (fun i j _ => m3_iff i j) [[0, 1], [2]] (bs_groups b1 b2 b3).symm))
  have HG2 : Hid (∀ w', Ext w5 w' → Hid (Calls Tryz.prog 8 #[.slice A5 4 c5] w' fun e w'' => (∃ A' cap', e = .returned (.slice A' 3 cap') ∧ 3 ≤ cap' ∧ cap' ≤ 9223372036854775807 ∧ Grps w'' A' [[1], [0], [2]]) ∧ Ext w' w'')) :=
    hide (fun w' e => hide (g_groups15 _ c5 (all4 b1 b2 b3) w' (H5.out.ext e) (show 4 ≤ 900 by decide) (all_size b1 b2 b3) F4 (all_F b1 b2 b3) us3 (pl_us b1 b2 b3) (us3_one _) 3 rfl m1 (fun i j _ => m1_iff i j) [[1], [0], [2]] (all_groups b1 b2 b3).symm))
  have HSg : Hid (∀ w', Ext w5 w' → Hid (Calls Tryz.prog 13 #[.slice A5 4 c5] w' fun e w'' => (∃ A' cap', e = .returned (.slice A' 1 cap') ∧ 1 ≤ cap' ∧ cap' ≤ 9223372036854775807 ∧ Strs w'' A' [fS] ∧ ∀ c o, A' = some ⟨c, o, none⟩ → w'.heap.size ≤ c) ∧ Ext w' w'')) := hide (fun w' e => hide (g_signed A5 c5 (all4 b1 b2 b3) w' (H5.out.ext e) (show 4 ≤ 100000 by decide)))
  have v1 : varB fS = true := by decide
  have v2 : varB gS = true := by decide
  have HR1 : Hid (∀ w', Ext w5 w' → Hid (Calls Tryz.prog 14 #[.slice (some ⟨w3.heap.size, 0, none⟩) 3 3, .int .i64 0] w' fun e w'' => e = .returned (.bool false) ∧ Ext w' w'')) := hide (fun w' e => hide (by
    have := g_rec (some ⟨w3.heap.size, 0, none⟩) 3 (bs3 b1 b2 b3) w' (H5b.out.ext e) (show 0 < 3 by decide) rfl (bs_size b1 b2 b3 _ (by simp [bs3]))
    have e9 : (useN ((bs3 b1 b2 b3)[0]'(Nat.succ_pos _))).any (((bs3 b1 b2 b3)[0]'(Nat.succ_pos _)).text == ·) = false := by
      show (useN (bindT fS gS b1)).any (fS == ·) = false
      rw [bindT_use v2]
      decide
    rw [e9] at this
    exact this))
  have HR2 : Hid (∀ (b b4 : Nat) w', NodesIn w' (some ⟨b, 0, none⟩) [bindT fS fS b4] → Hid (Calls Tryz.prog 14 #[.slice (some ⟨b, 0, none⟩) 1 1, .int .i64 0] w' fun e w'' => e = .returned (.bool true) ∧ Ext w' w'')) := hide (fun b b4 w' h => hide (by
    have := g_rec (some ⟨b, 0, none⟩) 1 [bindT fS fS b4] w' h (show 0 < 1 by decide) rfl (by show (bindT fS fS b4).size ≤ 9000; rw [bindT_size]; omega)
    have e9 : (useN ([bindT fS fS b4][0]'(Nat.succ_pos _))).any (([bindT fS fS b4][0]'(Nat.succ_pos _)).text == ·) = true := by
      show (useN (bindT fS fS b4)).any (fS == ·) = true
      rw [bindT_use v1]
      decide
    rw [e9] at this
    exact this))
  clear ho5 hg5 O5 r5 X5 X4 O4 HBs XW hW N1 N2 N3 X3
  go_wp2_with fail
  refine HL1.out.mono ?_
  rintro e w6 ⟨rfl, x6⟩
  obtain ⟨b5, o5, rfl, hb5, p0, p1, p2, p3, p4⟩ := (H5.out.ext x6).at_ (i := 3) (show 3 < 4 by decide)
  have q0 : w6.cell? ⟨b5, o5 + 15, none⟩ = some (.int .i64 32) := p0
  have q1 : w6.cell? ⟨b5, o5 + 15 + 1, none⟩ = some (.int .i64 7) := p1
  have q2 : w6.cell? ⟨b5, o5 + 15 + 2, none⟩ = some (.int .i64 0) := p2
  have q3 : w6.cell? ⟨b5, o5 + 15 + 3, none⟩ = some (.string ⟨#[102]⟩) := p3
  have q4 : w6.cell? ⟨b5, o5 + 15 + 4, none⟩ = some (.slice none 0 0) := p4
  clear p0 p1 p2 p3 p4
  go_wp2_with fail
  refine (HL2.out _ _ ⟨RowOf.block (t := 28) (fr := (0, 0)) treeC [sigT fS] (heap_alloc_new _ _), fun k hk => by rw [List.mem_singleton] at hk; subst hk; exact sigT_in _ _ (by decide)⟩).out.mono ?_
  rintro e w7 ⟨rfl, x7⟩
  have E7 := x6.trans (((Ext.refl _).alloc _).trans x7)
  clear x6 x7 q0 q1 q2 q3 q4
  go_wp2_with fail
  refine (HG1.out _ E7).out.mono ?_
  rintro e w8 ⟨⟨A8, c8, rfl, k8, m8, g8⟩, x8⟩
  go_wp2_with fail
  refine (same_groupsG A8 _ c8 2 [[0, 1], [2]] _ (g8.ext ((((Ext.refl _).alloc _).alloc _).alloc _)) (grps_litA w8 _) (by decide)).mono ?_
  rintro e w9 ⟨rfl, x9⟩
  have E9 := E7.trans (x8.trans (((((Ext.refl _).alloc _).alloc _).alloc _).trans x9))
  clear x8 x9 g8 E7
  go_wp2_with fail
  refine (HG2.out _ E9).out.mono ?_
  rintro e w10 ⟨⟨A10, c10, rfl, k10, m10, g10⟩, x10⟩
  go_wp2_with fail
  refine (same_groupsG A10 _ c10 3 [[1], [0], [2]] _ (g10.ext (((((Ext.refl _).alloc _).alloc _).alloc _).alloc _)) (grps_litB w10 _) (by decide)).mono ?_
  rintro e w11 ⟨rfl, x11⟩
  have E11 := E9.trans (x10.trans ((((((Ext.refl _).alloc _).alloc _).alloc _).alloc _).trans x11))
  clear x10 x11 g10 E9
  go_wp2_with fail
  refine (HSg.out _ E11).out.mono ?_
  rintro e w12 ⟨⟨A12, c12, rfl, k12, m12, g12, -⟩, x12⟩
  have HTx := hide (fun (w' : World) (A B : Option Addr) (c9 c8 : Nat) (h1 : Strs w' A [fS]) (h2 : Strs w' B [fS]) => (show Calls Tryz.prog 12 #[.slice A 1 c9, .slice B 1 c8] w' fun e w'' => e = .returned (.bool true) ∧ Ext w' w'' from by
    have := ref_texts A B c9 c8 [fS] [fS] w' h1 h2 (by decide)
    rwa [decide_eq_true rfl] at this))
  go_wp2_with fail
  refine (HTx.out _ A12 _ c12 1 (Strs.ext g12 ((Ext.refl _).alloc _)) (Strs.boxedU fS (heap_alloc_new w12 _))).mono ?_
  rintro e w13 ⟨rfl, x13⟩
  have E13 := E11.trans (x12.trans (((Ext.refl _).alloc _).trans x13))
  clear x12 x13 g12 E11
  go_wp2_with fail
  refine (HR1.out _ E13).out.mono ?_
  rintro e w14 ⟨rfl, x14⟩
  go_wp2_with fail
  refine (HB.out fS fS (by decide) (by decide) w14).out.mono ?_
  rintro e w15 ⟨⟨b4, rfl, n4⟩, x15⟩
  go_wp2_with fail
  refine (HR2.out _ b4 _ ⟨RowOf.block (t := 28) (fr := (0, 0)) treeC [bindT fS fS b4] (heap_alloc_new _ _), fun k hk => by rw [List.mem_singleton] at hk; subst hk; exact n4.ext ((Ext.refl _).alloc _)⟩).out.mono ?_
  rintro e w16 ⟨rfl, x16⟩
  have E16 := E13.trans (x14.trans (x15.trans (((Ext.refl _).alloc _).trans x16)))
  go_wp2
  go_ret
  exact ⟨rfl, XX5.out.trans E16⟩

end Go.Proofs.YtbfggmeppakcgaaGreat

/- Contract: chapter 15's law. -/
namespace Go.Proofs.YtbfggmeppakcgaaGreat
open Go.RowKit Go.Sort Go.Maps

theorem sigT0_size (x : Str) : (sigT0 x).size = 1 := by rw [Tree.size_eq]; rfl
theorem sigT0_in (w : World) (s : Str) (h : s.length ≤ 9223372036854775807) : NodeIn w (sigT0 s) := NodeIn.mk (Nat.le_refl _) (by simp [sigT0, Tree.cap]) h (RowOf.nil _ _ _) (fun k hk => by cases hk)
/-- A slice of one number, alone in its block. -/
def OneSl (w : World) (v : Value) (s : SlV) : Prop := ∃ (b p : Nat), s = ⟨.slice (some ⟨b, 0, none⟩) 1 1, zs [p]⟩ ∧ w.heap[b]? = some (.cells #[.int .i64 (p : Nat)] 3 (0, 0)) ∧ v.ownBlock ≠ some b
theorem OneSl.ok {w : World} {v : Value} {s : SlV} (h : OneSl w v s) : SlOk w s := by
  obtain ⟨b, p, rfl, h1, -⟩ := h
  exact ⟨some ⟨b, 0, none⟩, 1, rfl, Nat.le_refl _, by omega, Ints.blockG [p] h1⟩
def onesG (l : List Nat) : List (List Int) := l.map fun p => zs [p]
theorem plOf_takeN (l : List Tree) {k : Nat} (h : k < l.length) : onesG (placesL (l.take (k + 1))) = onesG (placesL (l.take k)) ++ if (l[k]'h).kind == 31 then [zs [k]] else [] := by
  unfold onesG placesL
  rw [plOf_take l h, List.map_append, List.map_append]
  congr 1
  cases hk : ((l[k]'h).kind == 31) <;> simp

set_option maxRecDepth 100000 in
set_option maxHeartbeats 8000000 in
theorem law_signed (A : Option Addr) (cap : Nat) (l : List Tree) (w : World) (h : NodesIn w A l) (hle : l.length ≤ cap) (hcap : cap ≤ 9223372036854775807) :
    Calls Tryz.prog 3 #[.slice A l.length cap] w fun e w' => e = .returned (.bool true) ∧ Ext w w' := by
  obtain ⟨i0, hi, hz0, hz1, hz2⟩ := info_parts node_info
  obtain ⟨i1, hi1, hy0, hy1, hy2⟩ := info_parts ints_info
  have HFw := hide (l_few15 A cap l w h hle hcap)
  have HAw := hide (fun w' => hide (l_awake15 w'))
  cases hf : fewG A cap l
  · rw [hf] at HFw
    clear h hf
    go_enter Tryz.func3, Tryz.ntmps3
    go_wp2_with fail
    refine HFw.out.mono ?_
    rintro e w1 ⟨rfl, x1⟩
    go_wp2_with fail
    refine (HAw.out w1).out.mono ?_
    rintro e w2 ⟨rfl, x2⟩
    go_wp2
    go_ret
    exact ⟨rfl, x1.trans x2⟩
  · rw [hf] at HFw
    unfold fewG at hf
    rw [Bool.and_eq_true, decide_eq_true_eq] at hf
    obtain ⟨hl30, hsz⟩ := hf
    unfold fewB at hsz
    rw [decide_eq_true_eq] at hsz
    have HSz : Hid (∀ t ∈ l, t.size ≤ 9000) := hide (fun t ht => by have := Tree.size_kid (t := .mk 0 0 0 [] A cap l) (k := t) ht; omega)
    have HK := hide h
    have HTx := hide (fun (t : Tree) (ht : t ∈ l) => (h.kids t ht).txt)
    have HBd := hide (fun w' (e : Ext w w') => hide (u_binds A cap l w' (h.ext e) (by omega)))
    have HTk := hide (fun k (hk : k < l.length) => plOf_takeN l hk)
    have hbl := bindsL_len l
    have HSx : Hid (∀ x ∈ bindsL l, x.length ≤ 9223372036854775807) := hide (fun x hx => by
      unfold bindsL at hx
      obtain ⟨t, ht, rfl⟩ := List.mem_map.1 hx
      exact HTx.out t (List.mem_filter.1 ht).1)
    have HBm : Hid (∀ x, x ∈ bindsL l → x ∈ sigsL (l ++ (bindsL l).map sigT0)) := hide (fun x hx => sigs_sigs l _ hx)
    have HBe : Hid (bindsL (l ++ (bindsL l).map sigT0) = bindsL l) := hide (sigs_binds l _)
    have HPe : Hid (plOf (l ++ (bindsL l).map sigT0) = plOf l) := hide (sigs_pl l _)
    have HSi : Hid (((groupsOf (plOf l).length fun _ _ => false).map fun g => g.map fun v => (placesL (l ++ (bindsL l).map sigT0)).getD v 0) = (placesL l).map fun p => [p]) := hide (singles l _)
    clear h hsz
    go_enter Tryz.func3, Tryz.ntmps3
    go_wp2_with fail
    refine HFw.out.mono ?_
    rintro e w1 ⟨rfl, x1⟩
    have X1 := hide x1
    have hw1 := x1.size
    clear x1 HFw
    go_wp2_with (at_builtin; refine wpList_append_row _ rfl _ _ 22 rfl w1.heap.size 28 i0 _ 5 64 Tryz.underlying22 hi hz0 hz1 hz2 rfl (by decide) (.slice none 0 0) 0 [] rfl (World.ownsRow_nil _ _ _ _) A l.length cap (l.flatMap treeC.f) rfl ?c2 ?c3 ?c4 ?c5 ?c6 ?_)
    case c2 => exact (HK.out.ext X1.out).row
    case c3 => exact one_treesG _
    case c4 => unfold maxLen; omega
    case c5 => omega
    case c6 => exact Nat.le_refl _
    intro v2 w2 ho2 hg2 _
    have X2 : Hid (Ext w1 w2) := hide ((Ext.refl _).grown hg2 (fun k e => by cases e))
    have O2 : Hid (w2.ownsRow w1.heap.size 28 5 v2 l.length (l.flatMap treeC.f)) := hide (by simpa using ho2)
    have hb2 : ∀ k, v2.ownBlock = some k → k < w2.heap.size := fun k hk => (O2.out.lt k hk).2
    clear ho2 hg2
    go_wp2_with fail
    refine (HBd.out _ (X1.out.trans X2.out)).out.mono ?_
    rintro e w3 ⟨⟨A3, c3, rfl, hd1, hd2, hd3, hd4⟩, x3⟩
    have S3 := hide hd3
    have X3 := hide (X2.out.trans x3)
    have O3 := hide (own_extB O2.out x3)
    have HN3 : Hid (∀ c o, A3 = some ⟨c, o, none⟩ → w2.heap.size ≤ c) := hide hd4
    have hw3 := x3.size
    have hw13 := X3.out.size
    clear hd3 hd4 x3 HBd X2 O2
    generalize bindsL l = S at *
    go_wp2
    go_loopw [3, 5] (fun v i wr => ∃ k : Nat, k ≤ S.length ∧ i = .int .i64 k ∧ Hid (Ext w1 wr) ∧ w3.heap.size ≤ wr.heap.size ∧ Hid (Strs wr A3 S) ∧ (∀ c o, A3 = some ⟨c, o, none⟩ → v.ownBlock ≠ some c) ∧ Hid (wr.ownsRow w1.heap.size 28 5 v (l ++ (S.take k).map sigT0).length ((l ++ (S.take k).map sigT0).flatMap treeC.f))) (fun _ i _ => S.length - (intOf i).toNat)
    case atStart => exact ⟨0, Nat.zero_le _, rfl, X3, Nat.le_refl _, S3, fun c o e e9 => by have := HN3.out c o e; have := hb2 c e9; omega, hide (by simpa using O3.out)⟩
    case round =>
      obtain ⟨k, hk, rfl, HX, hwr, HS4, hne, HO⟩ := hrel
      by_cases hlt : k < S.length
      · have hlt' : (k : Int) < (S.length : Int) := by omega
        have hk0 : (0 : Int) ≤ (k : Int) := by omega
        have hlt3 : Hid (∀ c o, A3 = some ⟨c, o, none⟩ → c < wr.heap.size) := hide (fun c o e => by
          obtain ⟨b, o', e', hb, -⟩ := HS4.out.at_ hlt
          rw [e] at e'
          injection e' with e'
          injection e' with e'
          omega)
        obtain ⟨b, o, rfl, hb, q0⟩ := HS4.out.at_ hlt
        have hxs := HSx.out _ (List.getElem_mem hlt)
        have Htk : Hid (S.take (k + 1) = S.take k ++ [S.getD k []]) := hide (by rw [List.take_succ_eq_append_getElem hlt, List.getD_eq_getElem?_getD, List.getElem?_eq_getElem hlt]; rfl)
        have hln : (l ++ (S.take k).map sigT0).length ≤ 60 := by simp; omega
        generalize S.getD k [] = x at *
        generalize hT : (l ++ (S.take k).map sigT0) = T at *
        go_wp2_with (at_builtin; refine wpList_append_row _ rfl _ _ 22 rfl w1.heap.size 28 i0 _ 5 64 Tryz.underlying22 hi hz0 hz1 hz2 rfl (by decide) u3 T.length (T.flatMap treeC.f) rfl (own_extB HO.out ((Ext.refl _).alloc _)) _ 1 1 ([sigT0 x].flatMap treeC.f) rfl ?c2 ?c3 ?c4 ?c5 ?c6 ?_)
        case c2 => exact RowOf.block (t := 28) (fr := (0, 0)) treeC [sigT0 x] (heap_alloc_new _ _)
        case c3 => exact one_treesG _
        case c4 => unfold maxLen; omega
        case c5 => omega
        case c6 => first | omega | (simp; omega)
        intro v4 w4 ho4 hg4 hat4
        have X4 := hide (Ext.appU (HX.out.alloc _) hg4 (own_extB HO.out ((Ext.refl _).alloc _)) (Nat.le_refl _))
        have O4 : Hid (w4.ownsRow w1.heap.size 28 5 v4 (T ++ [sigT0 x]).length ((T ++ [sigT0 x]).flatMap treeC.f)) := hide (by rw [List.flatMap_append, List.length_append]; exact ho4)
        have hw4 : wr.heap.size ≤ w4.heap.size := by have := hg4.size; simp at this; omega
        have S4 : Hid (Strs w4 (some ⟨b, o, none⟩) S) := hide (Row.keep (HS4.out.ext ((Ext.refl _).alloc _)) hg4.size (fun c o' e hc => hg4.block c hc (fun e9 => hne c o' e e9.symm)))
        have hne4 : ∀ c o', some (⟨b, o, none⟩ : Addr) = some ⟨c, o', none⟩ → v4.ownBlock ≠ some c := fun c o' e e9 => by
          rcases hat4 with h9 | h9
          · exact hne c o' e (by rw [← h9]; exact e9)
          · rw [e9] at h9
            injection h9 with h9
            have := hlt3.out c o' e
            first | omega | (simp at h9; omega)
        clear ho4 hg4 hat4
        go_wp2
        go_roundw
        case rel => exact ⟨k + 1, hlt, by go_num, X4, by omega, S4, hne4, hide (by rw [Htk.out, List.map_append, ← List.append_assoc, hT]; exact O4.out)⟩
        case measure => simp [intOf]; omega
      · have hge : ¬ (k : Int) < (S.length : Int) := by omega
        have hkl : k = S.length := by omega
        rw [hkl, List.take_length] at HO
        rename World => w5
        have hTl : (l ++ S.map sigT0).length ≤ 60 := by simp; omega
        have HTz : Hid (∀ t ∈ l ++ S.map sigT0, t.size ≤ 9000) := hide (fun t ht => by
          rcases List.mem_append.1 ht with ht | ht
          · exact HSz.out t ht
          · obtain ⟨x, -, rfl⟩ := List.mem_map.1 ht
            rw [sigT0_size]
            omega)
        obtain ⟨A5, c5, rfl, g1, g2, g3, -⟩ := RowOf.own treeC HO.out
        have HNs : Hid (NodesIn w5 A5 (l ++ S.map sigT0)) := hide ⟨g3, fun t ht => by
          rcases List.mem_append.1 ht with ht | ht
          · exact (HK.out.kids t ht).ext (X1.out.trans HX.out)
          · obtain ⟨x, hx, rfl⟩ := List.mem_map.1 ht
            exact sigT0_in _ _ (HSx.out x hx)⟩
        have X5 := hide (X1.out.trans HX.out)
        have HF9 : Hid (∀ x, lookI (delD (sigsL (l ++ S.map sigT0)) (idxD (bindsL (l ++ S.map sigT0)))) x = (fun _ => none : Str → Option Int) x) := hide (all_signed (fun x hx => HBm.out x (by rw [← HBe.out]; exact hx)))
        have HGr := hide (fun w' (e : Ext w5 w') => hide (g_groups15 A5 c5 (l ++ S.map sigT0) w' (HNs.out.ext e) (by omega) HTz.out (fun _ => none) HF9.out ((plOf (l ++ S.map sigT0)).map fun p => useN p.1) rfl (fun _ _ _ _ _ _ h9 _ => by cases h9) (plOf l).length (by rw [HPe.out]) (fun _ _ => false) (fun i j _ => by rw [edges_no]; exact ⟨fun h9 => (by cases h9), fun h9 => absurd h9 (sr_no i j)⟩) ((placesL l).map fun p => [p]) HSi.out.symm))
        clear g3 HO HNs HF9 HTz HS4 hne HX X3 S3 HN3 hb2 HBm HBe HPe HSi HSx O3
        generalize (l ++ S.map sigT0) = T at *
        have HTk0 : Hid (onesG (placesL (l.take 0)) = []) := hide rfl
        go_wp2
        go_loopw [6, 7] (fun v i wr => ∃ k : Nat, k ≤ l.length ∧ i = .int .i64 k ∧ Hid (Ext w5 wr) ∧ ∃ out : List SlV, Hid (out.map (·.l) = onesG (placesL (l.take k))) ∧ out.length ≤ k ∧ Hid (wr.ownsRow w5.heap.size 30 1 v out.length (out.map (·.val))) ∧ Hid (∀ s ∈ out, OneSl wr v s)) (fun _ i _ => l.length - (intOf i).toNat)
        case atStart => exact ⟨0, Nat.zero_le _, rfl, hide (Ext.refl _), [], hide rfl, Nat.le_refl _, hide (World.ownsRow_nil _ _ _ _), hide (fun s hs => by cases hs)⟩
        case round =>
          obtain ⟨k, hk, rfl, HX6, out, Hol, hon, HO6, HOn⟩ := hrel
          by_cases hlt : k < l.length
          · have hlt' : (k : Int) < (l.length : Int) := by omega
            have hk0 : (0 : Int) ≤ (k : Int) := by omega
            obtain ⟨b, o, rfl, hb, q0, q1, q2, q3, q4⟩ := (HK.out.ext (X5.out.trans HX6.out)).at_ hlt
            have HTe := hide (HTk.out k hlt)
            generalize l[k]'hlt = c at *
            cases hc : (c.kind == 31)
            · rw [hc] at HTe
              go_wp2
              go_roundw
              case rel => exact ⟨k + 1, hlt, by go_num, HX6, out, hide (by rw [HTe.out, Hol.out]; simp), by omega, HO6, HOn⟩
              case measure => simp [intOf]; omega
            · rw [hc] at HTe
              have hu6 : ∀ c, u6.ownBlock = some c → c < wr.heap.size := fun c h9 => (HO6.out.lt c h9).2
              go_wp2_with (at_builtin; refine wpList_append_row _ rfl _ _ 29 rfl w5.heap.size 30 i1 _ 1 24 Tryz.underlying29 hi1 hy0 hy1 hy2 rfl (by decide) u6 out.length (out.map (·.val)) rfl (own_extB HO6.out (((Ext.refl _).alloc _).alloc _)) _ 1 1 [.slice (some ⟨wr.heap.size, 0, none⟩) 1 1] rfl ?c2 ?c3 ?c4 ?c5 ?c6 ?_)
              case c2 => exact Row.boxV _ (at_newB _ _ _ (by simp))
              case c3 => first | rfl | (intro y hy; simp at hy; subst hy; rfl)
              case c4 => unfold maxLen; omega
              case c5 => omega
              case c6 => have := HX6.out.size; simp; omega
              intro v7 w7 ho7 hg7 hat7
              have X7 := hide (Ext.appU ((HX6.out.alloc _).alloc _) hg7 (own_extB HO6.out (((Ext.refl _).alloc _).alloc _)) (Nat.le_refl _))
              have O7 : Hid (w7.ownsRow w5.heap.size 30 1 v7 (out ++ [SlV.mk (.slice (some ⟨wr.heap.size, 0, none⟩) 1 1) (zs [k])]).length ((out ++ [SlV.mk (.slice (some ⟨wr.heap.size, 0, none⟩) 1 1) (zs [k])]).map (·.val))) := hide (by rw [List.map_append, List.length_append]; exact ho7)
              have hb7 : ∀ c, v7.ownBlock = some c → (u6.ownBlock = some c ∨ wr.heap.size + 2 = c) := fun c h9 => by
                rcases hat7 with h8 | h8
                · exact .inl (by rw [← h8]; exact h9)
                · rw [h9] at h8
                  injection h8 with h8
                  exact .inr (by first | omega | (simp at h8; omega))
              have On7 : Hid (∀ s ∈ out ++ [SlV.mk (.slice (some ⟨wr.heap.size, 0, none⟩) 1 1) (zs [k])], OneSl w7 v7 s) := hide (fun s hs => by
                rcases List.mem_append.1 hs with hs | hs
                · obtain ⟨b9, p9, e9, h9, hn9⟩ := HOn.out s hs
                  have hb9 : b9 < wr.heap.size := lt_of_obj h9
                  refine ⟨b9, p9, e9, ?_, fun e8 => ?_⟩
                  · exact (hg7.block b9 (by simp; omega) (fun e8 => hn9 e8.symm)).trans ((((Ext.refl wr).alloc _).alloc _).heap hb9 |>.trans h9)
                  · rcases hb7 _ e8 with h8 | h8
                    · exact hn9 h8
                    · omega
                · rw [List.mem_singleton] at hs
                  subst hs
                  refine ⟨wr.heap.size, k, rfl, ?_, fun e8 => ?_⟩
                  · exact (hg7.block wr.heap.size (by simp; omega) (fun e8 => by have := hu6 _ e8.symm; omega)).trans (((Ext.refl _).alloc _).heap (by simp) |>.trans (heap_alloc_new _ _))
                  · rcases hb7 _ e8 with h8 | h8
                    · have := hu6 _ h8; omega
                    · omega)
              clear ho7 hg7 hat7
              go_wp2
              go_roundw
              case rel => exact ⟨k + 1, hlt, by go_num, X7, _, hide (by rw [HTe.out, List.map_append, Hol.out, if_pos trivial]; rfl), by simp; omega, O7, On7⟩
              case measure => simp [intOf]; omega
          · have hge9 : ¬ (k : Int) < (l.length : Int) := by omega
            have hk9 : k = l.length := by omega
            rw [hk9, List.take_length] at Hol
            rename World => w6
            obtain ⟨A6, c6, hv6, g61, g62, g63, -⟩ := RowOf.own slvC (l := out) (show w6.ownsRow _ _ _ _ _ (out.flatMap fun s => [s.val]) by rw [flat_one]; exact HO6.out)
            rename Value => u6
            subst hv6
            have HGs : Hid (Grps w6 A6 ((placesL l).map fun p => [p])) := hide ⟨out, by rw [Hol.out]; unfold onesG; rw [List.map_map]; rfl, g63, fun s hs => (HOn.out s hs).ok⟩
            have hgl : ((placesL l).map fun p => [p]).length = out.length := by have := congrArg List.length Hol.out; simpa [onesG] using this.symm
            have hgo : out.length ≤ 1000 := by omega
            have HGr6 := hide (HGr.out w6 HX6.out).out
            clear HO6 HOn Hol g63 HGr
            generalize ((placesL l).map fun p => [p]) = G at *
            rw [hgl] at HGr6
            go_wp2_with fail
            refine HGr6.out.mono ?_
            rintro e w7 ⟨⟨A7, c7, rfl, g71, g72, g73⟩, x7⟩
            have HSm := hide (same_groupsG A7 A6 c7 c6 G w7 g73 (HGs.out.ext x7) (by omega))
            rw [hgl] at HSm
            go_wp2_with fail
            refine HSm.out.mono ?_
            rintro e w8 ⟨rfl, x8⟩
            go_wp2_with fail
            refine (HAw.out w8).out.mono ?_
            rintro e w9 ⟨rfl, x9⟩
            go_wp2
            go_ret
            exact ⟨rfl, X5.out.trans (HX6.out.trans (x7.trans (x8.trans x9)))⟩

end Go.Proofs.YtbfggmeppakcgaaGreat
