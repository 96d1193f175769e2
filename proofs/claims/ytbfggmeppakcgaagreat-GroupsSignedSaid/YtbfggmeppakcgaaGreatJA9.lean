/- Contracts on nodes: types, patterns, contexts. (A program of ours has printed the walks.) -/
import Derived.Test.YtbfggmeppakcgaaGreatJA8
import Derived.Shelf.Abstract
/- Contracts on nodes: types, patterns, contexts. (A program of ours has printed the walks.) -/
namespace Go.Proofs.YtbfggmeppakcgaaGreat
open Go.RowKit Go.Shelf

theorem nispred_opens : Opens 97 := enters_of Tryz.func97 (by kernel_rfl) rfl
theorem nistype_opens : Opens 98 := enters_of Tryz.func98 (by kernel_rfl) rfl
theorem nispat_opens : Opens 87 := enters_of Tryz.func87 (by kernel_rfl) rfl
section
variable {t : Tree}
theorem pat_var (h : t.kind = 11) : patB t = (namedB varB t && decide (t.kids.length = 0)) := by rw [patB_eq]; simp [h]
theorem pat_any (h : t.kind = 12) : patB t = (bareB t && decide (t.kids.length = 0)) := by rw [patB_eq]; simp [h]
theorem pat_int (h : t.kind = 13) : patB t = ((t.text == []) && decide (0 ≤ t.n) && decide (t.kids.length = 0)) := by rw [patB_eq]; simp [h]
theorem pat_con (h : t.kind = 14) : patB t = (namedB conB t && t.kids.all patB) := by rw [patB_eq]; simp [h]
theorem pat_else (h1 : t.kind ≠ 11) (h2 : t.kind ≠ 12) (h3 : t.kind ≠ 13) (h4 : t.kind ≠ 14) : patB t = false := by rw [patB_eq]; simp [h1, h2, h3, h4]
theorem type_var (h : t.kind = 1) : typeB t = (namedB varB t && decide (t.kids.length = 0)) := by rw [typeB_eq]; simp [h]
theorem type_fun (h : t.kind = 2) (hn : t.n = 0) (hs : t.text = [45, 62]) : typeB t = (decide (t.kids.length = 2) && t.kids.all typeB) := by rw [typeB_eq]; simp [h, hn, hs]
theorem type_con (h : t.kind = 2) (hn : t.n = 0) (hs : t.text ≠ [45, 62]) : typeB t = (conB t.text && t.kids.all typeB) := by rw [typeB_eq]; simp [h, hn, hs]
theorem type_elseN (h : t.kind = 2) (hn : t.n ≠ 0) : typeB t = false := by rw [typeB_eq]; simp [h, hn]
theorem type_else (h : t.kind ≠ 1) (h2 : t.kind ≠ 2) : typeB t = false := by rw [typeB_eq]; simp [h, h2]
end

set_option maxRecDepth 10000 in
set_option maxHeartbeats 1000000 in
theorem n_pat_var (t : Tree) (hk : t.kind = 11) : Asks 87 patB t := by
  intro w h
  have HE : Hid (patB t = (namedB varB t && decide (t.kids.length = 0))) := hide (pat_var hk)
  have Hk := hide h.nodes
  have hle := h.le
  have hmx := h.max
  have HB0 := hide (NBox.new w t)
  have X0 : Hid (Ext w (w.alloc (.cells #[.int .i64 t.kind, .int .i64 t.pos, .int .i64 t.n, encStr t.text, .slice t.A t.kids.length t.cap] 28))) := hide ((Ext.refl w).alloc _)
  have hk11 : (t.kind == 11) = true := by rw [hk]; rfl
  clear hk
  have H0 := hide (fun w' (e : Ext w w') => hide (n_named 68 varB n_var_as nvar_opens t w' (h.ext e)))
  generalize patB t = R at *
  generalize namedB varB t = B0 at *
  unfold treeV at *
  have HN := hide h
  clear h
  generalize hA0 : t.A = A0 at *
  have HA0 := hide hA0
  clear hA0
  cases B0
  · have hR : R = false := by rw [HE.out]; simp
    clear HE
    subst hR
    go_enter Tryz.func87, Tryz.ntmps87
    go_wp2_with fail
    refine (H0.out _ X0.out).out.mono ?_
    rintro e w1 ⟨rfl, hx⟩
    have X1 := hide (X0.out.trans hx)
    have HB1 := hide (HB0.out.ext hx)
    clear hx
    have c0_0 := HB1.out.c0
    have c1_0 := HB1.out.c1
    have c2_0 := HB1.out.c2
    have c3_0 := HB1.out.c3
    have c4_0 := HB1.out.c4
    rw [HA0.out] at c4_0
    go_wp2
    go_ret
    exact ⟨rfl, X1.out⟩
  · by_cases hp1 : t.kids.length = 0
    · have hpi : ((t.kids.length : Int) == 0) = true := beq_iff_eq.2 (by omega)
      have HP1 := hide hp1
      clear hp1
      have hR : R = true := by rw [HE.out]; simp [HP1.out]
      clear HE
      subst hR
      go_enter Tryz.func87, Tryz.ntmps87
      go_wp2_with fail
      refine (H0.out _ X0.out).out.mono ?_
      rintro e w1 ⟨rfl, hx⟩
      have X1 := hide (X0.out.trans hx)
      have HB1 := hide (HB0.out.ext hx)
      clear hx
      have c0_0 := HB1.out.c0
      have c1_0 := HB1.out.c1
      have c2_0 := HB1.out.c2
      have c3_0 := HB1.out.c3
      have c4_0 := HB1.out.c4
      rw [HA0.out] at c4_0
      go_wp2
      go_ret
      exact ⟨rfl, X1.out⟩
    · have hpi : ((t.kids.length : Int) == 0) = false := beq_eq_false_iff_ne.2 (by omega)
      have HP1 := hide hp1
      clear hp1
      have hR : R = false := by rw [HE.out]; simp [HP1.out]
      clear HE
      subst hR
      go_enter Tryz.func87, Tryz.ntmps87
      go_wp2_with fail
      refine (H0.out _ X0.out).out.mono ?_
      rintro e w1 ⟨rfl, hx⟩
      have X1 := hide (X0.out.trans hx)
      have HB1 := hide (HB0.out.ext hx)
      clear hx
      have c0_0 := HB1.out.c0
      have c1_0 := HB1.out.c1
      have c2_0 := HB1.out.c2
      have c3_0 := HB1.out.c3
      have c4_0 := HB1.out.c4
      rw [HA0.out] at c4_0
      go_wp2
      go_ret
      exact ⟨rfl, X1.out⟩

set_option maxRecDepth 10000 in
set_option maxHeartbeats 1000000 in
theorem n_pat_any (t : Tree) (hk : t.kind = 12) : Asks 87 patB t := by
  intro w h
  have HE : Hid (patB t = (bareB t && decide (t.kids.length = 0))) := hide (pat_any hk)
  have Hk := hide h.nodes
  have hle := h.le
  have hmx := h.max
  have HB0 := hide (NBox.new w t)
  have X0 : Hid (Ext w (w.alloc (.cells #[.int .i64 t.kind, .int .i64 t.pos, .int .i64 t.n, encStr t.text, .slice t.A t.kids.length t.cap] 28))) := hide ((Ext.refl w).alloc _)
  have hk11 : (t.kind == 11) = false := by rw [hk]; rfl
  have hk12 : (t.kind == 12) = true := by rw [hk]; rfl
  clear hk
  have H0 := hide (fun w' (e : Ext w w') => hide (n_bare t w' (h.ext e)))
  generalize patB t = R at *
  generalize bareB t = B0 at *
  unfold treeV at *
  have HN := hide h
  clear h
  generalize hA0 : t.A = A0 at *
  have HA0 := hide hA0
  clear hA0
  cases B0
  · have hR : R = false := by rw [HE.out]; simp
    clear HE
    subst hR
    go_enter Tryz.func87, Tryz.ntmps87
    go_wp2_with fail
    refine (H0.out _ X0.out).out.mono ?_
    rintro e w1 ⟨rfl, hx⟩
    have X1 := hide (X0.out.trans hx)
    have HB1 := hide (HB0.out.ext hx)
    clear hx
    have c0_0 := HB1.out.c0
    have c1_0 := HB1.out.c1
    have c2_0 := HB1.out.c2
    have c3_0 := HB1.out.c3
    have c4_0 := HB1.out.c4
    rw [HA0.out] at c4_0
    go_wp2
    go_ret
    exact ⟨rfl, X1.out⟩
  · by_cases hp1 : t.kids.length = 0
    · have hpi : ((t.kids.length : Int) == 0) = true := beq_iff_eq.2 (by omega)
      have HP1 := hide hp1
      clear hp1
      have hR : R = true := by rw [HE.out]; simp [HP1.out]
      clear HE
      subst hR
      go_enter Tryz.func87, Tryz.ntmps87
      go_wp2_with fail
      refine (H0.out _ X0.out).out.mono ?_
      rintro e w1 ⟨rfl, hx⟩
      have X1 := hide (X0.out.trans hx)
      have HB1 := hide (HB0.out.ext hx)
      clear hx
      have c0_0 := HB1.out.c0
      have c1_0 := HB1.out.c1
      have c2_0 := HB1.out.c2
      have c3_0 := HB1.out.c3
      have c4_0 := HB1.out.c4
      rw [HA0.out] at c4_0
      go_wp2
      go_ret
      exact ⟨rfl, X1.out⟩
    · have hpi : ((t.kids.length : Int) == 0) = false := beq_eq_false_iff_ne.2 (by omega)
      have HP1 := hide hp1
      clear hp1
      have hR : R = false := by rw [HE.out]; simp [HP1.out]
      clear HE
      subst hR
      go_enter Tryz.func87, Tryz.ntmps87
      go_wp2_with fail
      refine (H0.out _ X0.out).out.mono ?_
      rintro e w1 ⟨rfl, hx⟩
      have X1 := hide (X0.out.trans hx)
      have HB1 := hide (HB0.out.ext hx)
      clear hx
      have c0_0 := HB1.out.c0
      have c1_0 := HB1.out.c1
      have c2_0 := HB1.out.c2
      have c3_0 := HB1.out.c3
      have c4_0 := HB1.out.c4
      rw [HA0.out] at c4_0
      go_wp2
      go_ret
      exact ⟨rfl, X1.out⟩

set_option maxRecDepth 10000 in
set_option maxHeartbeats 1000000 in
theorem n_pat_int (t : Tree) (hk : t.kind = 13) : Asks 87 patB t := by
  intro w h
  have HE : Hid (patB t = ((t.text == []) && decide (0 ≤ t.n) && decide (t.kids.length = 0))) := hide (pat_int hk)
  have Hk := hide h.nodes
  have hle := h.le
  have hmx := h.max
  have HB0 := hide (NBox.new w t)
  have X0 : Hid (Ext w (w.alloc (.cells #[.int .i64 t.kind, .int .i64 t.pos, .int .i64 t.n, encStr t.text, .slice t.A t.kids.length t.cap] 28))) := hide ((Ext.refl w).alloc _)
  have hk11 : (t.kind == 11) = false := by rw [hk]; rfl
  have hk12 : (t.kind == 12) = false := by rw [hk]; rfl
  have hk13 : (t.kind == 13) = true := by rw [hk]; rfl
  clear hk
  generalize patB t = R at *
  unfold treeV at *
  have HN := hide h
  clear h
  generalize hA0 : t.A = A0 at *
  have HA0 := hide hA0
  clear hA0
  by_cases hp0 : (t.text == []) = true
  · have hs0 : (t.text == []) = true := hp0
    have HP0 := hide hp0
    clear hp0
    by_cases hp1 : 0 ≤ t.n
    · have hn0 : t.n ≥ 0 := hp1
      have HP1 := hide hp1
      clear hp1
      by_cases hp2 : t.kids.length = 0
      · have hpi : ((t.kids.length : Int) == 0) = true := beq_iff_eq.2 (by omega)
        have HP2 := hide hp2
        clear hp2
        have hR : R = true := by rw [HE.out]; simp [HP0.out, HP1.out, HP2.out]
        clear HE
        subst hR
        go_enter Tryz.func87, Tryz.ntmps87
        go_wp2
        go_ret
        exact ⟨rfl, (by repeat (first | exact Ext.refl _ | exact Ext.pre (by simp) | exact Ext.alloc (by assumption) _ | refine Ext.alloc ?_ _ |  refine Ext.more ?_ _ _ | refine Ext.drew ?_ | refine Ext.drewN ?_ _))⟩
      · have hpi : ((t.kids.length : Int) == 0) = false := beq_eq_false_iff_ne.2 (by omega)
        have HP2 := hide hp2
        clear hp2
        have hR : R = false := by rw [HE.out]; simp [HP2.out]
        clear HE
        subst hR
        go_enter Tryz.func87, Tryz.ntmps87
        go_wp2
        go_ret
        exact ⟨rfl, (by repeat (first | exact Ext.refl _ | exact Ext.pre (by simp) | exact Ext.alloc (by assumption) _ | refine Ext.alloc ?_ _ |  refine Ext.more ?_ _ _ | refine Ext.drew ?_ | refine Ext.drewN ?_ _))⟩
    · have hn0 : ¬ t.n ≥ 0 := hp1
      have HP1 := hide hp1
      clear hp1
      have hR : R = false := by rw [HE.out]; simp [HP1.out]
      clear HE
      subst hR
      go_enter Tryz.func87, Tryz.ntmps87
      go_wp2
      go_ret
      exact ⟨rfl, (by repeat (first | exact Ext.refl _ | exact Ext.pre (by simp) | exact Ext.alloc (by assumption) _ | refine Ext.alloc ?_ _ |  refine Ext.more ?_ _ _ | refine Ext.drew ?_ | refine Ext.drewN ?_ _))⟩
  · have hs0 : (t.text == []) = false := by simpa using hp0
    have HP0 := hide hp0
    clear hp0
    have hR : R = false := by rw [HE.out]; simp [HP0.out]
    clear HE
    subst hR
    go_enter Tryz.func87, Tryz.ntmps87
    go_wp2
    go_ret
    exact ⟨rfl, (by repeat (first | exact Ext.refl _ | exact Ext.pre (by simp) | exact Ext.alloc (by assumption) _ | refine Ext.alloc ?_ _ |  refine Ext.more ?_ _ _ | refine Ext.drew ?_ | refine Ext.drewN ?_ _))⟩

set_option maxRecDepth 10000 in
set_option maxHeartbeats 1000000 in
theorem n_pat_con (t : Tree) (hk : t.kind = 14) (ih : ∀ k ∈ t.kids, Asks 87 patB k) : Asks 87 patB t := by
  intro w h
  have HE : Hid (patB t = (namedB conB t && t.kids.all patB)) := hide (pat_con hk)
  have Hk := hide h.nodes
  have hle := h.le
  have hmx := h.max
  have HB0 := hide (NBox.new w t)
  have X0 : Hid (Ext w (w.alloc (.cells #[.int .i64 t.kind, .int .i64 t.pos, .int .i64 t.n, encStr t.text, .slice t.A t.kids.length t.cap] 28))) := hide ((Ext.refl w).alloc _)
  have hk11 : (t.kind == 11) = false := by rw [hk]; rfl
  have hk12 : (t.kind == 12) = false := by rw [hk]; rfl
  have hk13 : (t.kind == 13) = false := by rw [hk]; rfl
  have hk14 : (t.kind == 14) = true := by rw [hk]; rfl
  clear hk
  have H0 := hide (fun w' (e : Ext w w') => hide (n_named 69 conB n_con_as ncon_opens t w' (h.ext e)))
  have H1 := hide (fun w' (e : Ext w w') => hide (n_each 87 patB nispat_opens t.A t.cap t.kids w' (h.nodes.ext e) (by omega) (fun k hk => ih k hk)))
  generalize patB t = R at *
  generalize namedB conB t = B0 at *
  generalize t.kids.all patB = B1 at *
  unfold treeV at *
  have HN := hide h
  clear h
  generalize hA0 : t.A = A0 at *
  have HA0 := hide hA0
  clear hA0
  cases B0
  · have hR : R = false := by rw [HE.out]; simp
    clear HE
    subst hR
    go_enter Tryz.func87, Tryz.ntmps87
    go_wp2_with fail
    refine (H0.out _ X0.out).out.mono ?_
    rintro e w1 ⟨rfl, hx⟩
    have X1 := hide (X0.out.trans hx)
    have HB1 := hide (HB0.out.ext hx)
    clear hx
    have c0_0 := HB1.out.c0
    have c1_0 := HB1.out.c1
    have c2_0 := HB1.out.c2
    have c3_0 := HB1.out.c3
    have c4_0 := HB1.out.c4
    rw [HA0.out] at c4_0
    go_wp2
    go_ret
    exact ⟨rfl, X1.out⟩
  · have hR : R = B1 := by rw [HE.out]; simp
    clear HE
    subst hR
    go_enter Tryz.func87, Tryz.ntmps87
    go_wp2_with fail
    refine (H0.out _ X0.out).out.mono ?_
    rintro e w1 ⟨rfl, hx⟩
    have X1 := hide (X0.out.trans hx)
    have HB1 := hide (HB0.out.ext hx)
    clear hx
    have c0_0 := HB1.out.c0
    have c1_0 := HB1.out.c1
    have c2_0 := HB1.out.c2
    have c3_0 := HB1.out.c3
    have c4_0 := HB1.out.c4
    rw [HA0.out] at c4_0
    go_wp2_with fail
    refine (H1.out _ X1.out).out.mono ?_
    rintro e w2 ⟨rfl, hx⟩
    have X2 := hide (X1.out.trans hx)
    have HB2 := hide (HB1.out.ext hx)
    clear hx
    have c0_1 := HB2.out.c0
    have c1_1 := HB2.out.c1
    have c2_1 := HB2.out.c2
    have c3_1 := HB2.out.c3
    have c4_1 := HB2.out.c4
    rw [HA0.out] at c4_1
    go_wp2
    go_ret
    exact ⟨rfl, X2.out⟩

set_option maxRecDepth 10000 in
set_option maxHeartbeats 1000000 in
theorem n_pat_else (t : Tree) (h1 : t.kind ≠ 11) (h2 : t.kind ≠ 12) (h3 : t.kind ≠ 13) (h4 : t.kind ≠ 14) : Asks 87 patB t := by
  intro w h
  have HE : Hid (patB t = false) := hide (pat_else h1 h2 h3 h4)
  have Hk := hide h.nodes
  have hle := h.le
  have hmx := h.max
  have HB0 := hide (NBox.new w t)
  have X0 : Hid (Ext w (w.alloc (.cells #[.int .i64 t.kind, .int .i64 t.pos, .int .i64 t.n, encStr t.text, .slice t.A t.kids.length t.cap] 28))) := hide ((Ext.refl w).alloc _)
  have hk11 : (t.kind == 11) = false := by simpa using h1
  clear h1
  have hk12 : (t.kind == 12) = false := by simpa using h2
  clear h2
  have hk13 : (t.kind == 13) = false := by simpa using h3
  clear h3
  have hk14 : (t.kind == 14) = false := by simpa using h4
  clear h4
  generalize patB t = R at *
  unfold treeV at *
  have HN := hide h
  clear h
  generalize hA0 : t.A = A0 at *
  have HA0 := hide hA0
  clear hA0
  have hR : R = false := HE.out
  clear HE
  subst hR
  go_enter Tryz.func87, Tryz.ntmps87
  go_wp2
  go_ret
  exact ⟨rfl, (by repeat (first | exact Ext.refl _ | exact Ext.pre (by simp) | exact Ext.alloc (by assumption) _ | refine Ext.alloc ?_ _ |  refine Ext.more ?_ _ _ | refine Ext.drew ?_ | refine Ext.drewN ?_ _))⟩

set_option maxRecDepth 10000 in
set_option maxHeartbeats 1000000 in
theorem n_type_var (t : Tree) (hk : t.kind = 1) : Asks 98 typeB t := by
  intro w h
  have HE : Hid (typeB t = (namedB varB t && decide (t.kids.length = 0))) := hide (type_var hk)
  have Hk := hide h.nodes
  have hle := h.le
  have hmx := h.max
  have HB0 := hide (NBox.new w t)
  have X0 : Hid (Ext w (w.alloc (.cells #[.int .i64 t.kind, .int .i64 t.pos, .int .i64 t.n, encStr t.text, .slice t.A t.kids.length t.cap] 28))) := hide ((Ext.refl w).alloc _)
  have hk1 : (t.kind == 1) = true := by rw [hk]; rfl
  clear hk
  have H0 := hide (fun w' (e : Ext w w') => hide (n_named 68 varB n_var_as nvar_opens t w' (h.ext e)))
  generalize typeB t = R at *
  generalize namedB varB t = B0 at *
  unfold treeV at *
  have HN := hide h
  clear h
  generalize hA0 : t.A = A0 at *
  have HA0 := hide hA0
  clear hA0
  cases B0
  · have hR : R = false := by rw [HE.out]; simp
    clear HE
    subst hR
    go_enter Tryz.func98, Tryz.ntmps98
    go_wp2_with fail
    refine (H0.out _ X0.out).out.mono ?_
    rintro e w1 ⟨rfl, hx⟩
    have X1 := hide (X0.out.trans hx)
    have HB1 := hide (HB0.out.ext hx)
    clear hx
    have c0_0 := HB1.out.c0
    have c1_0 := HB1.out.c1
    have c2_0 := HB1.out.c2
    have c3_0 := HB1.out.c3
    have c4_0 := HB1.out.c4
    rw [HA0.out] at c4_0
    go_wp2
    go_ret
    exact ⟨rfl, X1.out⟩
  · by_cases hp1 : t.kids.length = 0
    · have hpi : ((t.kids.length : Int) == 0) = true := beq_iff_eq.2 (by omega)
      have HP1 := hide hp1
      clear hp1
      have hR : R = true := by rw [HE.out]; simp [HP1.out]
      clear HE
      subst hR
      go_enter Tryz.func98, Tryz.ntmps98
      go_wp2_with fail
      refine (H0.out _ X0.out).out.mono ?_
      rintro e w1 ⟨rfl, hx⟩
      have X1 := hide (X0.out.trans hx)
      have HB1 := hide (HB0.out.ext hx)
      clear hx
      have c0_0 := HB1.out.c0
      have c1_0 := HB1.out.c1
      have c2_0 := HB1.out.c2
      have c3_0 := HB1.out.c3
      have c4_0 := HB1.out.c4
      rw [HA0.out] at c4_0
      go_wp2
      go_ret
      exact ⟨rfl, X1.out⟩
    · have hpi : ((t.kids.length : Int) == 0) = false := beq_eq_false_iff_ne.2 (by omega)
      have HP1 := hide hp1
      clear hp1
      have hR : R = false := by rw [HE.out]; simp [HP1.out]
      clear HE
      subst hR
      go_enter Tryz.func98, Tryz.ntmps98
      go_wp2_with fail
      refine (H0.out _ X0.out).out.mono ?_
      rintro e w1 ⟨rfl, hx⟩
      have X1 := hide (X0.out.trans hx)
      have HB1 := hide (HB0.out.ext hx)
      clear hx
      have c0_0 := HB1.out.c0
      have c1_0 := HB1.out.c1
      have c2_0 := HB1.out.c2
      have c3_0 := HB1.out.c3
      have c4_0 := HB1.out.c4
      rw [HA0.out] at c4_0
      go_wp2
      go_ret
      exact ⟨rfl, X1.out⟩

set_option maxRecDepth 10000 in
set_option maxHeartbeats 1000000 in
theorem n_type_fun (t : Tree) (hk : t.kind = 2) (hn : t.n = 0) (hs : t.text = [45, 62]) (ih : ∀ k ∈ t.kids, Asks 98 typeB k) : Asks 98 typeB t := by
  intro w h
  have HE : Hid (typeB t = (decide (t.kids.length = 2) && t.kids.all typeB)) := hide (type_fun hk hn hs)
  have Hk := hide h.nodes
  have hle := h.le
  have hmx := h.max
  have HB0 := hide (NBox.new w t)
  have X0 : Hid (Ext w (w.alloc (.cells #[.int .i64 t.kind, .int .i64 t.pos, .int .i64 t.n, encStr t.text, .slice t.A t.kids.length t.cap] 28))) := hide ((Ext.refl w).alloc _)
  have hkn : (t.kind != 2) = false := by rw [hk]; rfl
  have hk1 : (t.kind == 1) = false := by rw [hk]; rfl
  have hk2 : (t.kind == 2) = true := by rw [hk]; rfl
  clear hk
  have hn0 : (t.n != 0) = false := by rw [hn]; rfl
  have hs0 : (t.text == [45, 62]) = true := by rw [hs]; rfl
  clear hn hs
  have H1 := hide (fun w' (e : Ext w w') => hide (n_each 98 typeB nistype_opens t.A t.cap t.kids w' (h.nodes.ext e) (by omega) (fun k hk => ih k hk)))
  generalize typeB t = R at *
  generalize t.kids.all typeB = B1 at *
  unfold treeV at *
  have HN := hide h
  clear h
  generalize hA0 : t.A = A0 at *
  have HA0 := hide hA0
  clear hA0
  by_cases hp0 : t.kids.length = 2
  · have hpi : ((t.kids.length : Int) == 2) = true := beq_iff_eq.2 (by omega)
    have hpz0 : (0 : Int) < (t.kids.length : Int) := by omega
    have hpz1 : (1 : Int) < (t.kids.length : Int) := by omega
    have HP0 := hide hp0
    clear hp0
    have hR : R = B1 := by rw [HE.out]; simp [HP0.out]
    clear HE
    subst hR
    go_enter Tryz.func98, Tryz.ntmps98
    go_wp2_with fail
    refine (H1.out _ X0.out).out.mono ?_
    rintro e w2 ⟨rfl, hx⟩
    have X2 := hide (X0.out.trans hx)
    have HB2 := hide (HB0.out.ext hx)
    clear hx
    have c0_1 := HB2.out.c0
    have c1_1 := HB2.out.c1
    have c2_1 := HB2.out.c2
    have c3_1 := HB2.out.c3
    have c4_1 := HB2.out.c4
    rw [HA0.out] at c4_1
    go_wp2
    go_ret
    exact ⟨rfl, X2.out⟩
  · have hpi : ((t.kids.length : Int) == 2) = false := beq_eq_false_iff_ne.2 (by omega)
    have HP0 := hide hp0
    clear hp0
    have hR : R = false := by rw [HE.out]; simp [HP0.out]
    clear HE
    subst hR
    go_enter Tryz.func98, Tryz.ntmps98
    go_wp2
    go_ret
    exact ⟨rfl, (by repeat (first | exact Ext.refl _ | exact Ext.pre (by simp) | exact Ext.alloc (by assumption) _ | refine Ext.alloc ?_ _ |  refine Ext.more ?_ _ _ | refine Ext.drew ?_ | refine Ext.drewN ?_ _))⟩

set_option maxRecDepth 10000 in
set_option maxHeartbeats 1000000 in
theorem n_type_con (t : Tree) (hk : t.kind = 2) (hn : t.n = 0) (hs : t.text ≠ [45, 62]) (ih : ∀ k ∈ t.kids, Asks 98 typeB k) : Asks 98 typeB t := by
  intro w h
  have HE : Hid (typeB t = (conB t.text && t.kids.all typeB)) := hide (type_con hk hn hs)
  have Hk := hide h.nodes
  have hle := h.le
  have hmx := h.max
  have HB0 := hide (NBox.new w t)
  have X0 : Hid (Ext w (w.alloc (.cells #[.int .i64 t.kind, .int .i64 t.pos, .int .i64 t.n, encStr t.text, .slice t.A t.kids.length t.cap] 28))) := hide ((Ext.refl w).alloc _)
  have hkn : (t.kind != 2) = false := by rw [hk]; rfl
  have hk1 : (t.kind == 1) = false := by rw [hk]; rfl
  have hk2 : (t.kind == 2) = true := by rw [hk]; rfl
  clear hk
  have hn0 : (t.n != 0) = false := by rw [hn]; rfl
  have hs0 : (t.text == [45, 62]) = false := by simpa using hs
  clear hn hs
  have H0 := hide (fun w' (e : Ext w w') => hide (Calls.mono (R' := fun e w'' => e = .returned (.bool (conB t.text)) ∧ Ext w' w'') (n_con t.text w' h.txt) (fun e w'' hh => ⟨hh.1, by rw [hh.2]; exact Ext.refl _⟩)))
  have H1 := hide (fun w' (e : Ext w w') => hide (n_each 98 typeB nistype_opens t.A t.cap t.kids w' (h.nodes.ext e) (by omega) (fun k hk => ih k hk)))
  generalize typeB t = R at *
  generalize conB t.text = B0 at *
  generalize t.kids.all typeB = B1 at *
  unfold treeV at *
  have HN := hide h
  clear h
  generalize hA0 : t.A = A0 at *
  have HA0 := hide hA0
  clear hA0
  cases B0
  · have hR : R = false := by rw [HE.out]; simp
    clear HE
    subst hR
    go_enter Tryz.func98, Tryz.ntmps98
    go_wp2_with fail
    refine (H0.out _ X0.out).out.mono ?_
    rintro e w1 ⟨rfl, hx⟩
    have X1 := hide (X0.out.trans hx)
    have HB1 := hide (HB0.out.ext hx)
    clear hx
    have c0_0 := HB1.out.c0
    have c1_0 := HB1.out.c1
    have c2_0 := HB1.out.c2
    have c3_0 := HB1.out.c3
    have c4_0 := HB1.out.c4
    rw [HA0.out] at c4_0
    go_wp2
    go_ret
    exact ⟨rfl, X1.out⟩
  · have hR : R = B1 := by rw [HE.out]; simp
    clear HE
    subst hR
    go_enter Tryz.func98, Tryz.ntmps98
    go_wp2_with fail
    refine (H0.out _ X0.out).out.mono ?_
    rintro e w1 ⟨rfl, hx⟩
    have X1 := hide (X0.out.trans hx)
    have HB1 := hide (HB0.out.ext hx)
    clear hx
    have c0_0 := HB1.out.c0
    have c1_0 := HB1.out.c1
    have c2_0 := HB1.out.c2
    have c3_0 := HB1.out.c3
    have c4_0 := HB1.out.c4
    rw [HA0.out] at c4_0
    go_wp2_with fail
    refine (H1.out _ X1.out).out.mono ?_
    rintro e w2 ⟨rfl, hx⟩
    have X2 := hide (X1.out.trans hx)
    have HB2 := hide (HB1.out.ext hx)
    clear hx
    have c0_1 := HB2.out.c0
    have c1_1 := HB2.out.c1
    have c2_1 := HB2.out.c2
    have c3_1 := HB2.out.c3
    have c4_1 := HB2.out.c4
    rw [HA0.out] at c4_1
    go_wp2
    go_ret
    exact ⟨rfl, X2.out⟩

set_option maxRecDepth 10000 in
set_option maxHeartbeats 1000000 in
theorem n_type_elseN (t : Tree) (hk : t.kind = 2) (hn : t.n ≠ 0) : Asks 98 typeB t := by
  intro w h
  have HE : Hid (typeB t = false) := hide (type_elseN hk hn)
  have Hk := hide h.nodes
  have hle := h.le
  have hmx := h.max
  have HB0 := hide (NBox.new w t)
  have X0 : Hid (Ext w (w.alloc (.cells #[.int .i64 t.kind, .int .i64 t.pos, .int .i64 t.n, encStr t.text, .slice t.A t.kids.length t.cap] 28))) := hide ((Ext.refl w).alloc _)
  have hkn : (t.kind != 2) = false := by rw [hk]; rfl
  have hk1 : (t.kind == 1) = false := by rw [hk]; rfl
  have hk2 : (t.kind == 2) = true := by rw [hk]; rfl
  clear hk
  have hn0 : (t.n != 0) = true := by simpa using hn
  clear hn
  generalize typeB t = R at *
  unfold treeV at *
  have HN := hide h
  clear h
  generalize hA0 : t.A = A0 at *
  have HA0 := hide hA0
  clear hA0
  have hR : R = false := HE.out
  clear HE
  subst hR
  go_enter Tryz.func98, Tryz.ntmps98
  go_wp2
  go_ret
  exact ⟨rfl, (by repeat (first | exact Ext.refl _ | exact Ext.pre (by simp) | exact Ext.alloc (by assumption) _ | refine Ext.alloc ?_ _ |  refine Ext.more ?_ _ _ | refine Ext.drew ?_ | refine Ext.drewN ?_ _))⟩

set_option maxRecDepth 10000 in
set_option maxHeartbeats 1000000 in
theorem n_type_else (t : Tree) (h1 : t.kind ≠ 1) (h2 : t.kind ≠ 2) : Asks 98 typeB t := by
  intro w h
  have HE : Hid (typeB t = false) := hide (type_else h1 h2)
  have Hk := hide h.nodes
  have hle := h.le
  have hmx := h.max
  have HB0 := hide (NBox.new w t)
  have X0 : Hid (Ext w (w.alloc (.cells #[.int .i64 t.kind, .int .i64 t.pos, .int .i64 t.n, encStr t.text, .slice t.A t.kids.length t.cap] 28))) := hide ((Ext.refl w).alloc _)
  have hk1 : (t.kind == 1) = false := by simpa using h1
  have hk2 : (t.kind != 2) = true := by simpa using h2
  clear h1 h2
  generalize typeB t = R at *
  unfold treeV at *
  have HN := hide h
  clear h
  generalize hA0 : t.A = A0 at *
  have HA0 := hide hA0
  clear hA0
  have hR : R = false := HE.out
  clear HE
  subst hR
  go_enter Tryz.func98, Tryz.ntmps98
  go_wp2
  go_ret
  exact ⟨rfl, (by repeat (first | exact Ext.refl _ | exact Ext.pre (by simp) | exact Ext.alloc (by assumption) _ | refine Ext.alloc ?_ _ |  refine Ext.more ?_ _ _ | refine Ext.drew ?_ | refine Ext.drewN ?_ _))⟩

theorem n_type (t : Tree) : Asks 98 typeB t := by
  induction t using Tree.ind with
  | h t ih =>
    by_cases h1 : t.kind = 1
    · exact n_type_var t h1
    · by_cases h2 : t.kind = 2
      · by_cases hn : t.n = 0
        · by_cases hs : t.text = [45, 62]
          · exact n_type_fun t h2 hn hs ih
          · exact n_type_con t h2 hn hs ih
        · exact n_type_elseN t h2 hn
      · exact n_type_else t h1 h2
theorem n_pat (t : Tree) : Asks 87 patB t := by
  induction t using Tree.ind with
  | h t ih =>
    by_cases h1 : t.kind = 11
    · exact n_pat_var t h1
    · by_cases h2 : t.kind = 12
      · exact n_pat_any t h2
      · by_cases h3 : t.kind = 13
        · exact n_pat_int t h3
        · by_cases h4 : t.kind = 14
          · exact n_pat_con t h4 ih
          · exact n_pat_else t h1 h2 h3 h4

end Go.Proofs.YtbfggmeppakcgaaGreat

/- Contract on nodes: a context and a type. (A program of ours has printed the walk.) -/
namespace Go.Proofs.YtbfggmeppakcgaaGreat
open Go.RowKit Go.Shelf

set_option maxRecDepth 10000 in
set_option maxHeartbeats 1000000 in
theorem n_qual (t : Tree) : Asks 86 qualB t := by
  intro w h
  have HE : Hid (qualB t = (decide (t.kind = 4) && bareB t && decide (1 ≤ t.kids.length) && (t.kids.take (t.kids.length - 1)).all predB && typeB (t.kid (t.kids.length - 1)))) := hide (rfl)
  have Hk := hide h.nodes
  have hle := h.le
  have hmx := h.max
  have HB0 := hide (NBox.new w t)
  have X0 : Hid (Ext w (w.alloc (.cells #[.int .i64 t.kind, .int .i64 t.pos, .int .i64 t.n, encStr t.text, .slice t.A t.kids.length t.cap] 28))) := hide ((Ext.refl w).alloc _)
  have H1 := hide (fun w' (e : Ext w w') => hide (n_bare t w' (h.ext e)))
  generalize qualB t = R at *
  generalize bareB t = B1 at *
  unfold treeV at *
  have HN := hide h
  clear h
  generalize hA0 : t.A = A0 at *
  have HA0 := hide hA0
  clear hA0
  by_cases hp0 : t.kind = 4
  · have hki : (t.kind == 4) = true := by simpa using hp0
    have HP0 := hide hp0
    clear hp0
    cases B1
    · have hR : R = false := by rw [HE.out]; simp
      clear HE
      subst hR
      go_enter Tryz.func86, Tryz.ntmps86
      go_wp2_with fail
      refine (H1.out _ X0.out).out.mono ?_
      rintro e w2 ⟨rfl, hx⟩
      have X2 := hide (X0.out.trans hx)
      have HB2 := hide (HB0.out.ext hx)
      clear hx
      have c0_1 := HB2.out.c0
      have c1_1 := HB2.out.c1
      have c2_1 := HB2.out.c2
      have c3_1 := HB2.out.c3
      have c4_1 := HB2.out.c4
      rw [HA0.out] at c4_1
      go_wp2
      go_ret
      exact ⟨rfl, X2.out⟩
    · by_cases hp2 : 1 ≤ t.kids.length
      · have hpi : (t.kids.length : Int) - 1 ≥ 0 := by omega
        have HP2 := hide hp2
        clear hp2
        obtain ⟨m, hm⟩ : ∃ m, t.kids.length = m + 1 := ⟨t.kids.length - 1, by have := HP2.out; omega⟩
        have Hm := hide hm
        have hmi : (t.kids.length : Int) - 1 = m := by omega
        have hm0 : (0 : Int) ≤ (m : Int) := by omega
        have hm1 : (m : Int) ≤ (t.cap : Int) := by omega
        have hm2 : m ≤ t.cap := by omega
        have hm3 : (m : Int) < (t.kids.length : Int) := by omega
        have hlm : (t.kids.take m).length = m := by simp; omega
        rw [show t.kids.length - 1 = m from by omega] at HE
        have hltm : m < t.kids.length := by omega
        obtain ⟨b, o, hAe, hb⟩ := Hk.out.some_ (by omega)
        subst hAe
        have HQm : Hid (∀ w', Ext w w' → w'.cell? ⟨b, o + m * 5, none⟩ = some (.int .i64 (t.kids[m]'hltm).kind) ∧ w'.cell? ⟨b, o + m * 5 + 1, none⟩ = some (.int .i64 (t.kids[m]'hltm).pos) ∧ w'.cell? ⟨b, o + m * 5 + 2, none⟩ = some (.int .i64 (t.kids[m]'hltm).n) ∧ w'.cell? ⟨b, o + m * 5 + 3, none⟩ = some (.string ⟨(t.kids[m]'hltm).text.toArray⟩) ∧ w'.cell? ⟨b, o + m * 5 + 4, none⟩ = some (.slice (t.kids[m]'hltm).A (t.kids[m]'hltm).kids.length (t.kids[m]'hltm).cap)) := hide (fun w' e => by have := (Hk.out.ext e).cells hltm; simpa using this)
        have HNm := hide (Hk.out.kids _ (List.getElem_mem hltm))
        have H3 := hide (fun w' (e : Ext w w') => hide (by
          have := n_each 97 predB nispred_opens (some ⟨b, o, none⟩) t.cap (t.kids.take m) w' ((Hk.out.take (by omega)).ext e) (by omega) (fun k hk => (fun k _ => n_pred k (fun j _ => n_type j)) k (List.mem_of_mem_take hk))
          rw [hlm] at this
          exact this))
        generalize (t.kids.take m).all predB = B3 at *
        rw [kid_get hltm] at HE
        have HMemm := List.getElem_mem hltm
        have H4 := hide (fun w' (e : Ext w w') => hide (n_type (t.kids[m]'hltm) w' (HNm.out.ext e)))
        generalize typeB (t.kids[m]'hltm) = B4 at *
        clear hm hlm
        clear HMemm
        generalize t.kids[m]'hltm = cm at *
        obtain ⟨q0_m, q1_m, q2_m, q3_m, q4_m⟩ := HQm.out _ (Ext.refl w)
        cases B3
        · have hR : R = false := by rw [HE.out]; simp
          clear HE
          subst hR
          go_enter Tryz.func86, Tryz.ntmps86
          go_wp2_with fail
          refine (H1.out _ X0.out).out.mono ?_
          rintro e w2 ⟨rfl, hx⟩
          have X2 := hide (X0.out.trans hx)
          have HB2 := hide (HB0.out.ext hx)
          clear hx
          have c0_1 := HB2.out.c0
          have c1_1 := HB2.out.c1
          have c2_1 := HB2.out.c2
          have c3_1 := HB2.out.c3
          have c4_1 := HB2.out.c4
          rw [HA0.out] at c4_1
          obtain ⟨q0_1_m, q1_1_m, q2_1_m, q3_1_m, q4_1_m⟩ := HQm.out _ X2.out
          go_wp2_with fail
          refine (H3.out _ X2.out).out.mono ?_
          rintro e w4 ⟨rfl, hx⟩
          have X4 := hide (X2.out.trans hx)
          have HB4 := hide (HB2.out.ext hx)
          clear hx
          have c0_3 := HB4.out.c0
          have c1_3 := HB4.out.c1
          have c2_3 := HB4.out.c2
          have c3_3 := HB4.out.c3
          have c4_3 := HB4.out.c4
          rw [HA0.out] at c4_3
          obtain ⟨q0_3_m, q1_3_m, q2_3_m, q3_3_m, q4_3_m⟩ := HQm.out _ X4.out
          go_wp2
          go_ret
          exact ⟨rfl, X4.out⟩
        · have hR : R = B4 := by rw [HE.out]; simp [HP0.out, HP2.out]
          clear HE
          subst hR
          go_enter Tryz.func86, Tryz.ntmps86
          go_wp2_with fail
          refine (H1.out _ X0.out).out.mono ?_
          rintro e w2 ⟨rfl, hx⟩
          have X2 := hide (X0.out.trans hx)
          have HB2 := hide (HB0.out.ext hx)
          clear hx
          have c0_1 := HB2.out.c0
          have c1_1 := HB2.out.c1
          have c2_1 := HB2.out.c2
          have c3_1 := HB2.out.c3
          have c4_1 := HB2.out.c4
          rw [HA0.out] at c4_1
          obtain ⟨q0_1_m, q1_1_m, q2_1_m, q3_1_m, q4_1_m⟩ := HQm.out _ X2.out
          go_wp2_with fail
          refine (H3.out _ X2.out).out.mono ?_
          rintro e w4 ⟨rfl, hx⟩
          have X4 := hide (X2.out.trans hx)
          have HB4 := hide (HB2.out.ext hx)
          clear hx
          have c0_3 := HB4.out.c0
          have c1_3 := HB4.out.c1
          have c2_3 := HB4.out.c2
          have c3_3 := HB4.out.c3
          have c4_3 := HB4.out.c4
          rw [HA0.out] at c4_3
          obtain ⟨q0_3_m, q1_3_m, q2_3_m, q3_3_m, q4_3_m⟩ := HQm.out _ X4.out
          go_wp2_with fail
          refine (H4.out _ X4.out).out.mono ?_
          rintro e w5 ⟨rfl, hx⟩
          have X5 := hide (X4.out.trans hx)
          have HB5 := hide (HB4.out.ext hx)
          clear hx
          have c0_4 := HB5.out.c0
          have c1_4 := HB5.out.c1
          have c2_4 := HB5.out.c2
          have c3_4 := HB5.out.c3
          have c4_4 := HB5.out.c4
          rw [HA0.out] at c4_4
          obtain ⟨q0_4_m, q1_4_m, q2_4_m, q3_4_m, q4_4_m⟩ := HQm.out _ X5.out
          go_wp2
          go_ret
          exact ⟨rfl, X5.out⟩
      · have hpi : ¬ (t.kids.length : Int) - 1 ≥ 0 := by omega
        have HP2 := hide hp2
        clear hp2
        have hR : R = false := by rw [HE.out]; simp [HP2.out]
        clear HE
        subst hR
        go_enter Tryz.func86, Tryz.ntmps86
        go_wp2_with fail
        refine (H1.out _ X0.out).out.mono ?_
        rintro e w2 ⟨rfl, hx⟩
        have X2 := hide (X0.out.trans hx)
        have HB2 := hide (HB0.out.ext hx)
        clear hx
        have c0_1 := HB2.out.c0
        have c1_1 := HB2.out.c1
        have c2_1 := HB2.out.c2
        have c3_1 := HB2.out.c3
        have c4_1 := HB2.out.c4
        rw [HA0.out] at c4_1
        go_wp2
        go_ret
        exact ⟨rfl, X2.out⟩
  · have hki : (t.kind == 4) = false := by simpa using hp0
    have HP0 := hide hp0
    clear hp0
    have hR : R = false := by rw [HE.out]; simp [HP0.out]
    clear HE
    subst hR
    go_enter Tryz.func86, Tryz.ntmps86
    go_wp2
    go_ret
    exact ⟨rfl, (by repeat (first | exact Ext.refl _ | exact Ext.pre (by simp) | exact Ext.alloc (by assumption) _ | refine Ext.alloc ?_ _ |  refine Ext.more ?_ _ _ | refine Ext.drew ?_ | refine Ext.drewN ?_ _))⟩

end Go.Proofs.YtbfggmeppakcgaaGreat

/- Contracts on nodes: expressions, the first kinds. (A program of ours has printed the walks.) -/
namespace Go.Proofs.YtbfggmeppakcgaaGreat
open Go.RowKit Go.Shelf

theorem nisexp_opens : Opens 54 := enters_of Tryz.func54 (by kernel_rfl) rfl
theorem nisexp1_opens : Opens 72 := enters_of Tryz.func72 (by kernel_rfl) rfl
theorem nisalt_opens : Opens 75 := enters_of Tryz.func75 (by kernel_rfl) rfl
set_option maxRecDepth 10000 in
theorem n_within (t : Tree) (ih : ∀ k ∈ t.kids, Asks 54 expB k) : Asks 72 withinB t := by
  intro w h
  have HE : Hid (withinB t = (bindB t || sigB t)) := hide rfl
  have H0 := hide (fun w' (e : Ext w w') => hide (n_bind t ih w' (h.ext e)))
  have H1 := hide (fun w' (e : Ext w w') => hide (n_sig t (fun k _ => n_qual k) w' (h.ext e)))
  have HB0 := hide (NBox.new w t)
  have X0 : Hid (Ext w (w.alloc (.cells #[.int .i64 t.kind, .int .i64 t.pos, .int .i64 t.n, encStr t.text, .slice t.A t.kids.length t.cap] 28))) := hide ((Ext.refl w).alloc _)
  generalize withinB t = R at *
  generalize bindB t = B0 at *
  generalize sigB t = B1 at *
  unfold treeV at *
  clear h
  cases B0
  · have hR : R = B1 := by rw [HE.out]; simp
    clear HE
    subst hR
    go_enter Tryz.func72, Tryz.ntmps72
    go_wp2_with fail
    refine (H0.out _ X0.out).out.mono ?_
    rintro e w1 ⟨rfl, hx⟩
    have X1 := hide (X0.out.trans hx)
    have HB1 := hide (HB0.out.ext hx)
    clear hx
    have c0 := HB1.out.c0
    have c1 := HB1.out.c1
    have c2 := HB1.out.c2
    have c3 := HB1.out.c3
    have c4 := HB1.out.c4
    go_wp2_with fail
    refine (H1.out _ X1.out).out.mono ?_
    rintro e w2 ⟨rfl, hx⟩
    go_wp2
    go_ret
    exact ⟨rfl, X1.out.trans hx⟩
  · have hR : R = true := by rw [HE.out]; simp
    clear HE
    subst hR
    go_enter Tryz.func72, Tryz.ntmps72
    go_wp2_with fail
    refine (H0.out _ X0.out).out.mono ?_
    rintro e w1 ⟨rfl, hx⟩
    go_wp2
    go_ret
    exact ⟨rfl, X0.out.trans hx⟩

set_option maxRecDepth 10000 in
set_option maxHeartbeats 1000000 in
theorem n_exp_var (t : Tree) (hk : t.kind = 21) : Asks 54 expB t := by
  intro w h
  have HE : Hid (expB t = (namedB varB t && decide (t.kids.length = 0))) := hide (exp_var t hk)
  have Hk := hide h.nodes
  have hle := h.le
  have hmx := h.max
  have HB0 := hide (NBox.new w t)
  have X0 : Hid (Ext w (w.alloc (.cells #[.int .i64 t.kind, .int .i64 t.pos, .int .i64 t.n, encStr t.text, .slice t.A t.kids.length t.cap] 28))) := hide ((Ext.refl w).alloc _)
  have hk21 : (t.kind == 21) = true := by rw [hk]; rfl
  clear hk
  have H0 := hide (fun w' (e : Ext w w') => hide (n_named 68 varB n_var_as nvar_opens t w' (h.ext e)))
  generalize expB t = R at *
  generalize namedB varB t = B0 at *
  unfold treeV at *
  have HN := hide h
  clear h
  generalize hA0 : t.A = A0 at *
  have HA0 := hide hA0
  clear hA0
  cases B0
  · have hR : R = false := by rw [HE.out]; simp
    clear HE
    subst hR
    go_enter Tryz.func54, Tryz.ntmps54
    go_wp2_with fail
    refine (H0.out _ X0.out).out.mono ?_
    rintro e w1 ⟨rfl, hx⟩
    have X1 := hide (X0.out.trans hx)
    have HB1 := hide (HB0.out.ext hx)
    clear hx
    have c0_0 := HB1.out.c0
    have c1_0 := HB1.out.c1
    have c2_0 := HB1.out.c2
    have c3_0 := HB1.out.c3
    have c4_0 := HB1.out.c4
    rw [HA0.out] at c4_0
    go_wp2
    go_ret
    exact ⟨rfl, X1.out⟩
  · by_cases hp1 : t.kids.length = 0
    · have hpi : ((t.kids.length : Int) == 0) = true := beq_iff_eq.2 (by omega)
      have HP1 := hide hp1
      clear hp1
      have hR : R = true := by rw [HE.out]; simp [HP1.out]
      clear HE
      subst hR
      go_enter Tryz.func54, Tryz.ntmps54
      go_wp2_with fail
      refine (H0.out _ X0.out).out.mono ?_
      rintro e w1 ⟨rfl, hx⟩
      have X1 := hide (X0.out.trans hx)
      have HB1 := hide (HB0.out.ext hx)
      clear hx
      have c0_0 := HB1.out.c0
      have c1_0 := HB1.out.c1
      have c2_0 := HB1.out.c2
      have c3_0 := HB1.out.c3
      have c4_0 := HB1.out.c4
      rw [HA0.out] at c4_0
      go_wp2
      go_ret
      exact ⟨rfl, X1.out⟩
    · have hpi : ((t.kids.length : Int) == 0) = false := beq_eq_false_iff_ne.2 (by omega)
      have HP1 := hide hp1
      clear hp1
      have hR : R = false := by rw [HE.out]; simp [HP1.out]
      clear HE
      subst hR
      go_enter Tryz.func54, Tryz.ntmps54
      go_wp2_with fail
      refine (H0.out _ X0.out).out.mono ?_
      rintro e w1 ⟨rfl, hx⟩
      have X1 := hide (X0.out.trans hx)
      have HB1 := hide (HB0.out.ext hx)
      clear hx
      have c0_0 := HB1.out.c0
      have c1_0 := HB1.out.c1
      have c2_0 := HB1.out.c2
      have c3_0 := HB1.out.c3
      have c4_0 := HB1.out.c4
      rw [HA0.out] at c4_0
      go_wp2
      go_ret
      exact ⟨rfl, X1.out⟩

set_option maxRecDepth 10000 in
set_option maxHeartbeats 1000000 in
theorem n_exp_con (t : Tree) (hk : t.kind = 22) : Asks 54 expB t := by
  intro w h
  have HE : Hid (expB t = (namedB conB t && decide (t.kids.length = 0))) := hide (exp_con t hk)
  have Hk := hide h.nodes
  have hle := h.le
  have hmx := h.max
  have HB0 := hide (NBox.new w t)
  have X0 : Hid (Ext w (w.alloc (.cells #[.int .i64 t.kind, .int .i64 t.pos, .int .i64 t.n, encStr t.text, .slice t.A t.kids.length t.cap] 28))) := hide ((Ext.refl w).alloc _)
  have hk21 : (t.kind == 21) = false := by rw [hk]; rfl
  have hk22 : (t.kind == 22) = true := by rw [hk]; rfl
  clear hk
  have H0 := hide (fun w' (e : Ext w w') => hide (n_named 69 conB n_con_as ncon_opens t w' (h.ext e)))
  generalize expB t = R at *
  generalize namedB conB t = B0 at *
  unfold treeV at *
  have HN := hide h
  clear h
  generalize hA0 : t.A = A0 at *
  have HA0 := hide hA0
  clear hA0
  cases B0
  · have hR : R = false := by rw [HE.out]; simp
    clear HE
    subst hR
    go_enter Tryz.func54, Tryz.ntmps54
    go_wp2_with fail
    refine (H0.out _ X0.out).out.mono ?_
    rintro e w1 ⟨rfl, hx⟩
    have X1 := hide (X0.out.trans hx)
    have HB1 := hide (HB0.out.ext hx)
    clear hx
    have c0_0 := HB1.out.c0
    have c1_0 := HB1.out.c1
    have c2_0 := HB1.out.c2
    have c3_0 := HB1.out.c3
    have c4_0 := HB1.out.c4
    rw [HA0.out] at c4_0
    go_wp2
    go_ret
    exact ⟨rfl, X1.out⟩
  · by_cases hp1 : t.kids.length = 0
    · have hpi : ((t.kids.length : Int) == 0) = true := beq_iff_eq.2 (by omega)
      have HP1 := hide hp1
      clear hp1
      have hR : R = true := by rw [HE.out]; simp [HP1.out]
      clear HE
      subst hR
      go_enter Tryz.func54, Tryz.ntmps54
      go_wp2_with fail
      refine (H0.out _ X0.out).out.mono ?_
      rintro e w1 ⟨rfl, hx⟩
      have X1 := hide (X0.out.trans hx)
      have HB1 := hide (HB0.out.ext hx)
      clear hx
      have c0_0 := HB1.out.c0
      have c1_0 := HB1.out.c1
      have c2_0 := HB1.out.c2
      have c3_0 := HB1.out.c3
      have c4_0 := HB1.out.c4
      rw [HA0.out] at c4_0
      go_wp2
      go_ret
      exact ⟨rfl, X1.out⟩
    · have hpi : ((t.kids.length : Int) == 0) = false := beq_eq_false_iff_ne.2 (by omega)
      have HP1 := hide hp1
      clear hp1
      have hR : R = false := by rw [HE.out]; simp [HP1.out]
      clear HE
      subst hR
      go_enter Tryz.func54, Tryz.ntmps54
      go_wp2_with fail
      refine (H0.out _ X0.out).out.mono ?_
      rintro e w1 ⟨rfl, hx⟩
      have X1 := hide (X0.out.trans hx)
      have HB1 := hide (HB0.out.ext hx)
      clear hx
      have c0_0 := HB1.out.c0
      have c1_0 := HB1.out.c1
      have c2_0 := HB1.out.c2
      have c3_0 := HB1.out.c3
      have c4_0 := HB1.out.c4
      rw [HA0.out] at c4_0
      go_wp2
      go_ret
      exact ⟨rfl, X1.out⟩

set_option maxRecDepth 10000 in
set_option maxHeartbeats 1000000 in
theorem n_exp_int (t : Tree) (hk : t.kind = 23) : Asks 54 expB t := by
  intro w h
  have HE : Hid (expB t = ((t.text == []) && decide (0 ≤ t.n) && decide (t.kids.length = 0))) := hide (exp_int t hk)
  have Hk := hide h.nodes
  have hle := h.le
  have hmx := h.max
  have HB0 := hide (NBox.new w t)
  have X0 : Hid (Ext w (w.alloc (.cells #[.int .i64 t.kind, .int .i64 t.pos, .int .i64 t.n, encStr t.text, .slice t.A t.kids.length t.cap] 28))) := hide ((Ext.refl w).alloc _)
  have hk21 : (t.kind == 21) = false := by rw [hk]; rfl
  have hk22 : (t.kind == 22) = false := by rw [hk]; rfl
  have hk23 : (t.kind == 23) = true := by rw [hk]; rfl
  clear hk
  generalize expB t = R at *
  unfold treeV at *
  have HN := hide h
  clear h
  generalize hA0 : t.A = A0 at *
  have HA0 := hide hA0
  clear hA0
  by_cases hp0 : (t.text == []) = true
  · have hs0 : (t.text == []) = true := hp0
    have HP0 := hide hp0
    clear hp0
    by_cases hp1 : 0 ≤ t.n
    · have hn0 : t.n ≥ 0 := hp1
      have HP1 := hide hp1
      clear hp1
      by_cases hp2 : t.kids.length = 0
      · have hpi : ((t.kids.length : Int) == 0) = true := beq_iff_eq.2 (by omega)
        have HP2 := hide hp2
        clear hp2
        have hR : R = true := by rw [HE.out]; simp [HP0.out, HP1.out, HP2.out]
        clear HE
        subst hR
        go_enter Tryz.func54, Tryz.ntmps54
        go_wp2
        go_ret
        exact ⟨rfl, (by repeat (first | exact Ext.refl _ | exact Ext.pre (by simp) | exact Ext.alloc (by assumption) _ | refine Ext.alloc ?_ _ |  refine Ext.more ?_ _ _ | refine Ext.drew ?_ | refine Ext.drewN ?_ _))⟩
      · have hpi : ((t.kids.length : Int) == 0) = false := beq_eq_false_iff_ne.2 (by omega)
        have HP2 := hide hp2
        clear hp2
        have hR : R = false := by rw [HE.out]; simp [HP2.out]
        clear HE
        subst hR
        go_enter Tryz.func54, Tryz.ntmps54
        go_wp2
        go_ret
        exact ⟨rfl, (by repeat (first | exact Ext.refl _ | exact Ext.pre (by simp) | exact Ext.alloc (by assumption) _ | refine Ext.alloc ?_ _ |  refine Ext.more ?_ _ _ | refine Ext.drew ?_ | refine Ext.drewN ?_ _))⟩
    · have hn0 : ¬ t.n ≥ 0 := hp1
      have HP1 := hide hp1
      clear hp1
      have hR : R = false := by rw [HE.out]; simp [HP1.out]
      clear HE
      subst hR
      go_enter Tryz.func54, Tryz.ntmps54
      go_wp2
      go_ret
      exact ⟨rfl, (by repeat (first | exact Ext.refl _ | exact Ext.pre (by simp) | exact Ext.alloc (by assumption) _ | refine Ext.alloc ?_ _ |  refine Ext.more ?_ _ _ | refine Ext.drew ?_ | refine Ext.drewN ?_ _))⟩
  · have hs0 : (t.text == []) = false := by simpa using hp0
    have HP0 := hide hp0
    clear hp0
    have hR : R = false := by rw [HE.out]; simp [HP0.out]
    clear HE
    subst hR
    go_enter Tryz.func54, Tryz.ntmps54
    go_wp2
    go_ret
    exact ⟨rfl, (by repeat (first | exact Ext.refl _ | exact Ext.pre (by simp) | exact Ext.alloc (by assumption) _ | refine Ext.alloc ?_ _ |  refine Ext.more ?_ _ _ | refine Ext.drew ?_ | refine Ext.drewN ?_ _))⟩

set_option maxRecDepth 10000 in
set_option maxHeartbeats 1000000 in
theorem n_exp_app (t : Tree) (hk : t.kind = 24) (ih : ∀ k : Tree, k.size < t.size → Asks 54 expB k) : Asks 54 expB t := by
  intro w h
  have HE : Hid (expB t = (bareB t && decide (t.kids.length = 2) && t.kids.all expB)) := hide (exp_app t hk)
  have Hk := hide h.nodes
  have hle := h.le
  have hmx := h.max
  have HB0 := hide (NBox.new w t)
  have X0 : Hid (Ext w (w.alloc (.cells #[.int .i64 t.kind, .int .i64 t.pos, .int .i64 t.n, encStr t.text, .slice t.A t.kids.length t.cap] 28))) := hide ((Ext.refl w).alloc _)
  have hk21 : (t.kind == 21) = false := by rw [hk]; rfl
  have hk22 : (t.kind == 22) = false := by rw [hk]; rfl
  have hk23 : (t.kind == 23) = false := by rw [hk]; rfl
  have hk24 : (t.kind == 24) = true := by rw [hk]; rfl
  clear hk
  have H0 := hide (fun w' (e : Ext w w') => hide (n_bare t w' (h.ext e)))
  have H2 := hide (fun w' (e : Ext w w') => hide (n_each 54 expB nisexp_opens t.A t.cap t.kids w' (h.nodes.ext e) (by omega) (fun k hk => ih k (Tree.size_kid hk))))
  generalize expB t = R at *
  generalize bareB t = B0 at *
  generalize t.kids.all expB = B2 at *
  unfold treeV at *
  have HN := hide h
  clear h
  generalize hA0 : t.A = A0 at *
  have HA0 := hide hA0
  clear hA0
  cases B0
  · have hR : R = false := by rw [HE.out]; simp
    clear HE
    subst hR
    go_enter Tryz.func54, Tryz.ntmps54
    go_wp2_with fail
    refine (H0.out _ X0.out).out.mono ?_
    rintro e w1 ⟨rfl, hx⟩
    have X1 := hide (X0.out.trans hx)
    have HB1 := hide (HB0.out.ext hx)
    clear hx
    have c0_0 := HB1.out.c0
    have c1_0 := HB1.out.c1
    have c2_0 := HB1.out.c2
    have c3_0 := HB1.out.c3
    have c4_0 := HB1.out.c4
    rw [HA0.out] at c4_0
    go_wp2
    go_ret
    exact ⟨rfl, X1.out⟩
  · by_cases hp1 : t.kids.length = 2
    · have hpi : ((t.kids.length : Int) == 2) = true := beq_iff_eq.2 (by omega)
      have hpz0 : (0 : Int) < (t.kids.length : Int) := by omega
      have hpz1 : (1 : Int) < (t.kids.length : Int) := by omega
      have HP1 := hide hp1
      clear hp1
      have hR : R = B2 := by rw [HE.out]; simp [HP1.out]
      clear HE
      subst hR
      go_enter Tryz.func54, Tryz.ntmps54
      go_wp2_with fail
      refine (H0.out _ X0.out).out.mono ?_
      rintro e w1 ⟨rfl, hx⟩
      have X1 := hide (X0.out.trans hx)
      have HB1 := hide (HB0.out.ext hx)
      clear hx
      have c0_0 := HB1.out.c0
      have c1_0 := HB1.out.c1
      have c2_0 := HB1.out.c2
      have c3_0 := HB1.out.c3
      have c4_0 := HB1.out.c4
      rw [HA0.out] at c4_0
      go_wp2_with fail
      refine (H2.out _ X1.out).out.mono ?_
      rintro e w3 ⟨rfl, hx⟩
      have X3 := hide (X1.out.trans hx)
      have HB3 := hide (HB1.out.ext hx)
      clear hx
      have c0_2 := HB3.out.c0
      have c1_2 := HB3.out.c1
      have c2_2 := HB3.out.c2
      have c3_2 := HB3.out.c3
      have c4_2 := HB3.out.c4
      rw [HA0.out] at c4_2
      go_wp2
      go_ret
      exact ⟨rfl, X3.out⟩
    · have hpi : ((t.kids.length : Int) == 2) = false := beq_eq_false_iff_ne.2 (by omega)
      have HP1 := hide hp1
      clear hp1
      have hR : R = false := by rw [HE.out]; simp [HP1.out]
      clear HE
      subst hR
      go_enter Tryz.func54, Tryz.ntmps54
      go_wp2_with fail
      refine (H0.out _ X0.out).out.mono ?_
      rintro e w1 ⟨rfl, hx⟩
      have X1 := hide (X0.out.trans hx)
      have HB1 := hide (HB0.out.ext hx)
      clear hx
      have c0_0 := HB1.out.c0
      have c1_0 := HB1.out.c1
      have c2_0 := HB1.out.c2
      have c3_0 := HB1.out.c3
      have c4_0 := HB1.out.c4
      rw [HA0.out] at c4_0
      go_wp2
      go_ret
      exact ⟨rfl, X1.out⟩

set_option maxRecDepth 10000 in
set_option maxHeartbeats 1000000 in
theorem n_exp_lam (t : Tree) (hk : t.kind = 25) (ih : ∀ k : Tree, k.size < t.size → Asks 54 expB k) : Asks 54 expB t := by
  intro w h
  have HE : Hid (expB t = (namedB varB t && decide (t.kids.length = 1) && expB (t.kid 0))) := hide (exp_lam t hk)
  have Hk := hide h.nodes
  have hle := h.le
  have hmx := h.max
  have HB0 := hide (NBox.new w t)
  have X0 : Hid (Ext w (w.alloc (.cells #[.int .i64 t.kind, .int .i64 t.pos, .int .i64 t.n, encStr t.text, .slice t.A t.kids.length t.cap] 28))) := hide ((Ext.refl w).alloc _)
  have hk21 : (t.kind == 21) = false := by rw [hk]; rfl
  have hk22 : (t.kind == 22) = false := by rw [hk]; rfl
  have hk23 : (t.kind == 23) = false := by rw [hk]; rfl
  have hk24 : (t.kind == 24) = false := by rw [hk]; rfl
  have hk25 : (t.kind == 25) = true := by rw [hk]; rfl
  clear hk
  have H0 := hide (fun w' (e : Ext w w') => hide (n_named 68 varB n_var_as nvar_opens t w' (h.ext e)))
  generalize expB t = R at *
  generalize namedB varB t = B0 at *
  unfold treeV at *
  have HN := hide h
  clear h
  generalize hA0 : t.A = A0 at *
  have HA0 := hide hA0
  clear hA0
  cases B0
  · have hR : R = false := by rw [HE.out]; simp
    clear HE
    subst hR
    go_enter Tryz.func54, Tryz.ntmps54
    go_wp2_with fail
    refine (H0.out _ X0.out).out.mono ?_
    rintro e w1 ⟨rfl, hx⟩
    have X1 := hide (X0.out.trans hx)
    have HB1 := hide (HB0.out.ext hx)
    clear hx
    have c0_0 := HB1.out.c0
    have c1_0 := HB1.out.c1
    have c2_0 := HB1.out.c2
    have c3_0 := HB1.out.c3
    have c4_0 := HB1.out.c4
    rw [HA0.out] at c4_0
    go_wp2
    go_ret
    exact ⟨rfl, X1.out⟩
  · by_cases hp1 : t.kids.length = 1
    · have hpi : ((t.kids.length : Int) == 1) = true := beq_iff_eq.2 (by omega)
      have hpz0 : (0 : Int) < (t.kids.length : Int) := by omega
      have HP1 := hide hp1
      clear hp1
      have hlt0 : 0 < t.kids.length := by have := HP1.out; omega
      obtain ⟨b, o, hAe, hb⟩ := Hk.out.some_ (by omega)
      subst hAe
      have HQ0 : Hid (∀ w', Ext w w' → w'.cell? ⟨b, o, none⟩ = some (.int .i64 (t.kids[0]'hlt0).kind) ∧ w'.cell? ⟨b, o + 1, none⟩ = some (.int .i64 (t.kids[0]'hlt0).pos) ∧ w'.cell? ⟨b, o + 2, none⟩ = some (.int .i64 (t.kids[0]'hlt0).n) ∧ w'.cell? ⟨b, o + 3, none⟩ = some (.string ⟨(t.kids[0]'hlt0).text.toArray⟩) ∧ w'.cell? ⟨b, o + 4, none⟩ = some (.slice (t.kids[0]'hlt0).A (t.kids[0]'hlt0).kids.length (t.kids[0]'hlt0).cap)) := hide (fun w' e => by have := (Hk.out.ext e).cells hlt0; simpa using this)
      have HN0 := hide (Hk.out.kids _ (List.getElem_mem hlt0))
      rw [kid_get hlt0] at HE
      have HMem0 := List.getElem_mem hlt0
      have H2 := hide (fun w' (e : Ext w w') => hide (ih (t.kids[0]'hlt0) (Tree.size_kid HMem0) w' (HN0.out.ext e)))
      generalize expB (t.kids[0]'hlt0) = B2 at *
      clear HMem0
      generalize t.kids[0]'hlt0 = c0 at *
      obtain ⟨q0_0, q1_0, q2_0, q3_0, q4_0⟩ := HQ0.out _ (Ext.refl w)
      have hR : R = B2 := by rw [HE.out]; simp [HP1.out]
      clear HE
      subst hR
      go_enter Tryz.func54, Tryz.ntmps54
      go_wp2_with fail
      refine (H0.out _ X0.out).out.mono ?_
      rintro e w1 ⟨rfl, hx⟩
      have X1 := hide (X0.out.trans hx)
      have HB1 := hide (HB0.out.ext hx)
      clear hx
      have c0_0 := HB1.out.c0
      have c1_0 := HB1.out.c1
      have c2_0 := HB1.out.c2
      have c3_0 := HB1.out.c3
      have c4_0 := HB1.out.c4
      rw [HA0.out] at c4_0
      obtain ⟨q0_0_0, q1_0_0, q2_0_0, q3_0_0, q4_0_0⟩ := HQ0.out _ X1.out
      go_wp2_with fail
      refine (H2.out _ X1.out).out.mono ?_
      rintro e w3 ⟨rfl, hx⟩
      have X3 := hide (X1.out.trans hx)
      have HB3 := hide (HB1.out.ext hx)
      clear hx
      have c0_2 := HB3.out.c0
      have c1_2 := HB3.out.c1
      have c2_2 := HB3.out.c2
      have c3_2 := HB3.out.c3
      have c4_2 := HB3.out.c4
      rw [HA0.out] at c4_2
      obtain ⟨q0_2_0, q1_2_0, q2_2_0, q3_2_0, q4_2_0⟩ := HQ0.out _ X3.out
      go_wp2
      go_ret
      exact ⟨rfl, X3.out⟩
    · have hpi : ((t.kids.length : Int) == 1) = false := beq_eq_false_iff_ne.2 (by omega)
      have HP1 := hide hp1
      clear hp1
      have hR : R = false := by rw [HE.out]; simp [HP1.out]
      clear HE
      subst hR
      go_enter Tryz.func54, Tryz.ntmps54
      go_wp2_with fail
      refine (H0.out _ X0.out).out.mono ?_
      rintro e w1 ⟨rfl, hx⟩
      have X1 := hide (X0.out.trans hx)
      have HB1 := hide (HB0.out.ext hx)
      clear hx
      have c0_0 := HB1.out.c0
      have c1_0 := HB1.out.c1
      have c2_0 := HB1.out.c2
      have c3_0 := HB1.out.c3
      have c4_0 := HB1.out.c4
      rw [HA0.out] at c4_0
      go_wp2
      go_ret
      exact ⟨rfl, X1.out⟩

end Go.Proofs.YtbfggmeppakcgaaGreat
