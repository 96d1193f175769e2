/- Contracts on nodes: expressions, the first kinds. (A program of ours has printed the walks.) -/
import Derived.Test.YtnbnhchgkbbiiaaNodD
import Derived.Shelf.Abstract
namespace Go.Proofs.Ytnbnhchgkbbiiaa
open Go.RowKit Go.Shelf

theorem nisexp_opens : Opens 53 := enters_of Try.func53 (by kernel_rfl) rfl
theorem nisexp1_opens : Opens 71 := enters_of Try.func71 (by kernel_rfl) rfl
theorem nisalt_opens : Opens 74 := enters_of Try.func74 (by kernel_rfl) rfl
set_option maxRecDepth 10000 in
theorem n_within (t : Tree) (ih : ∀ k ∈ t.kids, Asks 53 expB k) : Asks 71 withinB t := by
  intro w h
  have HE : Hid (withinB t = (bindB t || sigB t)) := hide rfl
  have H0 := hide (fun w' (e : Ext w w') => hide (n_bind t ih w' (h.ext e)))
  have H1 := hide (fun w' (e : Ext w w') => hide (n_sig t (fun k _ => n_qual k) w' (h.ext e)))
  have HB0 := hide (NBox.new w t)
  have X0 : Hid (Ext w (w.alloc (.cells #[.int .i64 t.kind, .int .i64 t.pos, .int .i64 t.n, encStr t.text, .slice t.A t.kids.length t.cap] 54))) := hide ((Ext.refl w).alloc _)
  generalize withinB t = R at *
  generalize bindB t = B0 at *
  generalize sigB t = B1 at *
  unfold treeV at *
  clear h
  cases B0
  · have hR : R = B1 := by rw [HE.out]; simp
    clear HE
    subst hR
    go_enter Try.func71, Try.ntmps71
    go_wp2_with fail
    refine (H0.out _ X0.out).out.mono ?_
    rintro e w1 ⟨rfl, hx⟩
    have X1 := hide (X0.out.trans hx)
    have HB1 := hide (HB0.out.ext hx)
    clear hx
    have c0 := HB1.out.c0
    have c1 := HB1.out.c1
    have c2 := HB1.out.c2
    have c3 := HB1.out.c3
    have c4 := HB1.out.c4
    go_wp2_with fail
    refine (H1.out _ X1.out).out.mono ?_
    rintro e w2 ⟨rfl, hx⟩
    go_wp2
    go_ret
    exact ⟨rfl, X1.out.trans hx⟩
  · have hR : R = true := by rw [HE.out]; simp
    clear HE
    subst hR
    go_enter Try.func71, Try.ntmps71
    go_wp2_with fail
    refine (H0.out _ X0.out).out.mono ?_
    rintro e w1 ⟨rfl, hx⟩
    go_wp2
    go_ret
    exact ⟨rfl, X0.out.trans hx⟩

set_option maxRecDepth 10000 in
set_option maxHeartbeats 1000000 in
theorem n_exp_var (t : Tree) (hk : t.kind = 21) : Asks 53 expB t := by
  intro w h
  have HE : Hid (expB t = (namedB varB t && decide (t.kids.length = 0))) := hide (exp_var t hk)
  have Hk := hide h.nodes
  have hle := h.le
  have hmx := h.max
  have HB0 := hide (NBox.new w t)
  have X0 : Hid (Ext w (w.alloc (.cells #[.int .i64 t.kind, .int .i64 t.pos, .int .i64 t.n, encStr t.text, .slice t.A t.kids.length t.cap] 54))) := hide ((Ext.refl w).alloc _)
  have hk21 : (t.kind == 21) = true := by rw [hk]; rfl
  clear hk
  have H0 := hide (fun w' (e : Ext w w') => hide (n_named 67 varB n_var_as nvar_opens t w' (h.ext e)))
  generalize expB t = R at *
  generalize namedB varB t = B0 at *
  unfold treeV at *
  have HN := hide h
  clear h
  generalize hA0 : t.A = A0 at *
  have HA0 := hide hA0
  clear hA0
  cases B0
  · have hR : R = false := by rw [HE.out]; simp
    clear HE
    subst hR
    go_enter Try.func53, Try.ntmps53
    go_wp2_with fail
    refine (H0.out _ X0.out).out.mono ?_
    rintro e w1 ⟨rfl, hx⟩
    have X1 := hide (X0.out.trans hx)
    have HB1 := hide (HB0.out.ext hx)
    clear hx
    have c0_0 := HB1.out.c0
    have c1_0 := HB1.out.c1
    have c2_0 := HB1.out.c2
    have c3_0 := HB1.out.c3
    have c4_0 := HB1.out.c4
    rw [HA0.out] at c4_0
    go_wp2
    go_ret
    exact ⟨rfl, X1.out⟩
  · by_cases hp1 : t.kids.length = 0
    · have hpi : ((t.kids.length : Int) == 0) = true := beq_iff_eq.2 (by omega)
      have HP1 := hide hp1
      clear hp1
      have hR : R = true := by rw [HE.out]; simp [HP1.out]
      clear HE
      subst hR
      go_enter Try.func53, Try.ntmps53
      go_wp2_with fail
      refine (H0.out _ X0.out).out.mono ?_
      rintro e w1 ⟨rfl, hx⟩
      have X1 := hide (X0.out.trans hx)
      have HB1 := hide (HB0.out.ext hx)
      clear hx
      have c0_0 := HB1.out.c0
      have c1_0 := HB1.out.c1
      have c2_0 := HB1.out.c2
      have c3_0 := HB1.out.c3
      have c4_0 := HB1.out.c4
      rw [HA0.out] at c4_0
      go_wp2
      go_ret
      exact ⟨rfl, X1.out⟩
    · have hpi : ((t.kids.length : Int) == 0) = false := beq_eq_false_iff_ne.2 (by omega)
      have HP1 := hide hp1
      clear hp1
      have hR : R = false := by rw [HE.out]; simp [HP1.out]
      clear HE
      subst hR
      go_enter Try.func53, Try.ntmps53
      go_wp2_with fail
      refine (H0.out _ X0.out).out.mono ?_
      rintro e w1 ⟨rfl, hx⟩
      have X1 := hide (X0.out.trans hx)
      have HB1 := hide (HB0.out.ext hx)
      clear hx
      have c0_0 := HB1.out.c0
      have c1_0 := HB1.out.c1
      have c2_0 := HB1.out.c2
      have c3_0 := HB1.out.c3
      have c4_0 := HB1.out.c4
      rw [HA0.out] at c4_0
      go_wp2
      go_ret
      exact ⟨rfl, X1.out⟩

set_option maxRecDepth 10000 in
set_option maxHeartbeats 1000000 in
theorem n_exp_con (t : Tree) (hk : t.kind = 22) : Asks 53 expB t := by
  intro w h
  have HE : Hid (expB t = (namedB conB t && decide (t.kids.length = 0))) := hide (exp_con t hk)
  have Hk := hide h.nodes
  have hle := h.le
  have hmx := h.max
  have HB0 := hide (NBox.new w t)
  have X0 : Hid (Ext w (w.alloc (.cells #[.int .i64 t.kind, .int .i64 t.pos, .int .i64 t.n, encStr t.text, .slice t.A t.kids.length t.cap] 54))) := hide ((Ext.refl w).alloc _)
  have hk21 : (t.kind == 21) = false := by rw [hk]; rfl
  have hk22 : (t.kind == 22) = true := by rw [hk]; rfl
  clear hk
  have H0 := hide (fun w' (e : Ext w w') => hide (n_named 68 conB n_con_as ncon_opens t w' (h.ext e)))
  generalize expB t = R at *
  generalize namedB conB t = B0 at *
  unfold treeV at *
  have HN := hide h
  clear h
  generalize hA0 : t.A = A0 at *
  have HA0 := hide hA0
  clear hA0
  cases B0
  · have hR : R = false := by rw [HE.out]; simp
    clear HE
    subst hR
    go_enter Try.func53, Try.ntmps53
    go_wp2_with fail
    refine (H0.out _ X0.out).out.mono ?_
    rintro e w1 ⟨rfl, hx⟩
    have X1 := hide (X0.out.trans hx)
    have HB1 := hide (HB0.out.ext hx)
    clear hx
    have c0_0 := HB1.out.c0
    have c1_0 := HB1.out.c1
    have c2_0 := HB1.out.c2
    have c3_0 := HB1.out.c3
    have c4_0 := HB1.out.c4
    rw [HA0.out] at c4_0
    go_wp2
    go_ret
    exact ⟨rfl, X1.out⟩
  · by_cases hp1 : t.kids.length = 0
    · have hpi : ((t.kids.length : Int) == 0) = true := beq_iff_eq.2 (by omega)
      have HP1 := hide hp1
      clear hp1
      have hR : R = true := by rw [HE.out]; simp [HP1.out]
      clear HE
      subst hR
      go_enter Try.func53, Try.ntmps53
      go_wp2_with fail
      refine (H0.out _ X0.out).out.mono ?_
      rintro e w1 ⟨rfl, hx⟩
      have X1 := hide (X0.out.trans hx)
      have HB1 := hide (HB0.out.ext hx)
      clear hx
      have c0_0 := HB1.out.c0
      have c1_0 := HB1.out.c1
      have c2_0 := HB1.out.c2
      have c3_0 := HB1.out.c3
      have c4_0 := HB1.out.c4
      rw [HA0.out] at c4_0
      go_wp2
      go_ret
      exact ⟨rfl, X1.out⟩
    · have hpi : ((t.kids.length : Int) == 0) = false := beq_eq_false_iff_ne.2 (by omega)
      have HP1 := hide hp1
      clear hp1
      have hR : R = false := by rw [HE.out]; simp [HP1.out]
      clear HE
      subst hR
      go_enter Try.func53, Try.ntmps53
      go_wp2_with fail
      refine (H0.out _ X0.out).out.mono ?_
      rintro e w1 ⟨rfl, hx⟩
      have X1 := hide (X0.out.trans hx)
      have HB1 := hide (HB0.out.ext hx)
      clear hx
      have c0_0 := HB1.out.c0
      have c1_0 := HB1.out.c1
      have c2_0 := HB1.out.c2
      have c3_0 := HB1.out.c3
      have c4_0 := HB1.out.c4
      rw [HA0.out] at c4_0
      go_wp2
      go_ret
      exact ⟨rfl, X1.out⟩

set_option maxRecDepth 10000 in
set_option maxHeartbeats 1000000 in
theorem n_exp_int (t : Tree) (hk : t.kind = 23) : Asks 53 expB t := by
  intro w h
  have HE : Hid (expB t = ((t.text == []) && decide (0 ≤ t.n) && decide (t.kids.length = 0))) := hide (exp_int t hk)
  have Hk := hide h.nodes
  have hle := h.le
  have hmx := h.max
  have HB0 := hide (NBox.new w t)
  have X0 : Hid (Ext w (w.alloc (.cells #[.int .i64 t.kind, .int .i64 t.pos, .int .i64 t.n, encStr t.text, .slice t.A t.kids.length t.cap] 54))) := hide ((Ext.refl w).alloc _)
  have hk21 : (t.kind == 21) = false := by rw [hk]; rfl
  have hk22 : (t.kind == 22) = false := by rw [hk]; rfl
  have hk23 : (t.kind == 23) = true := by rw [hk]; rfl
  clear hk
  generalize expB t = R at *
  unfold treeV at *
  have HN := hide h
  clear h
  generalize hA0 : t.A = A0 at *
  have HA0 := hide hA0
  clear hA0
  by_cases hp0 : (t.text == []) = true
  · have hs0 : (t.text == []) = true := hp0
    have HP0 := hide hp0
    clear hp0
    by_cases hp1 : 0 ≤ t.n
    · have hn0 : t.n ≥ 0 := hp1
      have HP1 := hide hp1
      clear hp1
      by_cases hp2 : t.kids.length = 0
      · have hpi : ((t.kids.length : Int) == 0) = true := beq_iff_eq.2 (by omega)
        have HP2 := hide hp2
        clear hp2
        have hR : R = true := by rw [HE.out]; simp [HP0.out, HP1.out, HP2.out]
        clear HE
        subst hR
        go_enter Try.func53, Try.ntmps53
        go_wp2
        go_ret
        exact ⟨rfl, (by repeat (first | exact Ext.refl _ | exact Ext.pre (by simp) | exact Ext.alloc (by assumption) _ | refine Ext.alloc ?_ _ |  refine Ext.more ?_ _ _ | refine Ext.drew ?_ | refine Ext.drewN ?_ _))⟩
      · have hpi : ((t.kids.length : Int) == 0) = false := beq_eq_false_iff_ne.2 (by omega)
        have HP2 := hide hp2
        clear hp2
        have hR : R = false := by rw [HE.out]; simp [HP2.out]
        clear HE
        subst hR
        go_enter Try.func53, Try.ntmps53
        go_wp2
        go_ret
        exact ⟨rfl, (by repeat (first | exact Ext.refl _ | exact Ext.pre (by simp) | exact Ext.alloc (by assumption) _ | refine Ext.alloc ?_ _ |  refine Ext.more ?_ _ _ | refine Ext.drew ?_ | refine Ext.drewN ?_ _))⟩
    · have hn0 : ¬ t.n ≥ 0 := hp1
      have HP1 := hide hp1
      clear hp1
      have hR : R = false := by rw [HE.out]; simp [HP1.out]
      clear HE
      subst hR
      go_enter Try.func53, Try.ntmps53
      go_wp2
      go_ret
      exact ⟨rfl, (by repeat (first | exact Ext.refl _ | exact Ext.pre (by simp) | exact Ext.alloc (by assumption) _ | refine Ext.alloc ?_ _ |  refine Ext.more ?_ _ _ | refine Ext.drew ?_ | refine Ext.drewN ?_ _))⟩
  · have hs0 : (t.text == []) = false := by simpa using hp0
    have HP0 := hide hp0
    clear hp0
    have hR : R = false := by rw [HE.out]; simp [HP0.out]
    clear HE
    subst hR
    go_enter Try.func53, Try.ntmps53
    go_wp2
    go_ret
    exact ⟨rfl, (by repeat (first | exact Ext.refl _ | exact Ext.pre (by simp) | exact Ext.alloc (by assumption) _ | refine Ext.alloc ?_ _ |  refine Ext.more ?_ _ _ | refine Ext.drew ?_ | refine Ext.drewN ?_ _))⟩

set_option maxRecDepth 10000 in
set_option maxHeartbeats 1000000 in
theorem n_exp_app (t : Tree) (hk : t.kind = 24) (ih : ∀ k : Tree, k.size < t.size → Asks 53 expB k) : Asks 53 expB t := by
  intro w h
  have HE : Hid (expB t = (bareB t && decide (t.kids.length = 2) && t.kids.all expB)) := hide (exp_app t hk)
  have Hk := hide h.nodes
  have hle := h.le
  have hmx := h.max
  have HB0 := hide (NBox.new w t)
  have X0 : Hid (Ext w (w.alloc (.cells #[.int .i64 t.kind, .int .i64 t.pos, .int .i64 t.n, encStr t.text, .slice t.A t.kids.length t.cap] 54))) := hide ((Ext.refl w).alloc _)
  have hk21 : (t.kind == 21) = false := by rw [hk]; rfl
  have hk22 : (t.kind == 22) = false := by rw [hk]; rfl
  have hk23 : (t.kind == 23) = false := by rw [hk]; rfl
  have hk24 : (t.kind == 24) = true := by rw [hk]; rfl
  clear hk
  have H0 := hide (fun w' (e : Ext w w') => hide (n_bare t w' (h.ext e)))
  have H2 := hide (fun w' (e : Ext w w') => hide (n_each 53 expB nisexp_opens t.A t.cap t.kids w' (h.nodes.ext e) (by omega) (fun k hk => ih k (Tree.size_kid hk))))
  generalize expB t = R at *
  generalize bareB t = B0 at *
  generalize t.kids.all expB = B2 at *
  unfold treeV at *
  have HN := hide h
  clear h
  generalize hA0 : t.A = A0 at *
  have HA0 := hide hA0
  clear hA0
  cases B0
  · have hR : R = false := by rw [HE.out]; simp
    clear HE
    subst hR
    go_enter Try.func53, Try.ntmps53
    go_wp2_with fail
    refine (H0.out _ X0.out).out.mono ?_
    rintro e w1 ⟨rfl, hx⟩
    have X1 := hide (X0.out.trans hx)
    have HB1 := hide (HB0.out.ext hx)
    clear hx
    have c0_0 := HB1.out.c0
    have c1_0 := HB1.out.c1
    have c2_0 := HB1.out.c2
    have c3_0 := HB1.out.c3
    have c4_0 := HB1.out.c4
    rw [HA0.out] at c4_0
    go_wp2
    go_ret
    exact ⟨rfl, X1.out⟩
  · by_cases hp1 : t.kids.length = 2
    · have hpi : ((t.kids.length : Int) == 2) = true := beq_iff_eq.2 (by omega)
      have hpz0 : (0 : Int) < (t.kids.length : Int) := by omega
      have hpz1 : (1 : Int) < (t.kids.length : Int) := by omega
      have HP1 := hide hp1
      clear hp1
      have hR : R = B2 := by rw [HE.out]; simp [HP1.out]
      clear HE
      subst hR
      go_enter Try.func53, Try.ntmps53
      go_wp2_with fail
      refine (H0.out _ X0.out).out.mono ?_
      rintro e w1 ⟨rfl, hx⟩
      have X1 := hide (X0.out.trans hx)
      have HB1 := hide (HB0.out.ext hx)
      clear hx
      have c0_0 := HB1.out.c0
      have c1_0 := HB1.out.c1
      have c2_0 := HB1.out.c2
      have c3_0 := HB1.out.c3
      have c4_0 := HB1.out.c4
      rw [HA0.out] at c4_0
      go_wp2_with fail
      refine (H2.out _ X1.out).out.mono ?_
      rintro e w3 ⟨rfl, hx⟩
      have X3 := hide (X1.out.trans hx)
      have HB3 := hide (HB1.out.ext hx)
      clear hx
      have c0_2 := HB3.out.c0
      have c1_2 := HB3.out.c1
      have c2_2 := HB3.out.c2
      have c3_2 := HB3.out.c3
      have c4_2 := HB3.out.c4
      rw [HA0.out] at c4_2
      go_wp2
      go_ret
      exact ⟨rfl, X3.out⟩
    · have hpi : ((t.kids.length : Int) == 2) = false := beq_eq_false_iff_ne.2 (by omega)
      have HP1 := hide hp1
      clear hp1
      have hR : R = false := by rw [HE.out]; simp [HP1.out]
      clear HE
      subst hR
      go_enter Try.func53, Try.ntmps53
      go_wp2_with fail
      refine (H0.out _ X0.out).out.mono ?_
      rintro e w1 ⟨rfl, hx⟩
      have X1 := hide (X0.out.trans hx)
      have HB1 := hide (HB0.out.ext hx)
      clear hx
      have c0_0 := HB1.out.c0
      have c1_0 := HB1.out.c1
      have c2_0 := HB1.out.c2
      have c3_0 := HB1.out.c3
      have c4_0 := HB1.out.c4
      rw [HA0.out] at c4_0
      go_wp2
      go_ret
      exact ⟨rfl, X1.out⟩

set_option maxRecDepth 10000 in
set_option maxHeartbeats 1000000 in
theorem n_exp_lam (t : Tree) (hk : t.kind = 25) (ih : ∀ k : Tree, k.size < t.size → Asks 53 expB k) : Asks 53 expB t := by
  intro w h
  have HE : Hid (expB t = (namedB varB t && decide (t.kids.length = 1) && expB (t.kid 0))) := hide (exp_lam t hk)
  have Hk := hide h.nodes
  have hle := h.le
  have hmx := h.max
  have HB0 := hide (NBox.new w t)
  have X0 : Hid (Ext w (w.alloc (.cells #[.int .i64 t.kind, .int .i64 t.pos, .int .i64 t.n, encStr t.text, .slice t.A t.kids.length t.cap] 54))) := hide ((Ext.refl w).alloc _)
  have hk21 : (t.kind == 21) = false := by rw [hk]; rfl
  have hk22 : (t.kind == 22) = false := by rw [hk]; rfl
  have hk23 : (t.kind == 23) = false := by rw [hk]; rfl
  have hk24 : (t.kind == 24) = false := by rw [hk]; rfl
  have hk25 : (t.kind == 25) = true := by rw [hk]; rfl
  clear hk
  have H0 := hide (fun w' (e : Ext w w') => hide (n_named 67 varB n_var_as nvar_opens t w' (h.ext e)))
  generalize expB t = R at *
  generalize namedB varB t = B0 at *
  unfold treeV at *
  have HN := hide h
  clear h
  generalize hA0 : t.A = A0 at *
  have HA0 := hide hA0
  clear hA0
  cases B0
  · have hR : R = false := by rw [HE.out]; simp
    clear HE
    subst hR
    go_enter Try.func53, Try.ntmps53
    go_wp2_with fail
    refine (H0.out _ X0.out).out.mono ?_
    rintro e w1 ⟨rfl, hx⟩
    have X1 := hide (X0.out.trans hx)
    have HB1 := hide (HB0.out.ext hx)
    clear hx
    have c0_0 := HB1.out.c0
    have c1_0 := HB1.out.c1
    have c2_0 := HB1.out.c2
    have c3_0 := HB1.out.c3
    have c4_0 := HB1.out.c4
    rw [HA0.out] at c4_0
    go_wp2
    go_ret
    exact ⟨rfl, X1.out⟩
  · by_cases hp1 : t.kids.length = 1
    · have hpi : ((t.kids.length : Int) == 1) = true := beq_iff_eq.2 (by omega)
      have hpz0 : (0 : Int) < (t.kids.length : Int) := by omega
      have HP1 := hide hp1
      clear hp1
      have hlt0 : 0 < t.kids.length := by have := HP1.out; omega
      obtain ⟨b, o, hAe, hb⟩ := Hk.out.some_ (by omega)
      subst hAe
      have HQ0 : Hid (∀ w', Ext w w' → w'.cell? ⟨b, o, none⟩ = some (.int .i64 (t.kids[0]'hlt0).kind) ∧ w'.cell? ⟨b, o + 1, none⟩ = some (.int .i64 (t.kids[0]'hlt0).pos) ∧ w'.cell? ⟨b, o + 2, none⟩ = some (.int .i64 (t.kids[0]'hlt0).n) ∧ w'.cell? ⟨b, o + 3, none⟩ = some (.string ⟨(t.kids[0]'hlt0).text.toArray⟩) ∧ w'.cell? ⟨b, o + 4, none⟩ = some (.slice (t.kids[0]'hlt0).A (t.kids[0]'hlt0).kids.length (t.kids[0]'hlt0).cap)) := hide (fun w' e => by have := (Hk.out.ext e).cells hlt0; simpa using this)
      have HN0 := hide (Hk.out.kids _ (List.getElem_mem hlt0))
      rw [kid_get hlt0] at HE
      have HMem0 := List.getElem_mem hlt0
      have H2 := hide (fun w' (e : Ext w w') => hide (ih (t.kids[0]'hlt0) (Tree.size_kid HMem0) w' (HN0.out.ext e)))
      generalize expB (t.kids[0]'hlt0) = B2 at *
      clear HMem0
      generalize t.kids[0]'hlt0 = c0 at *
      obtain ⟨q0_0, q1_0, q2_0, q3_0, q4_0⟩ := HQ0.out _ (Ext.refl w)
      have hR : R = B2 := by rw [HE.out]; simp [HP1.out]
      clear HE
      subst hR
      go_enter Try.func53, Try.ntmps53
      go_wp2_with fail
      refine (H0.out _ X0.out).out.mono ?_
      rintro e w1 ⟨rfl, hx⟩
      have X1 := hide (X0.out.trans hx)
      have HB1 := hide (HB0.out.ext hx)
      clear hx
      have c0_0 := HB1.out.c0
      have c1_0 := HB1.out.c1
      have c2_0 := HB1.out.c2
      have c3_0 := HB1.out.c3
      have c4_0 := HB1.out.c4
      rw [HA0.out] at c4_0
      obtain ⟨q0_0_0, q1_0_0, q2_0_0, q3_0_0, q4_0_0⟩ := HQ0.out _ X1.out
      go_wp2_with fail
      refine (H2.out _ X1.out).out.mono ?_
      rintro e w3 ⟨rfl, hx⟩
      have X3 := hide (X1.out.trans hx)
      have HB3 := hide (HB1.out.ext hx)
      clear hx
      have c0_2 := HB3.out.c0
      have c1_2 := HB3.out.c1
      have c2_2 := HB3.out.c2
      have c3_2 := HB3.out.c3
      have c4_2 := HB3.out.c4
      rw [HA0.out] at c4_2
      obtain ⟨q0_2_0, q1_2_0, q2_2_0, q3_2_0, q4_2_0⟩ := HQ0.out _ X3.out
      go_wp2
      go_ret
      exact ⟨rfl, X3.out⟩
    · have hpi : ((t.kids.length : Int) == 1) = false := beq_eq_false_iff_ne.2 (by omega)
      have HP1 := hide hp1
      clear hp1
      have hR : R = false := by rw [HE.out]; simp [HP1.out]
      clear HE
      subst hR
      go_enter Try.func53, Try.ntmps53
      go_wp2_with fail
      refine (H0.out _ X0.out).out.mono ?_
      rintro e w1 ⟨rfl, hx⟩
      have X1 := hide (X0.out.trans hx)
      have HB1 := hide (HB0.out.ext hx)
      clear hx
      have c0_0 := HB1.out.c0
      have c1_0 := HB1.out.c1
      have c2_0 := HB1.out.c2
      have c3_0 := HB1.out.c3
      have c4_0 := HB1.out.c4
      rw [HA0.out] at c4_0
      go_wp2
      go_ret
      exact ⟨rfl, X1.out⟩

end Go.Proofs.Ytnbnhchgkbbiiaa
