/- Contracts on nodes: predicates, signatures, bindings, alternatives. (A program of ours has printed the walks.) -/
import Derived.Test.YtnbnhchgkbbiiaaExpB
import Derived.Shelf.Abstract
namespace Go.Proofs.Ytnbnhchgkbbiiaa
open Go.RowKit Go.Shelf

theorem nvar_opens : Opens 67 := enters_of Try.func67 (by kernel_rfl) rfl
theorem ncon_opens : Opens 68 := enters_of Try.func68 (by kernel_rfl) rfl
theorem n_var_as : AsksS 67 varB := fun s w h => n_var s w h
theorem n_con_as : AsksS 68 conB := fun s w h => n_con s w h
set_option maxRecDepth 10000 in
set_option maxHeartbeats 1000000 in
theorem n_pred (t : Tree) (ih : ∀ k ∈ t.kids, Asks 112 typeB k) : Asks 111 predB t := by
  intro w h
  have HE : Hid (predB t = (decide (t.kind = 3) && namedB conB t && decide (t.kids.length = 1) && typeB (t.kid 0))) := hide (rfl)
  have Hk := hide h.nodes
  have hle := h.le
  have hmx := h.max
  have HB0 := hide (NBox.new w t)
  have X0 : Hid (Ext w (w.alloc (.cells #[.int .i64 t.kind, .int .i64 t.pos, .int .i64 t.n, encStr t.text, .slice t.A t.kids.length t.cap] 54))) := hide ((Ext.refl w).alloc _)
  have H1 := hide (fun w' (e : Ext w w') => hide (n_named 68 conB n_con_as ncon_opens t w' (h.ext e)))
  generalize predB t = R at *
  generalize namedB conB t = B1 at *
  unfold treeV at *
  have HN := hide h
  clear h
  generalize hA0 : t.A = A0 at *
  have HA0 := hide hA0
  clear hA0
  by_cases hp0 : t.kind = 3
  · have hki : (t.kind == 3) = true := by simpa using hp0
    have HP0 := hide hp0
    clear hp0
    cases B1
    · have hR : R = false := by rw [HE.out]; simp
      clear HE
      subst hR
      go_enter Try.func111, Try.ntmps111
      go_wp2_with fail
      refine (H1.out _ X0.out).out.mono ?_
      rintro e w2 ⟨rfl, hx⟩
      have X2 := hide (X0.out.trans hx)
      have HB2 := hide (HB0.out.ext hx)
      clear hx
      have c0_1 := HB2.out.c0
      have c1_1 := HB2.out.c1
      have c2_1 := HB2.out.c2
      have c3_1 := HB2.out.c3
      have c4_1 := HB2.out.c4
      rw [HA0.out] at c4_1
      go_wp2
      go_ret
      exact ⟨rfl, X2.out⟩
    · by_cases hp2 : t.kids.length = 1
      · have hpi : ((t.kids.length : Int) == 1) = true := beq_iff_eq.2 (by omega)
        have hpz0 : (0 : Int) < (t.kids.length : Int) := by omega
        have HP2 := hide hp2
        clear hp2
        have hlt0 : 0 < t.kids.length := by have := HP2.out; omega
        obtain ⟨b, o, hAe, hb⟩ := Hk.out.some_ (by omega)
        subst hAe
        have HQ0 : Hid (∀ w', Ext w w' → w'.cell? ⟨b, o, none⟩ = some (.int .i64 (t.kids[0]'hlt0).kind) ∧ w'.cell? ⟨b, o + 1, none⟩ = some (.int .i64 (t.kids[0]'hlt0).pos) ∧ w'.cell? ⟨b, o + 2, none⟩ = some (.int .i64 (t.kids[0]'hlt0).n) ∧ w'.cell? ⟨b, o + 3, none⟩ = some (.string ⟨(t.kids[0]'hlt0).text.toArray⟩) ∧ w'.cell? ⟨b, o + 4, none⟩ = some (.slice (t.kids[0]'hlt0).A (t.kids[0]'hlt0).kids.length (t.kids[0]'hlt0).cap)) := hide (fun w' e => by have := (Hk.out.ext e).cells hlt0; simpa using this)
        have HN0 := hide (Hk.out.kids _ (List.getElem_mem hlt0))
        rw [kid_get hlt0] at HE
        have HMem0 := List.getElem_mem hlt0
        have H3 := hide (fun w' (e : Ext w w') => hide (ih (t.kids[0]'hlt0) HMem0 w' (HN0.out.ext e)))
        generalize typeB (t.kids[0]'hlt0) = B3 at *
        clear HMem0
        generalize t.kids[0]'hlt0 = c0 at *
        obtain ⟨q0_0, q1_0, q2_0, q3_0, q4_0⟩ := HQ0.out _ (Ext.refl w)
        have hR : R = B3 := by rw [HE.out]; simp [HP0.out, HP2.out]
        clear HE
        subst hR
        go_enter Try.func111, Try.ntmps111
        go_wp2_with fail
        refine (H1.out _ X0.out).out.mono ?_
        rintro e w2 ⟨rfl, hx⟩
        have X2 := hide (X0.out.trans hx)
        have HB2 := hide (HB0.out.ext hx)
        clear hx
        have c0_1 := HB2.out.c0
        have c1_1 := HB2.out.c1
        have c2_1 := HB2.out.c2
        have c3_1 := HB2.out.c3
        have c4_1 := HB2.out.c4
        rw [HA0.out] at c4_1
        obtain ⟨q0_1_0, q1_1_0, q2_1_0, q3_1_0, q4_1_0⟩ := HQ0.out _ X2.out
        go_wp2_with fail
        refine (H3.out _ X2.out).out.mono ?_
        rintro e w4 ⟨rfl, hx⟩
        have X4 := hide (X2.out.trans hx)
        have HB4 := hide (HB2.out.ext hx)
        clear hx
        have c0_3 := HB4.out.c0
        have c1_3 := HB4.out.c1
        have c2_3 := HB4.out.c2
        have c3_3 := HB4.out.c3
        have c4_3 := HB4.out.c4
        rw [HA0.out] at c4_3
        obtain ⟨q0_3_0, q1_3_0, q2_3_0, q3_3_0, q4_3_0⟩ := HQ0.out _ X4.out
        go_wp2
        go_ret
        exact ⟨rfl, X4.out⟩
      · have hpi : ((t.kids.length : Int) == 1) = false := beq_eq_false_iff_ne.2 (by omega)
        have HP2 := hide hp2
        clear hp2
        have hR : R = false := by rw [HE.out]; simp [HP2.out]
        clear HE
        subst hR
        go_enter Try.func111, Try.ntmps111
        go_wp2_with fail
        refine (H1.out _ X0.out).out.mono ?_
        rintro e w2 ⟨rfl, hx⟩
        have X2 := hide (X0.out.trans hx)
        have HB2 := hide (HB0.out.ext hx)
        clear hx
        have c0_1 := HB2.out.c0
        have c1_1 := HB2.out.c1
        have c2_1 := HB2.out.c2
        have c3_1 := HB2.out.c3
        have c4_1 := HB2.out.c4
        rw [HA0.out] at c4_1
        go_wp2
        go_ret
        exact ⟨rfl, X2.out⟩
  · have hki : (t.kind == 3) = false := by simpa using hp0
    have HP0 := hide hp0
    clear hp0
    have hR : R = false := by rw [HE.out]; simp [HP0.out]
    clear HE
    subst hR
    go_enter Try.func111, Try.ntmps111
    go_wp2
    go_ret
    exact ⟨rfl, (by repeat (first | exact Ext.refl _ | exact Ext.pre (by simp) | exact Ext.alloc (by assumption) _ | refine Ext.alloc ?_ _ |  refine Ext.more ?_ _ _ | refine Ext.drew ?_ | refine Ext.drewN ?_ _))⟩

set_option maxRecDepth 10000 in
set_option maxHeartbeats 1000000 in
theorem n_sig (t : Tree) (ih : ∀ k ∈ t.kids, Asks 99 qualB k) : Asks 73 sigB t := by
  intro w h
  have HE : Hid (sigB t = (decide (t.kind = 32) && namedB varB t && decide (t.kids.length = 1) && qualB (t.kid 0))) := hide (rfl)
  have Hk := hide h.nodes
  have hle := h.le
  have hmx := h.max
  have HB0 := hide (NBox.new w t)
  have X0 : Hid (Ext w (w.alloc (.cells #[.int .i64 t.kind, .int .i64 t.pos, .int .i64 t.n, encStr t.text, .slice t.A t.kids.length t.cap] 54))) := hide ((Ext.refl w).alloc _)
  have H1 := hide (fun w' (e : Ext w w') => hide (n_named 67 varB n_var_as nvar_opens t w' (h.ext e)))
  generalize sigB t = R at *
  generalize namedB varB t = B1 at *
  unfold treeV at *
  have HN := hide h
  clear h
  generalize hA0 : t.A = A0 at *
  have HA0 := hide hA0
  clear hA0
  by_cases hp0 : t.kind = 32
  · have hki : (t.kind == 32) = true := by simpa using hp0
    have HP0 := hide hp0
    clear hp0
    cases B1
    · have hR : R = false := by rw [HE.out]; simp
      clear HE
      subst hR
      go_enter Try.func73, Try.ntmps73
      go_wp2_with fail
      refine (H1.out _ X0.out).out.mono ?_
      rintro e w2 ⟨rfl, hx⟩
      have X2 := hide (X0.out.trans hx)
      have HB2 := hide (HB0.out.ext hx)
      clear hx
      have c0_1 := HB2.out.c0
      have c1_1 := HB2.out.c1
      have c2_1 := HB2.out.c2
      have c3_1 := HB2.out.c3
      have c4_1 := HB2.out.c4
      rw [HA0.out] at c4_1
      go_wp2
      go_ret
      exact ⟨rfl, X2.out⟩
    · by_cases hp2 : t.kids.length = 1
      · have hpi : ((t.kids.length : Int) == 1) = true := beq_iff_eq.2 (by omega)
        have hpz0 : (0 : Int) < (t.kids.length : Int) := by omega
        have HP2 := hide hp2
        clear hp2
        have hlt0 : 0 < t.kids.length := by have := HP2.out; omega
        obtain ⟨b, o, hAe, hb⟩ := Hk.out.some_ (by omega)
        subst hAe
        have HQ0 : Hid (∀ w', Ext w w' → w'.cell? ⟨b, o, none⟩ = some (.int .i64 (t.kids[0]'hlt0).kind) ∧ w'.cell? ⟨b, o + 1, none⟩ = some (.int .i64 (t.kids[0]'hlt0).pos) ∧ w'.cell? ⟨b, o + 2, none⟩ = some (.int .i64 (t.kids[0]'hlt0).n) ∧ w'.cell? ⟨b, o + 3, none⟩ = some (.string ⟨(t.kids[0]'hlt0).text.toArray⟩) ∧ w'.cell? ⟨b, o + 4, none⟩ = some (.slice (t.kids[0]'hlt0).A (t.kids[0]'hlt0).kids.length (t.kids[0]'hlt0).cap)) := hide (fun w' e => by have := (Hk.out.ext e).cells hlt0; simpa using this)
        have HN0 := hide (Hk.out.kids _ (List.getElem_mem hlt0))
        rw [kid_get hlt0] at HE
        have HMem0 := List.getElem_mem hlt0
        have H3 := hide (fun w' (e : Ext w w') => hide (ih (t.kids[0]'hlt0) HMem0 w' (HN0.out.ext e)))
        generalize qualB (t.kids[0]'hlt0) = B3 at *
        clear HMem0
        generalize t.kids[0]'hlt0 = c0 at *
        obtain ⟨q0_0, q1_0, q2_0, q3_0, q4_0⟩ := HQ0.out _ (Ext.refl w)
        have hR : R = B3 := by rw [HE.out]; simp [HP0.out, HP2.out]
        clear HE
        subst hR
        go_enter Try.func73, Try.ntmps73
        go_wp2_with fail
        refine (H1.out _ X0.out).out.mono ?_
        rintro e w2 ⟨rfl, hx⟩
        have X2 := hide (X0.out.trans hx)
        have HB2 := hide (HB0.out.ext hx)
        clear hx
        have c0_1 := HB2.out.c0
        have c1_1 := HB2.out.c1
        have c2_1 := HB2.out.c2
        have c3_1 := HB2.out.c3
        have c4_1 := HB2.out.c4
        rw [HA0.out] at c4_1
        obtain ⟨q0_1_0, q1_1_0, q2_1_0, q3_1_0, q4_1_0⟩ := HQ0.out _ X2.out
        go_wp2_with fail
        refine (H3.out _ X2.out).out.mono ?_
        rintro e w4 ⟨rfl, hx⟩
        have X4 := hide (X2.out.trans hx)
        have HB4 := hide (HB2.out.ext hx)
        clear hx
        have c0_3 := HB4.out.c0
        have c1_3 := HB4.out.c1
        have c2_3 := HB4.out.c2
        have c3_3 := HB4.out.c3
        have c4_3 := HB4.out.c4
        rw [HA0.out] at c4_3
        obtain ⟨q0_3_0, q1_3_0, q2_3_0, q3_3_0, q4_3_0⟩ := HQ0.out _ X4.out
        go_wp2
        go_ret
        exact ⟨rfl, X4.out⟩
      · have hpi : ((t.kids.length : Int) == 1) = false := beq_eq_false_iff_ne.2 (by omega)
        have HP2 := hide hp2
        clear hp2
        have hR : R = false := by rw [HE.out]; simp [HP2.out]
        clear HE
        subst hR
        go_enter Try.func73, Try.ntmps73
        go_wp2_with fail
        refine (H1.out _ X0.out).out.mono ?_
        rintro e w2 ⟨rfl, hx⟩
        have X2 := hide (X0.out.trans hx)
        have HB2 := hide (HB0.out.ext hx)
        clear hx
        have c0_1 := HB2.out.c0
        have c1_1 := HB2.out.c1
        have c2_1 := HB2.out.c2
        have c3_1 := HB2.out.c3
        have c4_1 := HB2.out.c4
        rw [HA0.out] at c4_1
        go_wp2
        go_ret
        exact ⟨rfl, X2.out⟩
  · have hki : (t.kind == 32) = false := by simpa using hp0
    have HP0 := hide hp0
    clear hp0
    have hR : R = false := by rw [HE.out]; simp [HP0.out]
    clear HE
    subst hR
    go_enter Try.func73, Try.ntmps73
    go_wp2
    go_ret
    exact ⟨rfl, (by repeat (first | exact Ext.refl _ | exact Ext.pre (by simp) | exact Ext.alloc (by assumption) _ | refine Ext.alloc ?_ _ |  refine Ext.more ?_ _ _ | refine Ext.drew ?_ | refine Ext.drewN ?_ _))⟩

set_option maxRecDepth 10000 in
set_option maxHeartbeats 1000000 in
theorem n_bind (t : Tree) (ih : ∀ k ∈ t.kids, Asks 53 expB k) : Asks 72 bindB t := by
  intro w h
  have HE : Hid (bindB t = (decide (t.kind = 31) && namedB varB t && decide (t.kids.length = 1) && expB (t.kid 0))) := hide (bind_eq t)
  have Hk := hide h.nodes
  have hle := h.le
  have hmx := h.max
  have HB0 := hide (NBox.new w t)
  have X0 : Hid (Ext w (w.alloc (.cells #[.int .i64 t.kind, .int .i64 t.pos, .int .i64 t.n, encStr t.text, .slice t.A t.kids.length t.cap] 54))) := hide ((Ext.refl w).alloc _)
  have H1 := hide (fun w' (e : Ext w w') => hide (n_named 67 varB n_var_as nvar_opens t w' (h.ext e)))
  generalize bindB t = R at *
  generalize namedB varB t = B1 at *
  unfold treeV at *
  have HN := hide h
  clear h
  generalize hA0 : t.A = A0 at *
  have HA0 := hide hA0
  clear hA0
  by_cases hp0 : t.kind = 31
  · have hki : (t.kind == 31) = true := by simpa using hp0
    have HP0 := hide hp0
    clear hp0
    cases B1
    · have hR : R = false := by rw [HE.out]; simp
      clear HE
      subst hR
      go_enter Try.func72, Try.ntmps72
      go_wp2_with fail
      refine (H1.out _ X0.out).out.mono ?_
      rintro e w2 ⟨rfl, hx⟩
      have X2 := hide (X0.out.trans hx)
      have HB2 := hide (HB0.out.ext hx)
      clear hx
      have c0_1 := HB2.out.c0
      have c1_1 := HB2.out.c1
      have c2_1 := HB2.out.c2
      have c3_1 := HB2.out.c3
      have c4_1 := HB2.out.c4
      rw [HA0.out] at c4_1
      go_wp2
      go_ret
      exact ⟨rfl, X2.out⟩
    · by_cases hp2 : t.kids.length = 1
      · have hpi : ((t.kids.length : Int) == 1) = true := beq_iff_eq.2 (by omega)
        have hpz0 : (0 : Int) < (t.kids.length : Int) := by omega
        have HP2 := hide hp2
        clear hp2
        have hlt0 : 0 < t.kids.length := by have := HP2.out; omega
        obtain ⟨b, o, hAe, hb⟩ := Hk.out.some_ (by omega)
        subst hAe
        have HQ0 : Hid (∀ w', Ext w w' → w'.cell? ⟨b, o, none⟩ = some (.int .i64 (t.kids[0]'hlt0).kind) ∧ w'.cell? ⟨b, o + 1, none⟩ = some (.int .i64 (t.kids[0]'hlt0).pos) ∧ w'.cell? ⟨b, o + 2, none⟩ = some (.int .i64 (t.kids[0]'hlt0).n) ∧ w'.cell? ⟨b, o + 3, none⟩ = some (.string ⟨(t.kids[0]'hlt0).text.toArray⟩) ∧ w'.cell? ⟨b, o + 4, none⟩ = some (.slice (t.kids[0]'hlt0).A (t.kids[0]'hlt0).kids.length (t.kids[0]'hlt0).cap)) := hide (fun w' e => by have := (Hk.out.ext e).cells hlt0; simpa using this)
        have HN0 := hide (Hk.out.kids _ (List.getElem_mem hlt0))
        rw [kid_get hlt0] at HE
        have HMem0 := List.getElem_mem hlt0
        have H3 := hide (fun w' (e : Ext w w') => hide (ih (t.kids[0]'hlt0) HMem0 w' (HN0.out.ext e)))
        generalize expB (t.kids[0]'hlt0) = B3 at *
        clear HMem0
        generalize t.kids[0]'hlt0 = c0 at *
        obtain ⟨q0_0, q1_0, q2_0, q3_0, q4_0⟩ := HQ0.out _ (Ext.refl w)
        have hR : R = B3 := by rw [HE.out]; simp [HP0.out, HP2.out]
        clear HE
        subst hR
        go_enter Try.func72, Try.ntmps72
        go_wp2_with fail
        refine (H1.out _ X0.out).out.mono ?_
        rintro e w2 ⟨rfl, hx⟩
        have X2 := hide (X0.out.trans hx)
        have HB2 := hide (HB0.out.ext hx)
        clear hx
        have c0_1 := HB2.out.c0
        have c1_1 := HB2.out.c1
        have c2_1 := HB2.out.c2
        have c3_1 := HB2.out.c3
        have c4_1 := HB2.out.c4
        rw [HA0.out] at c4_1
        obtain ⟨q0_1_0, q1_1_0, q2_1_0, q3_1_0, q4_1_0⟩ := HQ0.out _ X2.out
        go_wp2_with fail
        refine (H3.out _ X2.out).out.mono ?_
        rintro e w4 ⟨rfl, hx⟩
        have X4 := hide (X2.out.trans hx)
        have HB4 := hide (HB2.out.ext hx)
        clear hx
        have c0_3 := HB4.out.c0
        have c1_3 := HB4.out.c1
        have c2_3 := HB4.out.c2
        have c3_3 := HB4.out.c3
        have c4_3 := HB4.out.c4
        rw [HA0.out] at c4_3
        obtain ⟨q0_3_0, q1_3_0, q2_3_0, q3_3_0, q4_3_0⟩ := HQ0.out _ X4.out
        go_wp2
        go_ret
        exact ⟨rfl, X4.out⟩
      · have hpi : ((t.kids.length : Int) == 1) = false := beq_eq_false_iff_ne.2 (by omega)
        have HP2 := hide hp2
        clear hp2
        have hR : R = false := by rw [HE.out]; simp [HP2.out]
        clear HE
        subst hR
        go_enter Try.func72, Try.ntmps72
        go_wp2_with fail
        refine (H1.out _ X0.out).out.mono ?_
        rintro e w2 ⟨rfl, hx⟩
        have X2 := hide (X0.out.trans hx)
        have HB2 := hide (HB0.out.ext hx)
        clear hx
        have c0_1 := HB2.out.c0
        have c1_1 := HB2.out.c1
        have c2_1 := HB2.out.c2
        have c3_1 := HB2.out.c3
        have c4_1 := HB2.out.c4
        rw [HA0.out] at c4_1
        go_wp2
        go_ret
        exact ⟨rfl, X2.out⟩
  · have hki : (t.kind == 31) = false := by simpa using hp0
    have HP0 := hide hp0
    clear hp0
    have hR : R = false := by rw [HE.out]; simp [HP0.out]
    clear HE
    subst hR
    go_enter Try.func72, Try.ntmps72
    go_wp2
    go_ret
    exact ⟨rfl, (by repeat (first | exact Ext.refl _ | exact Ext.pre (by simp) | exact Ext.alloc (by assumption) _ | refine Ext.alloc ?_ _ |  refine Ext.more ?_ _ _ | refine Ext.drew ?_ | refine Ext.drewN ?_ _))⟩

set_option maxRecDepth 10000 in
set_option maxHeartbeats 1000000 in
theorem n_alt (t : Tree) (ihp : ∀ k ∈ t.kids, Asks 100 patB k) (ih : ∀ k ∈ t.kids, Asks 53 expB k) : Asks 74 altB t := by
  intro w h
  have HE : Hid (altB t = (decide (t.kind = 15) && bareB t && decide (t.kids.length = 2) && patB (t.kid 0) && expB (t.kid 1))) := hide (alt_eq t)
  have Hk := hide h.nodes
  have hle := h.le
  have hmx := h.max
  have HB0 := hide (NBox.new w t)
  have X0 : Hid (Ext w (w.alloc (.cells #[.int .i64 t.kind, .int .i64 t.pos, .int .i64 t.n, encStr t.text, .slice t.A t.kids.length t.cap] 54))) := hide ((Ext.refl w).alloc _)
  have H1 := hide (fun w' (e : Ext w w') => hide (n_bare t w' (h.ext e)))
  generalize altB t = R at *
  generalize bareB t = B1 at *
  unfold treeV at *
  have HN := hide h
  clear h
  generalize hA0 : t.A = A0 at *
  have HA0 := hide hA0
  clear hA0
  by_cases hp0 : t.kind = 15
  · have hki : (t.kind == 15) = true := by simpa using hp0
    have HP0 := hide hp0
    clear hp0
    cases B1
    · have hR : R = false := by rw [HE.out]; simp
      clear HE
      subst hR
      go_enter Try.func74, Try.ntmps74
      go_wp2_with fail
      refine (H1.out _ X0.out).out.mono ?_
      rintro e w2 ⟨rfl, hx⟩
      have X2 := hide (X0.out.trans hx)
      have HB2 := hide (HB0.out.ext hx)
      clear hx
      have c0_1 := HB2.out.c0
      have c1_1 := HB2.out.c1
      have c2_1 := HB2.out.c2
      have c3_1 := HB2.out.c3
      have c4_1 := HB2.out.c4
      rw [HA0.out] at c4_1
      go_wp2
      go_ret
      exact ⟨rfl, X2.out⟩
    · by_cases hp2 : t.kids.length = 2
      · have hpi : ((t.kids.length : Int) == 2) = true := beq_iff_eq.2 (by omega)
        have hpz0 : (0 : Int) < (t.kids.length : Int) := by omega
        have hpz1 : (1 : Int) < (t.kids.length : Int) := by omega
        have HP2 := hide hp2
        clear hp2
        have hlt0 : 0 < t.kids.length := by have := HP2.out; omega
        obtain ⟨b, o, hAe, hb⟩ := Hk.out.some_ (by omega)
        subst hAe
        have HQ0 : Hid (∀ w', Ext w w' → w'.cell? ⟨b, o, none⟩ = some (.int .i64 (t.kids[0]'hlt0).kind) ∧ w'.cell? ⟨b, o + 1, none⟩ = some (.int .i64 (t.kids[0]'hlt0).pos) ∧ w'.cell? ⟨b, o + 2, none⟩ = some (.int .i64 (t.kids[0]'hlt0).n) ∧ w'.cell? ⟨b, o + 3, none⟩ = some (.string ⟨(t.kids[0]'hlt0).text.toArray⟩) ∧ w'.cell? ⟨b, o + 4, none⟩ = some (.slice (t.kids[0]'hlt0).A (t.kids[0]'hlt0).kids.length (t.kids[0]'hlt0).cap)) := hide (fun w' e => by have := (Hk.out.ext e).cells hlt0; simpa using this)
        have HN0 := hide (Hk.out.kids _ (List.getElem_mem hlt0))
        have hlt1 : 1 < t.kids.length := by have := HP2.out; omega
        have HQ1 : Hid (∀ w', Ext w w' → w'.cell? ⟨b, o + 5, none⟩ = some (.int .i64 (t.kids[1]'hlt1).kind) ∧ w'.cell? ⟨b, o + 5 + 1, none⟩ = some (.int .i64 (t.kids[1]'hlt1).pos) ∧ w'.cell? ⟨b, o + 5 + 2, none⟩ = some (.int .i64 (t.kids[1]'hlt1).n) ∧ w'.cell? ⟨b, o + 5 + 3, none⟩ = some (.string ⟨(t.kids[1]'hlt1).text.toArray⟩) ∧ w'.cell? ⟨b, o + 5 + 4, none⟩ = some (.slice (t.kids[1]'hlt1).A (t.kids[1]'hlt1).kids.length (t.kids[1]'hlt1).cap)) := hide (fun w' e => by have := (Hk.out.ext e).cells hlt1; simpa using this)
        have HN1 := hide (Hk.out.kids _ (List.getElem_mem hlt1))
        rw [kid_get hlt0] at HE
        have HMem0 := List.getElem_mem hlt0
        have H3 := hide (fun w' (e : Ext w w') => hide (ihp (t.kids[0]'hlt0) HMem0 w' (HN0.out.ext e)))
        generalize patB (t.kids[0]'hlt0) = B3 at *
        rw [kid_get hlt1] at HE
        have HMem1 := List.getElem_mem hlt1
        have H4 := hide (fun w' (e : Ext w w') => hide (ih (t.kids[1]'hlt1) HMem1 w' (HN1.out.ext e)))
        generalize expB (t.kids[1]'hlt1) = B4 at *
        clear HMem0
        generalize t.kids[0]'hlt0 = c0 at *
        obtain ⟨q0_0, q1_0, q2_0, q3_0, q4_0⟩ := HQ0.out _ (Ext.refl w)
        clear HMem1
        generalize t.kids[1]'hlt1 = c1 at *
        obtain ⟨q0_1, q1_1, q2_1, q3_1, q4_1⟩ := HQ1.out _ (Ext.refl w)
        cases B3
        · have hR : R = false := by rw [HE.out]; simp
          clear HE
          subst hR
          go_enter Try.func74, Try.ntmps74
          go_wp2_with fail
          refine (H1.out _ X0.out).out.mono ?_
          rintro e w2 ⟨rfl, hx⟩
          have X2 := hide (X0.out.trans hx)
          have HB2 := hide (HB0.out.ext hx)
          clear hx
          have c0_1 := HB2.out.c0
          have c1_1 := HB2.out.c1
          have c2_1 := HB2.out.c2
          have c3_1 := HB2.out.c3
          have c4_1 := HB2.out.c4
          rw [HA0.out] at c4_1
          obtain ⟨q0_1_0, q1_1_0, q2_1_0, q3_1_0, q4_1_0⟩ := HQ0.out _ X2.out
          obtain ⟨q0_1_1, q1_1_1, q2_1_1, q3_1_1, q4_1_1⟩ := HQ1.out _ X2.out
          go_wp2_with fail
          refine (H3.out _ X2.out).out.mono ?_
          rintro e w4 ⟨rfl, hx⟩
          have X4 := hide (X2.out.trans hx)
          have HB4 := hide (HB2.out.ext hx)
          clear hx
          have c0_3 := HB4.out.c0
          have c1_3 := HB4.out.c1
          have c2_3 := HB4.out.c2
          have c3_3 := HB4.out.c3
          have c4_3 := HB4.out.c4
          rw [HA0.out] at c4_3
          obtain ⟨q0_3_0, q1_3_0, q2_3_0, q3_3_0, q4_3_0⟩ := HQ0.out _ X4.out
          obtain ⟨q0_3_1, q1_3_1, q2_3_1, q3_3_1, q4_3_1⟩ := HQ1.out _ X4.out
          go_wp2
          go_ret
          exact ⟨rfl, X4.out⟩
        · have hR : R = B4 := by rw [HE.out]; simp [HP0.out, HP2.out]
          clear HE
          subst hR
          go_enter Try.func74, Try.ntmps74
          go_wp2_with fail
          refine (H1.out _ X0.out).out.mono ?_
          rintro e w2 ⟨rfl, hx⟩
          have X2 := hide (X0.out.trans hx)
          have HB2 := hide (HB0.out.ext hx)
          clear hx
          have c0_1 := HB2.out.c0
          have c1_1 := HB2.out.c1
          have c2_1 := HB2.out.c2
          have c3_1 := HB2.out.c3
          have c4_1 := HB2.out.c4
          rw [HA0.out] at c4_1
          obtain ⟨q0_1_0, q1_1_0, q2_1_0, q3_1_0, q4_1_0⟩ := HQ0.out _ X2.out
          obtain ⟨q0_1_1, q1_1_1, q2_1_1, q3_1_1, q4_1_1⟩ := HQ1.out _ X2.out
          go_wp2_with fail
          refine (H3.out _ X2.out).out.mono ?_
          rintro e w4 ⟨rfl, hx⟩
          have X4 := hide (X2.out.trans hx)
          have HB4 := hide (HB2.out.ext hx)
          clear hx
          have c0_3 := HB4.out.c0
          have c1_3 := HB4.out.c1
          have c2_3 := HB4.out.c2
          have c3_3 := HB4.out.c3
          have c4_3 := HB4.out.c4
          rw [HA0.out] at c4_3
          obtain ⟨q0_3_0, q1_3_0, q2_3_0, q3_3_0, q4_3_0⟩ := HQ0.out _ X4.out
          obtain ⟨q0_3_1, q1_3_1, q2_3_1, q3_3_1, q4_3_1⟩ := HQ1.out _ X4.out
          go_wp2_with fail
          refine (H4.out _ X4.out).out.mono ?_
          rintro e w5 ⟨rfl, hx⟩
          have X5 := hide (X4.out.trans hx)
          have HB5 := hide (HB4.out.ext hx)
          clear hx
          have c0_4 := HB5.out.c0
          have c1_4 := HB5.out.c1
          have c2_4 := HB5.out.c2
          have c3_4 := HB5.out.c3
          have c4_4 := HB5.out.c4
          rw [HA0.out] at c4_4
          obtain ⟨q0_4_0, q1_4_0, q2_4_0, q3_4_0, q4_4_0⟩ := HQ0.out _ X5.out
          obtain ⟨q0_4_1, q1_4_1, q2_4_1, q3_4_1, q4_4_1⟩ := HQ1.out _ X5.out
          go_wp2
          go_ret
          exact ⟨rfl, X5.out⟩
      · have hpi : ((t.kids.length : Int) == 2) = false := beq_eq_false_iff_ne.2 (by omega)
        have HP2 := hide hp2
        clear hp2
        have hR : R = false := by rw [HE.out]; simp [HP2.out]
        clear HE
        subst hR
        go_enter Try.func74, Try.ntmps74
        go_wp2_with fail
        refine (H1.out _ X0.out).out.mono ?_
        rintro e w2 ⟨rfl, hx⟩
        have X2 := hide (X0.out.trans hx)
        have HB2 := hide (HB0.out.ext hx)
        clear hx
        have c0_1 := HB2.out.c0
        have c1_1 := HB2.out.c1
        have c2_1 := HB2.out.c2
        have c3_1 := HB2.out.c3
        have c4_1 := HB2.out.c4
        rw [HA0.out] at c4_1
        go_wp2
        go_ret
        exact ⟨rfl, X2.out⟩
  · have hki : (t.kind == 15) = false := by simpa using hp0
    have HP0 := hide hp0
    clear hp0
    have hR : R = false := by rw [HE.out]; simp [HP0.out]
    clear HE
    subst hR
    go_enter Try.func74, Try.ntmps74
    go_wp2
    go_ret
    exact ⟨rfl, (by repeat (first | exact Ext.refl _ | exact Ext.pre (by simp) | exact Ext.alloc (by assumption) _ | refine Ext.alloc ?_ _ |  refine Ext.more ?_ _ _ | refine Ext.drew ?_ | refine Ext.drewN ?_ _))⟩

end Go.Proofs.Ytnbnhchgkbbiiaa
