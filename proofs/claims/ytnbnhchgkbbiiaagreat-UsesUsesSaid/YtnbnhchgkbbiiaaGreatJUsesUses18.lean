/- Contracts on the reference's nodes: types, predicates, contexts, signatures. (A program of ours has printed the walks.) -/
import Derived.Test.YtnbnhchgkbbiiaaGreatJUsesUses17
/- Contracts on the reference's nodes: types, predicates, contexts, signatures. (A program of ours has printed the walks.) -/
namespace Go.Proofs.YtnbnhchgkbbiiaaGreat
open Go.RowKit

theorem plain_kids {k : Nat} {t : Tree} (h : plainB k t = true) : t.kids.length = k := by
  rw [plain_len, Bool.and_eq_true, decide_eq_true_eq] at h
  exact h.2
theorem pred_plain (t : Tree) : predB t = (decide (t.kind = 3) && conB t.text && plainB 1 t && typeB (t.kid 0)) := by
  have e : predB t = (decide (t.kind = 3) && (namedB conB t && decide (t.kids.length = 1)) && typeB (t.kid 0)) := by unfold predB; simp only [Bool.and_assoc]
  rw [e, con1]; simp only [Bool.and_assoc]
theorem sig_plain (t : Tree) : sigB t = (decide (t.kind = 32) && varB t.text && plainB 1 t && qualB (t.kid 0)) := by
  have e : sigB t = (decide (t.kind = 32) && (namedB varB t && decide (t.kids.length = 1)) && qualB (t.kid 0)) := by unfold sigB; simp only [Bool.and_assoc]
  rw [e, var1]; simp only [Bool.and_assoc]
theorem bind_plain (t : Tree) : bindB t = (decide (t.kind = 31) && varB t.text && plainB 1 t && expB (t.kid 0)) := by
  have e : bindB t = (decide (t.kind = 31) && (namedB varB t && decide (t.kids.length = 1)) && expB (t.kid 0)) := by rw [bind_eq]; simp only [Bool.and_assoc]
  rw [e, var1]; simp only [Bool.and_assoc]
theorem alt_plain (t : Tree) : altB t = (decide (t.kind = 15) && (t.text == []) && plainB 2 t && patB (t.kid 0) && expB (t.kid 1)) := by
  have e : altB t = (decide (t.kind = 15) && (bareB t && decide (t.kids.length = 2)) && patB (t.kid 0) && expB (t.kid 1)) := by rw [alt_eq]; simp only [Bool.and_assoc]
  rw [e, bareP 2]; simp only [Bool.and_assoc]; rfl
theorem qual_plain (t : Tree) : qualB t = (decide (t.kind = 4) && (t.text == []) && decide (t.n = 0) && decide (1 ≤ t.kids.length) && (t.kids.take (t.kids.length - 1)).all predB && typeB (t.kid (t.kids.length - 1))) := by
  unfold qualB bareB
  rw [show (t.n == 0) = decide (t.n = 0) from rfl]
  simp only [Bool.and_assoc]
theorem type_var0 {t : Tree} (h : t.kind = 1) : typeB t = (varB t.text && plainB 0 t) := by rw [type_var h, var0]
theorem type_two {t : Tree} (h : t.kind = 2) : typeB t = (((conB t.text && (t.n == 0)) || ((t.text == [45, 62]) && plainB 2 t)) && t.kids.all typeB) := by
  rw [show plainB 2 t = _ from plain_len 2 t]
  by_cases hn : t.n = 0
  · by_cases hs : t.text = [45, 62]
    · rw [type_fun h hn hs, hn, hs]
      have : conB [45, 62] = false := by decide
      rw [this]; rfl
    · rw [type_con h hn hs, hn]
      have : (t.text == [45, 62]) = false := by simpa using hs
      rw [this]; simp
  · rw [type_elseN h hn]
    have : (t.n == 0) = false := by simpa using hn
    rw [this]; simp

set_option maxRecDepth 10000 in
set_option maxHeartbeats 1000000 in
theorem r_type_var (t : Tree) (hk : t.kind = 1) : Asks 106 typeB t := by
  intro w h
  have HE : Hid (typeB t = (varB t.text && plainB 0 t)) := hide (type_var0 hk)
  have Hk := hide h.nodes
  have hle := h.le
  have hmx := h.max
  have HB0 := hide (NBox.new w t)
  have X0 : Hid (Ext w (w.alloc (.cells #[.int .i64 t.kind, .int .i64 t.pos, .int .i64 t.n, encStr t.text, .slice t.A t.kids.length t.cap] 24))) := hide ((Ext.refl w).alloc _)
  have hk1 : (t.kind == 1) = true := by rw [hk]; rfl
  clear hk
  have H0 := hide (fun w' (e : Ext w w') => hide (Calls.mono (R' := fun e w'' => e = .returned (.bool (varB t.text)) ∧ Ext w' w'') (r_var03 t.text w' h.txt) (fun e w'' hh => ⟨hh.1, by rw [hh.2]; exact Ext.refl _⟩)))
  have H1 := hide (fun w' (e : Ext w w') => hide (r_plain 0 t w' (h.ext e)))
  generalize typeB t = R at *
  generalize varB t.text = B0 at *
  generalize plainB 0 t = B1 at *
  unfold treeV at *
  have HN := hide h
  clear h
  generalize hA0 : t.A = A0 at *
  have HA0 := hide hA0
  clear hA0
  cases B0
  · have hR : R = false := by rw [HE.out]; simp
    clear HE
    subst hR
    go_enter Tryz.func106, Tryz.ntmps106
    go_wp2_with fail
    refine (H0.out _ X0.out).out.mono ?_
    rintro e w1 ⟨rfl, hx⟩
    have X1 := hide (X0.out.trans hx)
    have HB1 := hide (HB0.out.ext hx)
    clear hx
    have c0_0 := HB1.out.c0
    have c1_0 := HB1.out.c1
    have c2_0 := HB1.out.c2
    have c3_0 := HB1.out.c3
    have c4_0 := HB1.out.c4
    rw [HA0.out] at c4_0
    go_wp2
    go_ret
    exact ⟨rfl, X1.out⟩
  · have hR : R = B1 := by rw [HE.out]; simp
    clear HE
    subst hR
    go_enter Tryz.func106, Tryz.ntmps106
    go_wp2_with fail
    refine (H0.out _ X0.out).out.mono ?_
    rintro e w1 ⟨rfl, hx⟩
    have X1 := hide (X0.out.trans hx)
    have HB1 := hide (HB0.out.ext hx)
    clear hx
    have c0_0 := HB1.out.c0
    have c1_0 := HB1.out.c1
    have c2_0 := HB1.out.c2
    have c3_0 := HB1.out.c3
    have c4_0 := HB1.out.c4
    rw [HA0.out] at c4_0
    go_wp2_with fail
    refine (H1.out _ X1.out).out.mono ?_
    rintro e w2 ⟨rfl, hx⟩
    have X2 := hide (X1.out.trans hx)
    have HB2 := hide (HB1.out.ext hx)
    clear hx
    have c0_1 := HB2.out.c0
    have c1_1 := HB2.out.c1
    have c2_1 := HB2.out.c2
    have c3_1 := HB2.out.c3
    have c4_1 := HB2.out.c4
    rw [HA0.out] at c4_1
    go_wp2
    go_ret
    exact ⟨rfl, X2.out⟩

set_option maxRecDepth 10000 in
set_option maxHeartbeats 1000000 in
theorem r_type_two (t : Tree) (hk : t.kind = 2) (ih : ∀ k ∈ t.kids, Asks 106 typeB k) : Asks 106 typeB t := by
  intro w h
  have HE : Hid (typeB t = (((conB t.text && (t.n == 0)) || ((t.text == [45, 62]) && plainB 2 t)) && t.kids.all typeB)) := hide (type_two hk)
  have Hk := hide h.nodes
  have hle := h.le
  have hmx := h.max
  have HB0 := hide (NBox.new w t)
  have X0 : Hid (Ext w (w.alloc (.cells #[.int .i64 t.kind, .int .i64 t.pos, .int .i64 t.n, encStr t.text, .slice t.A t.kids.length t.cap] 24))) := hide ((Ext.refl w).alloc _)
  have hk1 : (t.kind == 1) = false := by rw [hk]; rfl
  have hk2 : (t.kind == 2) = true := by rw [hk]; rfl
  clear hk
  have H0 := hide (fun w' (e : Ext w w') => hide (Calls.mono (R' := fun e w'' => e = .returned (.bool (conB t.text)) ∧ Ext w' w'') (r_con03 t.text w' h.txt) (fun e w'' hh => ⟨hh.1, by rw [hh.2]; exact Ext.refl _⟩)))
  have H1 := hide (fun w' (e : Ext w w') => hide (r_plain 2 t w' (h.ext e)))
  have H2 := hide (fun w' (e : Ext w w') => hide (r_types t.A t.cap t.kids w' (h.nodes.ext e) (by omega) (fun k hk => ih k hk)))
  generalize typeB t = R at *
  generalize conB t.text = B0 at *
  generalize plainB 2 t = B1 at *
  generalize t.kids.all typeB = B2 at *
  unfold treeV at *
  have HN := hide h
  clear h
  generalize hA0 : t.A = A0 at *
  have HA0 := hide hA0
  clear hA0
  cases B0
  · cases hs0 : (t.text == [45, 62])
    · have hR : R = false := by rw [HE.out, hs0]; simp
      clear HE
      subst hR
      go_enter Tryz.func106, Tryz.ntmps106
      go_wp2_with fail
      refine (H0.out _ X0.out).out.mono ?_
      rintro e w1 ⟨rfl, hx⟩
      have X1 := hide (X0.out.trans hx)
      have HB1 := hide (HB0.out.ext hx)
      clear hx
      have c0_0 := HB1.out.c0
      have c1_0 := HB1.out.c1
      have c2_0 := HB1.out.c2
      have c3_0 := HB1.out.c3
      have c4_0 := HB1.out.c4
      rw [HA0.out] at c4_0
      go_wp2
      go_ret
      exact ⟨rfl, X1.out⟩
    · cases B1
      · have hR : R = false := by rw [HE.out, hs0]; simp
        clear HE
        subst hR
        go_enter Tryz.func106, Tryz.ntmps106
        go_wp2_with fail
        refine (H0.out _ X0.out).out.mono ?_
        rintro e w1 ⟨rfl, hx⟩
        have X1 := hide (X0.out.trans hx)
        have HB1 := hide (HB0.out.ext hx)
        clear hx
        have c0_0 := HB1.out.c0
        have c1_0 := HB1.out.c1
        have c2_0 := HB1.out.c2
        have c3_0 := HB1.out.c3
        have c4_0 := HB1.out.c4
        rw [HA0.out] at c4_0
        go_wp2_with fail
        refine (H1.out _ X1.out).out.mono ?_
        rintro e w2 ⟨rfl, hx⟩
        have X2 := hide (X1.out.trans hx)
        have HB2 := hide (HB1.out.ext hx)
        clear hx
        have c0_1 := HB2.out.c0
        have c1_1 := HB2.out.c1
        have c2_1 := HB2.out.c2
        have c3_1 := HB2.out.c3
        have c4_1 := HB2.out.c4
        rw [HA0.out] at c4_1
        go_wp2
        go_ret
        exact ⟨rfl, X2.out⟩
      · have hR : R = B2 := by rw [HE.out, hs0]; simp
        clear HE
        subst hR
        go_enter Tryz.func106, Tryz.ntmps106
        go_wp2_with fail
        refine (H0.out _ X0.out).out.mono ?_
        rintro e w1 ⟨rfl, hx⟩
        have X1 := hide (X0.out.trans hx)
        have HB1 := hide (HB0.out.ext hx)
        clear hx
        have c0_0 := HB1.out.c0
        have c1_0 := HB1.out.c1
        have c2_0 := HB1.out.c2
        have c3_0 := HB1.out.c3
        have c4_0 := HB1.out.c4
        rw [HA0.out] at c4_0
        go_wp2_with fail
        refine (H1.out _ X1.out).out.mono ?_
        rintro e w2 ⟨rfl, hx⟩
        have X2 := hide (X1.out.trans hx)
        have HB2 := hide (HB1.out.ext hx)
        clear hx
        have c0_1 := HB2.out.c0
        have c1_1 := HB2.out.c1
        have c2_1 := HB2.out.c2
        have c3_1 := HB2.out.c3
        have c4_1 := HB2.out.c4
        rw [HA0.out] at c4_1
        go_wp2_with fail
        refine (H2.out _ X2.out).out.mono ?_
        rintro e w3 ⟨rfl, hx⟩
        have X3 := hide (X2.out.trans hx)
        have HB3 := hide (HB2.out.ext hx)
        clear hx
        have c0_2 := HB3.out.c0
        have c1_2 := HB3.out.c1
        have c2_2 := HB3.out.c2
        have c3_2 := HB3.out.c3
        have c4_2 := HB3.out.c4
        rw [HA0.out] at c4_2
        go_wp2
        go_ret
        exact ⟨rfl, X3.out⟩
  · cases hn0 : (t.n == 0)
    · cases hs0 : (t.text == [45, 62])
      · have hR : R = false := by rw [HE.out, hn0, hs0]; simp
        clear HE
        subst hR
        go_enter Tryz.func106, Tryz.ntmps106
        go_wp2_with fail
        refine (H0.out _ X0.out).out.mono ?_
        rintro e w1 ⟨rfl, hx⟩
        have X1 := hide (X0.out.trans hx)
        have HB1 := hide (HB0.out.ext hx)
        clear hx
        have c0_0 := HB1.out.c0
        have c1_0 := HB1.out.c1
        have c2_0 := HB1.out.c2
        have c3_0 := HB1.out.c3
        have c4_0 := HB1.out.c4
        rw [HA0.out] at c4_0
        go_wp2
        go_ret
        exact ⟨rfl, X1.out⟩
      · cases B1
        · have hR : R = false := by rw [HE.out, hn0, hs0]; simp
          clear HE
          subst hR
          go_enter Tryz.func106, Tryz.ntmps106
          go_wp2_with fail
          refine (H0.out _ X0.out).out.mono ?_
          rintro e w1 ⟨rfl, hx⟩
          have X1 := hide (X0.out.trans hx)
          have HB1 := hide (HB0.out.ext hx)
          clear hx
          have c0_0 := HB1.out.c0
          have c1_0 := HB1.out.c1
          have c2_0 := HB1.out.c2
          have c3_0 := HB1.out.c3
          have c4_0 := HB1.out.c4
          rw [HA0.out] at c4_0
          go_wp2_with fail
          refine (H1.out _ X1.out).out.mono ?_
          rintro e w2 ⟨rfl, hx⟩
          have X2 := hide (X1.out.trans hx)
          have HB2 := hide (HB1.out.ext hx)
          clear hx
          have c0_1 := HB2.out.c0
          have c1_1 := HB2.out.c1
          have c2_1 := HB2.out.c2
          have c3_1 := HB2.out.c3
          have c4_1 := HB2.out.c4
          rw [HA0.out] at c4_1
          go_wp2
          go_ret
          exact ⟨rfl, X2.out⟩
        · have hR : R = B2 := by rw [HE.out, hn0, hs0]; simp
          clear HE
          subst hR
          go_enter Tryz.func106, Tryz.ntmps106
          go_wp2_with fail
          refine (H0.out _ X0.out).out.mono ?_
          rintro e w1 ⟨rfl, hx⟩
          have X1 := hide (X0.out.trans hx)
          have HB1 := hide (HB0.out.ext hx)
          clear hx
          have c0_0 := HB1.out.c0
          have c1_0 := HB1.out.c1
          have c2_0 := HB1.out.c2
          have c3_0 := HB1.out.c3
          have c4_0 := HB1.out.c4
          rw [HA0.out] at c4_0
          go_wp2_with fail
          refine (H1.out _ X1.out).out.mono ?_
          rintro e w2 ⟨rfl, hx⟩
          have X2 := hide (X1.out.trans hx)
          have HB2 := hide (HB1.out.ext hx)
          clear hx
          have c0_1 := HB2.out.c0
          have c1_1 := HB2.out.c1
          have c2_1 := HB2.out.c2
          have c3_1 := HB2.out.c3
          have c4_1 := HB2.out.c4
          rw [HA0.out] at c4_1
          go_wp2_with fail
          refine (H2.out _ X2.out).out.mono ?_
          rintro e w3 ⟨rfl, hx⟩
          have X3 := hide (X2.out.trans hx)
          have HB3 := hide (HB2.out.ext hx)
          clear hx
          have c0_2 := HB3.out.c0
          have c1_2 := HB3.out.c1
          have c2_2 := HB3.out.c2
          have c3_2 := HB3.out.c3
          have c4_2 := HB3.out.c4
          rw [HA0.out] at c4_2
          go_wp2
          go_ret
          exact ⟨rfl, X3.out⟩
    · have hR : R = B2 := by rw [HE.out, hn0]; simp
      clear HE
      subst hR
      go_enter Tryz.func106, Tryz.ntmps106
      go_wp2_with fail
      refine (H0.out _ X0.out).out.mono ?_
      rintro e w1 ⟨rfl, hx⟩
      have X1 := hide (X0.out.trans hx)
      have HB1 := hide (HB0.out.ext hx)
      clear hx
      have c0_0 := HB1.out.c0
      have c1_0 := HB1.out.c1
      have c2_0 := HB1.out.c2
      have c3_0 := HB1.out.c3
      have c4_0 := HB1.out.c4
      rw [HA0.out] at c4_0
      go_wp2_with fail
      refine (H2.out _ X1.out).out.mono ?_
      rintro e w3 ⟨rfl, hx⟩
      have X3 := hide (X1.out.trans hx)
      have HB3 := hide (HB1.out.ext hx)
      clear hx
      have c0_2 := HB3.out.c0
      have c1_2 := HB3.out.c1
      have c2_2 := HB3.out.c2
      have c3_2 := HB3.out.c3
      have c4_2 := HB3.out.c4
      rw [HA0.out] at c4_2
      go_wp2
      go_ret
      exact ⟨rfl, X3.out⟩

set_option maxRecDepth 10000 in
set_option maxHeartbeats 1000000 in
theorem r_type_else (t : Tree) (h1 : t.kind ≠ 1) (h2 : t.kind ≠ 2) : Asks 106 typeB t := by
  intro w h
  have HE : Hid (typeB t = false) := hide (type_else h1 h2)
  have Hk := hide h.nodes
  have hle := h.le
  have hmx := h.max
  have HB0 := hide (NBox.new w t)
  have X0 : Hid (Ext w (w.alloc (.cells #[.int .i64 t.kind, .int .i64 t.pos, .int .i64 t.n, encStr t.text, .slice t.A t.kids.length t.cap] 24))) := hide ((Ext.refl w).alloc _)
  have hk1 : (t.kind == 1) = false := by simpa using h1
  have hk2 : (t.kind == 2) = false := by simpa using h2
  clear h1 h2
  generalize typeB t = R at *
  unfold treeV at *
  have HN := hide h
  clear h
  generalize hA0 : t.A = A0 at *
  have HA0 := hide hA0
  clear hA0
  have hR : R = false := HE.out
  clear HE
  subst hR
  go_enter Tryz.func106, Tryz.ntmps106
  go_wp2
  go_ret
  exact ⟨rfl, (by repeat (first | exact Ext.refl _ | exact Ext.pre (by simp) | exact Ext.alloc (by assumption) _ | refine Ext.alloc ?_ _ |  refine Ext.more ?_ _ _ | refine Ext.drew ?_ | refine Ext.drewN ?_ _))⟩

theorem r_type (t : Tree) : Asks 106 typeB t := by
  induction t using Tree.ind with
  | h t ih =>
    by_cases h1 : t.kind = 1
    · exact r_type_var t h1
    · by_cases h2 : t.kind = 2
      · exact r_type_two t h2 ih
      · exact r_type_else t h1 h2

set_option maxRecDepth 10000 in
set_option maxHeartbeats 1000000 in
theorem r_pred (t : Tree) : Asks 113 predB t := by
  intro w h
  have HE : Hid (predB t = (decide (t.kind = 3) && conB t.text && plainB 1 t && typeB (t.kid 0))) := hide (pred_plain t)
  have Hk := hide h.nodes
  have hle := h.le
  have hmx := h.max
  have HB0 := hide (NBox.new w t)
  have X0 : Hid (Ext w (w.alloc (.cells #[.int .i64 t.kind, .int .i64 t.pos, .int .i64 t.n, encStr t.text, .slice t.A t.kids.length t.cap] 24))) := hide ((Ext.refl w).alloc _)
  have HPL : Hid (plainB 1 t = true → t.kids.length = 1) := hide (fun h => plain_kids h)
  have H1 := hide (fun w' (e : Ext w w') => hide (Calls.mono (R' := fun e w'' => e = .returned (.bool (conB t.text)) ∧ Ext w' w'') (r_con03 t.text w' h.txt) (fun e w'' hh => ⟨hh.1, by rw [hh.2]; exact Ext.refl _⟩)))
  have H2 := hide (fun w' (e : Ext w w') => hide (r_plain 1 t w' (h.ext e)))
  generalize predB t = R at *
  generalize conB t.text = B1 at *
  generalize plainB 1 t = B2 at *
  unfold treeV at *
  have HN := hide h
  clear h
  generalize hA0 : t.A = A0 at *
  have HA0 := hide hA0
  clear hA0
  by_cases hp0 : t.kind = 3
  · have hki : (t.kind == 3) = true := by simpa using hp0
    have HP0 := hide hp0
    clear hp0
    cases B1
    · have hR : R = false := by rw [HE.out]; simp
      clear HE
      subst hR
      go_enter Tryz.func113, Tryz.ntmps113
      go_wp2_with fail
      refine (H1.out _ X0.out).out.mono ?_
      rintro e w2 ⟨rfl, hx⟩
      have X2 := hide (X0.out.trans hx)
      have HB2 := hide (HB0.out.ext hx)
      clear hx
      have c0_1 := HB2.out.c0
      have c1_1 := HB2.out.c1
      have c2_1 := HB2.out.c2
      have c3_1 := HB2.out.c3
      have c4_1 := HB2.out.c4
      rw [HA0.out] at c4_1
      go_wp2
      go_ret
      exact ⟨rfl, X2.out⟩
    · cases B2
      · have hR : R = false := by rw [HE.out]; simp
        clear HE
        subst hR
        go_enter Tryz.func113, Tryz.ntmps113
        go_wp2_with fail
        refine (H1.out _ X0.out).out.mono ?_
        rintro e w2 ⟨rfl, hx⟩
        have X2 := hide (X0.out.trans hx)
        have HB2 := hide (HB0.out.ext hx)
        clear hx
        have c0_1 := HB2.out.c0
        have c1_1 := HB2.out.c1
        have c2_1 := HB2.out.c2
        have c3_1 := HB2.out.c3
        have c4_1 := HB2.out.c4
        rw [HA0.out] at c4_1
        go_wp2_with fail
        refine (H2.out _ X2.out).out.mono ?_
        rintro e w3 ⟨rfl, hx⟩
        have X3 := hide (X2.out.trans hx)
        have HB3 := hide (HB2.out.ext hx)
        clear hx
        have c0_2 := HB3.out.c0
        have c1_2 := HB3.out.c1
        have c2_2 := HB3.out.c2
        have c3_2 := HB3.out.c3
        have c4_2 := HB3.out.c4
        rw [HA0.out] at c4_2
        go_wp2
        go_ret
        exact ⟨rfl, X3.out⟩
      · have hpz0 : (0 : Int) < (t.kids.length : Int) := by have := HPL.out rfl; omega
        have hlt0 : 0 < t.kids.length := by have := HPL.out rfl; omega
        obtain ⟨b, o, hAe, hb⟩ := Hk.out.some_ (by omega)
        subst hAe
        have HQ0 : Hid (∀ w', Ext w w' → w'.cell? ⟨b, o, none⟩ = some (.int .i64 (t.kids[0]'hlt0).kind) ∧ w'.cell? ⟨b, o + 1, none⟩ = some (.int .i64 (t.kids[0]'hlt0).pos) ∧ w'.cell? ⟨b, o + 2, none⟩ = some (.int .i64 (t.kids[0]'hlt0).n) ∧ w'.cell? ⟨b, o + 3, none⟩ = some (.string ⟨(t.kids[0]'hlt0).text.toArray⟩) ∧ w'.cell? ⟨b, o + 4, none⟩ = some (.slice (t.kids[0]'hlt0).A (t.kids[0]'hlt0).kids.length (t.kids[0]'hlt0).cap)) := hide (fun w' e => by have := (Hk.out.ext e).cells hlt0; simpa using this)
        have HN0 := hide (Hk.out.kids _ (List.getElem_mem hlt0))
        rw [kid_get hlt0] at HE
        have HMem0 := List.getElem_mem hlt0
        have H3 := hide (fun w' (e : Ext w w') => hide (r_type (t.kids[0]'hlt0) w' (HN0.out.ext e)))
        generalize typeB (t.kids[0]'hlt0) = B3 at *
        clear HMem0
        generalize t.kids[0]'hlt0 = c0 at *
        obtain ⟨q0_0, q1_0, q2_0, q3_0, q4_0⟩ := HQ0.out _ (Ext.refl w)
        have hR : R = B3 := by rw [HE.out]; simp [HP0.out]
        clear HE
        subst hR
        go_enter Tryz.func113, Tryz.ntmps113
        go_wp2_with fail
        refine (H1.out _ X0.out).out.mono ?_
        rintro e w2 ⟨rfl, hx⟩
        have X2 := hide (X0.out.trans hx)
        have HB2 := hide (HB0.out.ext hx)
        clear hx
        have c0_1 := HB2.out.c0
        have c1_1 := HB2.out.c1
        have c2_1 := HB2.out.c2
        have c3_1 := HB2.out.c3
        have c4_1 := HB2.out.c4
        rw [HA0.out] at c4_1
        obtain ⟨q0_1_0, q1_1_0, q2_1_0, q3_1_0, q4_1_0⟩ := HQ0.out _ X2.out
        go_wp2_with fail
        refine (H2.out _ X2.out).out.mono ?_
        rintro e w3 ⟨rfl, hx⟩
        have X3 := hide (X2.out.trans hx)
        have HB3 := hide (HB2.out.ext hx)
        clear hx
        have c0_2 := HB3.out.c0
        have c1_2 := HB3.out.c1
        have c2_2 := HB3.out.c2
        have c3_2 := HB3.out.c3
        have c4_2 := HB3.out.c4
        rw [HA0.out] at c4_2
        obtain ⟨q0_2_0, q1_2_0, q2_2_0, q3_2_0, q4_2_0⟩ := HQ0.out _ X3.out
        go_wp2_with fail
        refine (H3.out _ X3.out).out.mono ?_
        rintro e w4 ⟨rfl, hx⟩
        have X4 := hide (X3.out.trans hx)
        have HB4 := hide (HB3.out.ext hx)
        clear hx
        have c0_3 := HB4.out.c0
        have c1_3 := HB4.out.c1
        have c2_3 := HB4.out.c2
        have c3_3 := HB4.out.c3
        have c4_3 := HB4.out.c4
        rw [HA0.out] at c4_3
        obtain ⟨q0_3_0, q1_3_0, q2_3_0, q3_3_0, q4_3_0⟩ := HQ0.out _ X4.out
        go_wp2
        go_ret
        exact ⟨rfl, X4.out⟩
  · have hki : (t.kind == 3) = false := by simpa using hp0
    have HP0 := hide hp0
    clear hp0
    have hR : R = false := by rw [HE.out]; simp [HP0.out]
    clear HE
    subst hR
    go_enter Tryz.func113, Tryz.ntmps113
    go_wp2
    go_ret
    exact ⟨rfl, (by repeat (first | exact Ext.refl _ | exact Ext.pre (by simp) | exact Ext.alloc (by assumption) _ | refine Ext.alloc ?_ _ |  refine Ext.more ?_ _ _ | refine Ext.drew ?_ | refine Ext.drewN ?_ _))⟩

set_option maxRecDepth 10000 in
set_option maxHeartbeats 1000000 in
theorem r_qual (t : Tree) : Asks 91 qualB t := by
  intro w h
  have HE : Hid (qualB t = (decide (t.kind = 4) && (t.text == []) && decide (t.n = 0) && decide (1 ≤ t.kids.length) && (t.kids.take (t.kids.length - 1)).all predB && typeB (t.kid (t.kids.length - 1)))) := hide (qual_plain t)
  have Hk := hide h.nodes
  have hle := h.le
  have hmx := h.max
  have HB0 := hide (NBox.new w t)
  have X0 : Hid (Ext w (w.alloc (.cells #[.int .i64 t.kind, .int .i64 t.pos, .int .i64 t.n, encStr t.text, .slice t.A t.kids.length t.cap] 24))) := hide ((Ext.refl w).alloc _)
  generalize qualB t = R at *
  unfold treeV at *
  have HN := hide h
  clear h
  generalize hA0 : t.A = A0 at *
  have HA0 := hide hA0
  clear hA0
  by_cases hp0 : t.kind = 4
  · have hki : (t.kind == 4) = true := by simpa using hp0
    have HP0 := hide hp0
    clear hp0
    by_cases hp1 : (t.text == []) = true
    · have hs0 : (t.text == []) = true := hp1
      have HP1 := hide hp1
      clear hp1
      by_cases hp2 : t.n = 0
      · have hn0 : (t.n == 0) = true := by simpa using hp2
        have HP2 := hide hp2
        clear hp2
        by_cases hp3 : 1 ≤ t.kids.length
        · have hpi : (t.kids.length : Int) - 1 ≥ 0 := by omega
          have HP3 := hide hp3
          clear hp3
          obtain ⟨m, hm⟩ : ∃ m, t.kids.length = m + 1 := ⟨t.kids.length - 1, by have := HP3.out; omega⟩
          have Hm := hide hm
          have hmi : (t.kids.length : Int) - 1 = m := by omega
          have hm0 : (0 : Int) ≤ (m : Int) := by omega
          have hm1 : (m : Int) ≤ (t.cap : Int) := by omega
          have hm2 : m ≤ t.cap := by omega
          have hm3 : (m : Int) < (t.kids.length : Int) := by omega
          have hlm : (t.kids.take m).length = m := by simp; omega
          rw [show t.kids.length - 1 = m from by omega] at HE
          have hltm : m < t.kids.length := by omega
          obtain ⟨b, o, hAe, hb⟩ := Hk.out.some_ (by omega)
          subst hAe
          have HQm : Hid (∀ w', Ext w w' → w'.cell? ⟨b, o + m * 5, none⟩ = some (.int .i64 (t.kids[m]'hltm).kind) ∧ w'.cell? ⟨b, o + m * 5 + 1, none⟩ = some (.int .i64 (t.kids[m]'hltm).pos) ∧ w'.cell? ⟨b, o + m * 5 + 2, none⟩ = some (.int .i64 (t.kids[m]'hltm).n) ∧ w'.cell? ⟨b, o + m * 5 + 3, none⟩ = some (.string ⟨(t.kids[m]'hltm).text.toArray⟩) ∧ w'.cell? ⟨b, o + m * 5 + 4, none⟩ = some (.slice (t.kids[m]'hltm).A (t.kids[m]'hltm).kids.length (t.kids[m]'hltm).cap)) := hide (fun w' e => by have := (Hk.out.ext e).cells hltm; simpa using this)
          have HNm := hide (Hk.out.kids _ (List.getElem_mem hltm))
          have H4 := hide (fun w' (e : Ext w w') => hide (by
            have := r_preds (some ⟨b, o, none⟩) t.cap (t.kids.take m) w' ((Hk.out.take (by omega)).ext e) (by omega) (fun k _ => r_pred k)
            rw [hlm] at this
            exact this))
          generalize (t.kids.take m).all predB = B4 at *
          rw [kid_get hltm] at HE
          have HMemm := List.getElem_mem hltm
          have H5 := hide (fun w' (e : Ext w w') => hide (r_type (t.kids[m]'hltm) w' (HNm.out.ext e)))
          generalize typeB (t.kids[m]'hltm) = B5 at *
          clear hm hlm
          clear HMemm
          generalize t.kids[m]'hltm = cm at *
          obtain ⟨q0_m, q1_m, q2_m, q3_m, q4_m⟩ := HQm.out _ (Ext.refl w)
          cases B4
          · have hR : R = false := by rw [HE.out]; simp
            clear HE
            subst hR
            go_enter Tryz.func91, Tryz.ntmps91
            go_wp2_with fail
            refine (H4.out _ X0.out).out.mono ?_
            rintro e w5 ⟨rfl, hx⟩
            have X5 := hide (X0.out.trans hx)
            have HB5 := hide (HB0.out.ext hx)
            clear hx
            have c0_4 := HB5.out.c0
            have c1_4 := HB5.out.c1
            have c2_4 := HB5.out.c2
            have c3_4 := HB5.out.c3
            have c4_4 := HB5.out.c4
            rw [HA0.out] at c4_4
            obtain ⟨q0_4_m, q1_4_m, q2_4_m, q3_4_m, q4_4_m⟩ := HQm.out _ X5.out
            go_wp2
            go_ret
            exact ⟨rfl, X5.out⟩
          · have hR : R = B5 := by rw [HE.out]; simp [HP0.out, HP1.out, HP2.out, HP3.out]
            clear HE
            subst hR
            go_enter Tryz.func91, Tryz.ntmps91
            go_wp2_with fail
            refine (H4.out _ X0.out).out.mono ?_
            rintro e w5 ⟨rfl, hx⟩
            have X5 := hide (X0.out.trans hx)
            have HB5 := hide (HB0.out.ext hx)
            clear hx
            have c0_4 := HB5.out.c0
            have c1_4 := HB5.out.c1
            have c2_4 := HB5.out.c2
            have c3_4 := HB5.out.c3
            have c4_4 := HB5.out.c4
            rw [HA0.out] at c4_4
            obtain ⟨q0_4_m, q1_4_m, q2_4_m, q3_4_m, q4_4_m⟩ := HQm.out _ X5.out
            go_wp2_with fail
            refine (H5.out _ X5.out).out.mono ?_
            rintro e w6 ⟨rfl, hx⟩
            have X6 := hide (X5.out.trans hx)
            have HB6 := hide (HB5.out.ext hx)
            clear hx
            have c0_5 := HB6.out.c0
            have c1_5 := HB6.out.c1
            have c2_5 := HB6.out.c2
            have c3_5 := HB6.out.c3
            have c4_5 := HB6.out.c4
            rw [HA0.out] at c4_5
            obtain ⟨q0_5_m, q1_5_m, q2_5_m, q3_5_m, q4_5_m⟩ := HQm.out _ X6.out
            go_wp2
            go_ret
            exact ⟨rfl, X6.out⟩
        · have hpi : ¬ (t.kids.length : Int) - 1 ≥ 0 := by omega
          have HP3 := hide hp3
          clear hp3
          have hR : R = false := by rw [HE.out]; simp [HP3.out]
          clear HE
          subst hR
          go_enter Tryz.func91, Tryz.ntmps91
          go_wp2
          go_ret
          exact ⟨rfl, (by repeat (first | exact Ext.refl _ | exact Ext.pre (by simp) | exact Ext.alloc (by assumption) _ | refine Ext.alloc ?_ _ |  refine Ext.more ?_ _ _ | refine Ext.drew ?_ | refine Ext.drewN ?_ _))⟩
      · have hn0 : (t.n == 0) = false := by simpa using hp2
        have HP2 := hide hp2
        clear hp2
        have hR : R = false := by rw [HE.out]; simp [HP2.out]
        clear HE
        subst hR
        go_enter Tryz.func91, Tryz.ntmps91
        go_wp2
        go_ret
        exact ⟨rfl, (by repeat (first | exact Ext.refl _ | exact Ext.pre (by simp) | exact Ext.alloc (by assumption) _ | refine Ext.alloc ?_ _ |  refine Ext.more ?_ _ _ | refine Ext.drew ?_ | refine Ext.drewN ?_ _))⟩
    · have hs0 : (t.text == []) = false := by simpa using hp1
      have HP1 := hide hp1
      clear hp1
      have hR : R = false := by rw [HE.out]; simp [HP1.out]
      clear HE
      subst hR
      go_enter Tryz.func91, Tryz.ntmps91
      go_wp2
      go_ret
      exact ⟨rfl, (by repeat (first | exact Ext.refl _ | exact Ext.pre (by simp) | exact Ext.alloc (by assumption) _ | refine Ext.alloc ?_ _ |  refine Ext.more ?_ _ _ | refine Ext.drew ?_ | refine Ext.drewN ?_ _))⟩
  · have hki : (t.kind == 4) = false := by simpa using hp0
    have HP0 := hide hp0
    clear hp0
    have hR : R = false := by rw [HE.out]; simp [HP0.out]
    clear HE
    subst hR
    go_enter Tryz.func91, Tryz.ntmps91
    go_wp2
    go_ret
    exact ⟨rfl, (by repeat (first | exact Ext.refl _ | exact Ext.pre (by simp) | exact Ext.alloc (by assumption) _ | refine Ext.alloc ?_ _ |  refine Ext.more ?_ _ _ | refine Ext.drew ?_ | refine Ext.drewN ?_ _))⟩

set_option maxRecDepth 10000 in
set_option maxHeartbeats 1000000 in
theorem r_sig (t : Tree) : Asks 83 sigB t := by
  intro w h
  have HE : Hid (sigB t = (decide (t.kind = 32) && varB t.text && plainB 1 t && qualB (t.kid 0))) := hide (sig_plain t)
  have Hk := hide h.nodes
  have hle := h.le
  have hmx := h.max
  have HB0 := hide (NBox.new w t)
  have X0 : Hid (Ext w (w.alloc (.cells #[.int .i64 t.kind, .int .i64 t.pos, .int .i64 t.n, encStr t.text, .slice t.A t.kids.length t.cap] 24))) := hide ((Ext.refl w).alloc _)
  have HPL : Hid (plainB 1 t = true → t.kids.length = 1) := hide (fun h => plain_kids h)
  have H1 := hide (fun w' (e : Ext w w') => hide (Calls.mono (R' := fun e w'' => e = .returned (.bool (varB t.text)) ∧ Ext w' w'') (r_var03 t.text w' h.txt) (fun e w'' hh => ⟨hh.1, by rw [hh.2]; exact Ext.refl _⟩)))
  have H2 := hide (fun w' (e : Ext w w') => hide (r_plain 1 t w' (h.ext e)))
  generalize sigB t = R at *
  generalize varB t.text = B1 at *
  generalize plainB 1 t = B2 at *
  unfold treeV at *
  have HN := hide h
  clear h
  generalize hA0 : t.A = A0 at *
  have HA0 := hide hA0
  clear hA0
  by_cases hp0 : t.kind = 32
  · have hki : (t.kind == 32) = true := by simpa using hp0
    have HP0 := hide hp0
    clear hp0
    cases B1
    · have hR : R = false := by rw [HE.out]; simp
      clear HE
      subst hR
      go_enter Tryz.func83, Tryz.ntmps83
      go_wp2_with fail
      refine (H1.out _ X0.out).out.mono ?_
      rintro e w2 ⟨rfl, hx⟩
      have X2 := hide (X0.out.trans hx)
      have HB2 := hide (HB0.out.ext hx)
      clear hx
      have c0_1 := HB2.out.c0
      have c1_1 := HB2.out.c1
      have c2_1 := HB2.out.c2
      have c3_1 := HB2.out.c3
      have c4_1 := HB2.out.c4
      rw [HA0.out] at c4_1
      go_wp2
      go_ret
      exact ⟨rfl, X2.out⟩
    · cases B2
      · have hR : R = false := by rw [HE.out]; simp
        clear HE
        subst hR
        go_enter Tryz.func83, Tryz.ntmps83
        go_wp2_with fail
        refine (H1.out _ X0.out).out.mono ?_
        rintro e w2 ⟨rfl, hx⟩
        have X2 := hide (X0.out.trans hx)
        have HB2 := hide (HB0.out.ext hx)
        clear hx
        have c0_1 := HB2.out.c0
        have c1_1 := HB2.out.c1
        have c2_1 := HB2.out.c2
        have c3_1 := HB2.out.c3
        have c4_1 := HB2.out.c4
        rw [HA0.out] at c4_1
        go_wp2_with fail
        refine (H2.out _ X2.out).out.mono ?_
        rintro e w3 ⟨rfl, hx⟩
        have X3 := hide (X2.out.trans hx)
        have HB3 := hide (HB2.out.ext hx)
        clear hx
        have c0_2 := HB3.out.c0
        have c1_2 := HB3.out.c1
        have c2_2 := HB3.out.c2
        have c3_2 := HB3.out.c3
        have c4_2 := HB3.out.c4
        rw [HA0.out] at c4_2
        go_wp2
        go_ret
        exact ⟨rfl, X3.out⟩
      · have hpz0 : (0 : Int) < (t.kids.length : Int) := by have := HPL.out rfl; omega
        have hlt0 : 0 < t.kids.length := by have := HPL.out rfl; omega
        obtain ⟨b, o, hAe, hb⟩ := Hk.out.some_ (by omega)
        subst hAe
        have HQ0 : Hid (∀ w', Ext w w' → w'.cell? ⟨b, o, none⟩ = some (.int .i64 (t.kids[0]'hlt0).kind) ∧ w'.cell? ⟨b, o + 1, none⟩ = some (.int .i64 (t.kids[0]'hlt0).pos) ∧ w'.cell? ⟨b, o + 2, none⟩ = some (.int .i64 (t.kids[0]'hlt0).n) ∧ w'.cell? ⟨b, o + 3, none⟩ = some (.string ⟨(t.kids[0]'hlt0).text.toArray⟩) ∧ w'.cell? ⟨b, o + 4, none⟩ = some (.slice (t.kids[0]'hlt0).A (t.kids[0]'hlt0).kids.length (t.kids[0]'hlt0).cap)) := hide (fun w' e => by have := (Hk.out.ext e).cells hlt0; simpa using this)
        have HN0 := hide (Hk.out.kids _ (List.getElem_mem hlt0))
        rw [kid_get hlt0] at HE
        have HMem0 := List.getElem_mem hlt0
        have H3 := hide (fun w' (e : Ext w w') => hide (r_qual (t.kids[0]'hlt0) w' (HN0.out.ext e)))
        generalize qualB (t.kids[0]'hlt0) = B3 at *
        clear HMem0
        generalize t.kids[0]'hlt0 = c0 at *
        obtain ⟨q0_0, q1_0, q2_0, q3_0, q4_0⟩ := HQ0.out _ (Ext.refl w)
        have hR : R = B3 := by rw [HE.out]; simp [HP0.out]
        clear HE
        subst hR
        go_enter Tryz.func83, Tryz.ntmps83
        go_wp2_with fail
        refine (H1.out _ X0.out).out.mono ?_
        rintro e w2 ⟨rfl, hx⟩
        have X2 := hide (X0.out.trans hx)
        have HB2 := hide (HB0.out.ext hx)
        clear hx
        have c0_1 := HB2.out.c0
        have c1_1 := HB2.out.c1
        have c2_1 := HB2.out.c2
        have c3_1 := HB2.out.c3
        have c4_1 := HB2.out.c4
        rw [HA0.out] at c4_1
        obtain ⟨q0_1_0, q1_1_0, q2_1_0, q3_1_0, q4_1_0⟩ := HQ0.out _ X2.out
        go_wp2_with fail
        refine (H2.out _ X2.out).out.mono ?_
        rintro e w3 ⟨rfl, hx⟩
        have X3 := hide (X2.out.trans hx)
        have HB3 := hide (HB2.out.ext hx)
        clear hx
        have c0_2 := HB3.out.c0
        have c1_2 := HB3.out.c1
        have c2_2 := HB3.out.c2
        have c3_2 := HB3.out.c3
        have c4_2 := HB3.out.c4
        rw [HA0.out] at c4_2
        obtain ⟨q0_2_0, q1_2_0, q2_2_0, q3_2_0, q4_2_0⟩ := HQ0.out _ X3.out
        go_wp2_with fail
        refine (H3.out _ X3.out).out.mono ?_
        rintro e w4 ⟨rfl, hx⟩
        have X4 := hide (X3.out.trans hx)
        have HB4 := hide (HB3.out.ext hx)
        clear hx
        have c0_3 := HB4.out.c0
        have c1_3 := HB4.out.c1
        have c2_3 := HB4.out.c2
        have c3_3 := HB4.out.c3
        have c4_3 := HB4.out.c4
        rw [HA0.out] at c4_3
        obtain ⟨q0_3_0, q1_3_0, q2_3_0, q3_3_0, q4_3_0⟩ := HQ0.out _ X4.out
        go_wp2
        go_ret
        exact ⟨rfl, X4.out⟩
  · have hki : (t.kind == 32) = false := by simpa using hp0
    have HP0 := hide hp0
    clear hp0
    have hR : R = false := by rw [HE.out]; simp [HP0.out]
    clear HE
    subst hR
    go_enter Tryz.func83, Tryz.ntmps83
    go_wp2
    go_ret
    exact ⟨rfl, (by repeat (first | exact Ext.refl _ | exact Ext.pre (by simp) | exact Ext.alloc (by assumption) _ | refine Ext.alloc ?_ _ |  refine Ext.more ?_ _ _ | refine Ext.drew ?_ | refine Ext.drewN ?_ _))⟩

end Go.Proofs.YtnbnhchgkbbiiaaGreat
