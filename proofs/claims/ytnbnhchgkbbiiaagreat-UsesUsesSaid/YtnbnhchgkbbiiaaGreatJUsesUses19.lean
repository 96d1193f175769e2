/- Contracts on the reference's nodes: patterns. (A program of ours has printed the walks.) -/
import Derived.Test.YtnbnhchgkbbiiaaGreatJUsesUses18
/- Contracts on the reference's nodes: patterns. (A program of ours has printed the walks.) -/
namespace Go.Proofs.YtnbnhchgkbbiiaaGreat
open Go.RowKit

theorem pat_var0 {t : Tree} (h : t.kind = 11) : patB t = (varB t.text && plainB 0 t) := by rw [pat_var h, var0]
theorem pat_any0 {t : Tree} (h : t.kind = 12) : patB t = ((t.text == []) && plainB 0 t) := by rw [pat_any h]; exact bareP 0 t
theorem pat_con0 {t : Tree} (h : t.kind = 14) : patB t = (t.kids.all patB && (conB t.text && (t.n == 0))) := by
  rw [pat_con h]; unfold namedB; cases (t.n == 0) <;> cases conB t.text <;> simp
set_option maxRecDepth 10000 in
set_option maxHeartbeats 1000000 in
theorem r_pat_var (t : Tree) (hk : t.kind = 11) : Asks 92 patB t := by
  intro w h
  have HE : Hid (patB t = (varB t.text && plainB 0 t)) := hide (pat_var0 hk)
  have Hk := hide h.nodes
  have hle := h.le
  have hmx := h.max
  have HB0 := hide (NBox.new w t)
  have X0 : Hid (Ext w (w.alloc (.cells #[.int .i64 t.kind, .int .i64 t.pos, .int .i64 t.n, encStr t.text, .slice t.A t.kids.length t.cap] 24))) := hide ((Ext.refl w).alloc _)
  have hk11 : (t.kind == 11) = true := by rw [hk]; rfl
  clear hk
  have H0 := hide (fun w' (e : Ext w w') => hide (Calls.mono (R' := fun e w'' => e = .returned (.bool (varB t.text)) ∧ Ext w' w'') (r_var03 t.text w' h.txt) (fun e w'' hh => ⟨hh.1, by rw [hh.2]; exact Ext.refl _⟩)))
  have H1 := hide (fun w' (e : Ext w w') => hide (r_plain 0 t w' (h.ext e)))
  generalize patB t = R at *
  generalize varB t.text = B0 at *
  generalize plainB 0 t = B1 at *
  unfold treeV at *
  have HN := hide h
  clear h
  generalize hA0 : t.A = A0 at *
  have HA0 := hide hA0
  clear hA0
  cases B0
  · have hR : R = false := by rw [HE.out]; simp
    clear HE
    subst hR
    go_enter Tryz.func92, Tryz.ntmps92
    go_wp2_with fail
    refine (H0.out _ X0.out).out.mono ?_
    rintro e w1 ⟨rfl, hx⟩
    have X1 := hide (X0.out.trans hx)
    have HB1 := hide (HB0.out.ext hx)
    clear hx
    have c0_0 := HB1.out.c0
    have c1_0 := HB1.out.c1
    have c2_0 := HB1.out.c2
    have c3_0 := HB1.out.c3
    have c4_0 := HB1.out.c4
    rw [HA0.out] at c4_0
    go_wp2
    go_ret
    exact ⟨rfl, X1.out⟩
  · have hR : R = B1 := by rw [HE.out]; simp
    clear HE
    subst hR
    go_enter Tryz.func92, Tryz.ntmps92
    go_wp2_with fail
    refine (H0.out _ X0.out).out.mono ?_
    rintro e w1 ⟨rfl, hx⟩
    have X1 := hide (X0.out.trans hx)
    have HB1 := hide (HB0.out.ext hx)
    clear hx
    have c0_0 := HB1.out.c0
    have c1_0 := HB1.out.c1
    have c2_0 := HB1.out.c2
    have c3_0 := HB1.out.c3
    have c4_0 := HB1.out.c4
    rw [HA0.out] at c4_0
    go_wp2_with fail
    refine (H1.out _ X1.out).out.mono ?_
    rintro e w2 ⟨rfl, hx⟩
    have X2 := hide (X1.out.trans hx)
    have HB2 := hide (HB1.out.ext hx)
    clear hx
    have c0_1 := HB2.out.c0
    have c1_1 := HB2.out.c1
    have c2_1 := HB2.out.c2
    have c3_1 := HB2.out.c3
    have c4_1 := HB2.out.c4
    rw [HA0.out] at c4_1
    go_wp2
    go_ret
    exact ⟨rfl, X2.out⟩

set_option maxRecDepth 10000 in
set_option maxHeartbeats 1000000 in
theorem r_pat_any (t : Tree) (hk : t.kind = 12) : Asks 92 patB t := by
  intro w h
  have HE : Hid (patB t = ((t.text == []) && plainB 0 t)) := hide (pat_any0 hk)
  have Hk := hide h.nodes
  have hle := h.le
  have hmx := h.max
  have HB0 := hide (NBox.new w t)
  have X0 : Hid (Ext w (w.alloc (.cells #[.int .i64 t.kind, .int .i64 t.pos, .int .i64 t.n, encStr t.text, .slice t.A t.kids.length t.cap] 24))) := hide ((Ext.refl w).alloc _)
  have hk11 : (t.kind == 11) = false := by rw [hk]; rfl
  have hk12 : (t.kind == 12) = true := by rw [hk]; rfl
  clear hk
  have H1 := hide (fun w' (e : Ext w w') => hide (r_plain 0 t w' (h.ext e)))
  generalize patB t = R at *
  generalize plainB 0 t = B1 at *
  unfold treeV at *
  have HN := hide h
  clear h
  generalize hA0 : t.A = A0 at *
  have HA0 := hide hA0
  clear hA0
  by_cases hp0 : (t.text == []) = true
  · have hs0 : (t.text == []) = true := hp0
    have HP0 := hide hp0
    clear hp0
    have hR : R = B1 := by rw [HE.out]; simp [HP0.out]
    clear HE
    subst hR
    go_enter Tryz.func92, Tryz.ntmps92
    go_wp2_with fail
    refine (H1.out _ X0.out).out.mono ?_
    rintro e w2 ⟨rfl, hx⟩
    have X2 := hide (X0.out.trans hx)
    have HB2 := hide (HB0.out.ext hx)
    clear hx
    have c0_1 := HB2.out.c0
    have c1_1 := HB2.out.c1
    have c2_1 := HB2.out.c2
    have c3_1 := HB2.out.c3
    have c4_1 := HB2.out.c4
    rw [HA0.out] at c4_1
    go_wp2
    go_ret
    exact ⟨rfl, X2.out⟩
  · have hs0 : (t.text == []) = false := by simpa using hp0
    have HP0 := hide hp0
    clear hp0
    have hR : R = false := by rw [HE.out]; simp [HP0.out]
    clear HE
    subst hR
    go_enter Tryz.func92, Tryz.ntmps92
    go_wp2
    go_ret
    exact ⟨rfl, (by repeat (first | exact Ext.refl _ | exact Ext.pre (by simp) | exact Ext.alloc (by assumption) _ | refine Ext.alloc ?_ _ |  refine Ext.more ?_ _ _ | refine Ext.drew ?_ | refine Ext.drewN ?_ _))⟩

set_option maxRecDepth 10000 in
set_option maxHeartbeats 1000000 in
theorem r_pat_int (t : Tree) (hk : t.kind = 13) : Asks 92 patB t := by
  intro w h
  have HE : Hid (patB t = ((t.text == []) && decide (0 ≤ t.n) && decide (t.kids.length = 0))) := hide (pat_int hk)
  have Hk := hide h.nodes
  have hle := h.le
  have hmx := h.max
  have HB0 := hide (NBox.new w t)
  have X0 : Hid (Ext w (w.alloc (.cells #[.int .i64 t.kind, .int .i64 t.pos, .int .i64 t.n, encStr t.text, .slice t.A t.kids.length t.cap] 24))) := hide ((Ext.refl w).alloc _)
  have hk11 : (t.kind == 11) = false := by rw [hk]; rfl
  have hk12 : (t.kind == 12) = false := by rw [hk]; rfl
  have hk13 : (t.kind == 13) = true := by rw [hk]; rfl
  clear hk
  generalize patB t = R at *
  unfold treeV at *
  have HN := hide h
  clear h
  generalize hA0 : t.A = A0 at *
  have HA0 := hide hA0
  clear hA0
  by_cases hp0 : (t.text == []) = true
  · have hs0 : (t.text == []) = true := hp0
    have HP0 := hide hp0
    clear hp0
    by_cases hp1 : 0 ≤ t.n
    · have hn0 : t.n ≥ 0 := hp1
      have HP1 := hide hp1
      clear hp1
      by_cases hp2 : t.kids.length = 0
      · have hpi : ((t.kids.length : Int) == 0) = true := beq_iff_eq.2 (by omega)
        have HP2 := hide hp2
        clear hp2
        have hR : R = true := by rw [HE.out]; simp [HP0.out, HP1.out, HP2.out]
        clear HE
        subst hR
        go_enter Tryz.func92, Tryz.ntmps92
        go_wp2
        go_ret
        exact ⟨rfl, (by repeat (first | exact Ext.refl _ | exact Ext.pre (by simp) | exact Ext.alloc (by assumption) _ | refine Ext.alloc ?_ _ |  refine Ext.more ?_ _ _ | refine Ext.drew ?_ | refine Ext.drewN ?_ _))⟩
      · have hpi : ((t.kids.length : Int) == 0) = false := beq_eq_false_iff_ne.2 (by omega)
        have HP2 := hide hp2
        clear hp2
        have hR : R = false := by rw [HE.out]; simp [HP2.out]
        clear HE
        subst hR
        go_enter Tryz.func92, Tryz.ntmps92
        go_wp2
        go_ret
        exact ⟨rfl, (by repeat (first | exact Ext.refl _ | exact Ext.pre (by simp) | exact Ext.alloc (by assumption) _ | refine Ext.alloc ?_ _ |  refine Ext.more ?_ _ _ | refine Ext.drew ?_ | refine Ext.drewN ?_ _))⟩
    · have hn0 : ¬ t.n ≥ 0 := hp1
      have HP1 := hide hp1
      clear hp1
      have hR : R = false := by rw [HE.out]; simp [HP1.out]
      clear HE
      subst hR
      go_enter Tryz.func92, Tryz.ntmps92
      go_wp2
      go_ret
      exact ⟨rfl, (by repeat (first | exact Ext.refl _ | exact Ext.pre (by simp) | exact Ext.alloc (by assumption) _ | refine Ext.alloc ?_ _ |  refine Ext.more ?_ _ _ | refine Ext.drew ?_ | refine Ext.drewN ?_ _))⟩
  · have hs0 : (t.text == []) = false := by simpa using hp0
    have HP0 := hide hp0
    clear hp0
    have hR : R = false := by rw [HE.out]; simp [HP0.out]
    clear HE
    subst hR
    go_enter Tryz.func92, Tryz.ntmps92
    go_wp2
    go_ret
    exact ⟨rfl, (by repeat (first | exact Ext.refl _ | exact Ext.pre (by simp) | exact Ext.alloc (by assumption) _ | refine Ext.alloc ?_ _ |  refine Ext.more ?_ _ _ | refine Ext.drew ?_ | refine Ext.drewN ?_ _))⟩

set_option maxRecDepth 10000 in
set_option maxHeartbeats 1000000 in
theorem r_pat_else (t : Tree) (h1 : t.kind ≠ 11) (h2 : t.kind ≠ 12) (h3 : t.kind ≠ 13) (h4 : t.kind ≠ 14) : Asks 92 patB t := by
  intro w h
  have HE : Hid (patB t = false) := hide (pat_else h1 h2 h3 h4)
  have Hk := hide h.nodes
  have hle := h.le
  have hmx := h.max
  have HB0 := hide (NBox.new w t)
  have X0 : Hid (Ext w (w.alloc (.cells #[.int .i64 t.kind, .int .i64 t.pos, .int .i64 t.n, encStr t.text, .slice t.A t.kids.length t.cap] 24))) := hide ((Ext.refl w).alloc _)
  have hk11 : (t.kind == 11) = false := by simpa using h1
  clear h1
  have hk12 : (t.kind == 12) = false := by simpa using h2
  clear h2
  have hk13 : (t.kind == 13) = false := by simpa using h3
  clear h3
  have hk14 : (t.kind == 14) = false := by simpa using h4
  clear h4
  generalize patB t = R at *
  unfold treeV at *
  have HN := hide h
  clear h
  generalize hA0 : t.A = A0 at *
  have HA0 := hide hA0
  clear hA0
  have hR : R = false := HE.out
  clear HE
  subst hR
  go_enter Tryz.func92, Tryz.ntmps92
  go_wp2
  go_ret
  exact ⟨rfl, (by repeat (first | exact Ext.refl _ | exact Ext.pre (by simp) | exact Ext.alloc (by assumption) _ | refine Ext.alloc ?_ _ |  refine Ext.more ?_ _ _ | refine Ext.drew ?_ | refine Ext.drewN ?_ _))⟩

set_option maxRecDepth 10000 in
set_option maxHeartbeats 2000000 in
theorem r_pat_con (t : Tree) (hk : t.kind = 14) (ih : ∀ k ∈ t.kids, Asks 92 patB k) : Asks 92 patB t := by
  intro w h
  have HE : Hid (patB t = (t.kids.all patB && (conB t.text && (t.n == 0)))) := hide (pat_con0 hk)
  have hk11 : (t.kind == 11) = false := by rw [hk]; rfl
  have hk12 : (t.kind == 12) = false := by rw [hk]; rfl
  have hk13 : (t.kind == 13) = false := by rw [hk]; rfl
  have hk14 : (t.kind == 14) = true := by rw [hk]; rfl
  clear hk
  have Hk := hide h.nodes
  have hle := h.le
  have hmx := h.max
  have HB0 := hide (NBox.new w t)
  have X0 : Hid (Ext w (w.alloc (.cells #[.int .i64 t.kind, .int .i64 t.pos, .int .i64 t.n, encStr t.text, .slice t.A t.kids.length t.cap] 24))) := hide ((Ext.refl w).alloc _)
  have HF := hide ih
  have HCn := hide (fun w' (e : Ext w w') => hide (Calls.mono (R' := fun e w'' => e = .returned (.bool (conB t.text)) ∧ Ext w' w'') (r_con03 t.text w' h.txt) (fun e w'' hh => ⟨hh.1, by rw [hh.2]; exact Ext.refl _⟩)))
  have HD0 : Hid ((t.kids.drop 0).all patB = t.kids.all patB) := hide rfl
  generalize patB t = R at *
  generalize t.kids.all patB = C at *
  generalize conB t.text = D at *
  clear ih
  unfold treeV at *
  have HN := hide h
  clear h
  generalize hA0 : t.A = A0 at *
  have HA0 := hide hA0
  clear hA0
  go_enter Tryz.func92, Tryz.ntmps92
  go_wp2
  go_loopw [3] (fun i wr => ∃ k : Nat, k ≤ t.kids.length ∧ i = .int .i64 k ∧ Hid (Ext w wr) ∧ Hid (NBox wr w.heap.size t) ∧ Hid ((t.kids.drop k).all patB = C)) (fun i _ => t.kids.length - (intOf i).toNat)
  case atStart => exact ⟨0, by omega, rfl, X0, HB0, HD0⟩
  case round =>
    obtain ⟨k, hk, rfl, HX, HB, HD⟩ := hrel
    have c0_r := HB.out.c0
    have c1_r := HB.out.c1
    have c2_r := HB.out.c2
    have c3_r := HB.out.c3
    have c4_r := HB.out.c4
    rw [HA0.out] at c4_r
    by_cases hlt : k < t.kids.length
    · have hltl : k < t.kids.length := by omega
      have hltd : k < t.kids.length := by omega
      have hlt' : (k : Int) < (t.kids.length : Int) := by omega
      have hltl' : (k : Int) < (t.kids.length : Int) := by omega
      have hk0 : (0 : Int) ≤ (k : Int) := by omega
      obtain ⟨b, o, rfl, hb, q0, q1, q2, q3, q4⟩ := (Hk.out.ext HX.out).at_ hltl
      have HD2 : Hid ((patB (t.kids[k]'hltl) && (t.kids.drop (k + 1)).all patB) = C) := hide (by have := HD.out; rw [List.drop_eq_getElem_cons hltd] at this; exact this)
      have HKid := hide ((Hk.out.kids _ (List.getElem_mem hltl)).ext HX.out)
      have Hmem := hide (List.getElem_mem hltl)
      have HC := hide (HF.out _ Hmem.out wr HKid.out)
      generalize t.kids[k]'hltl = c at *
      cases hp : patB c
      · rw [hp] at HD2 HC
        have hC : C = false := HD2.out.symm
        have hR : R = false := by rw [HE.out, hC] <;> simp
        clear HD HD2 HE HD0 hC
        subst hR
        go_wp2_with fail
        refine HC.out.mono ?_
        rintro e w3 ⟨rfl, hx3⟩
        go_wp2
        go_ret
        exact ⟨rfl, HX.out.trans hx3⟩
      · rw [hp] at HD2 HC
        have HD3 : Hid (_ = C) := hide HD2.out
        rw [Bool.true_and] at HD3
        go_wp2_with fail
        refine HC.out.mono ?_
        rintro e w3 ⟨rfl, hx3⟩
        have X3 := hide (HX.out.trans hx3)
        have HB3 := hide (HB.out.ext hx3)
        clear hx3
        go_wp2
        go_roundw
        case rel => exact ⟨k + 1, by omega, by go_num, X3, HB3, HD3⟩
        case measure => simp [intOf]; omega
    · have hge : ¬ (k : Int) < (t.kids.length : Int) := by omega
      have hC : C = true := by have := HD.out; rw [List.drop_eq_nil_of_le (by omega)] at this; exact this.symm
      clear HD HD0
      subst hC
      cases D
      · have hR : R = false := by rw [HE.out] <;> simp
        clear HE
        subst hR
        go_wp2_with fail
        refine (HCn.out _ HX.out).out.mono ?_
        rintro e w4 ⟨rfl, hx⟩
        have X4 := hide (HX.out.trans hx)
        have HB4 := hide (HB.out.ext hx)
        clear hx
        have c0_4 := HB4.out.c0
        have c1_4 := HB4.out.c1
        have c2_4 := HB4.out.c2
        have c3_4 := HB4.out.c3
        have c4_4 := HB4.out.c4
        rw [HA0.out] at c4_4
        go_wp2
        go_ret
        exact ⟨rfl, X4.out⟩
      · cases hn0 : (t.n == 0)
        · have hR : R = false := by rw [HE.out, hn0]; simp
          clear HE
          subst hR
          go_wp2_with fail
          refine (HCn.out _ HX.out).out.mono ?_
          rintro e w4 ⟨rfl, hx⟩
          have X4 := hide (HX.out.trans hx)
          have HB4 := hide (HB.out.ext hx)
          clear hx
          have c0_4 := HB4.out.c0
          have c1_4 := HB4.out.c1
          have c2_4 := HB4.out.c2
          have c3_4 := HB4.out.c3
          have c4_4 := HB4.out.c4
          rw [HA0.out] at c4_4
          go_wp2
          go_ret
          exact ⟨rfl, X4.out⟩
        · have hR : R = true := by rw [HE.out, hn0]; simp
          clear HE
          subst hR
          go_wp2_with fail
          refine (HCn.out _ HX.out).out.mono ?_
          rintro e w4 ⟨rfl, hx⟩
          have X4 := hide (HX.out.trans hx)
          have HB4 := hide (HB.out.ext hx)
          clear hx
          have c0_4 := HB4.out.c0
          have c1_4 := HB4.out.c1
          have c2_4 := HB4.out.c2
          have c3_4 := HB4.out.c3
          have c4_4 := HB4.out.c4
          rw [HA0.out] at c4_4
          go_wp2
          go_ret
          exact ⟨rfl, X4.out⟩

theorem r_pat (t : Tree) : Asks 92 patB t := by
  induction t using Tree.ind with
  | h t ih =>
    by_cases h1 : t.kind = 11
    · exact r_pat_var t h1
    · by_cases h2 : t.kind = 12
      · exact r_pat_any t h2
      · by_cases h3 : t.kind = 13
        · exact r_pat_int t h3
        · by_cases h4 : t.kind = 14
          · exact r_pat_con t h4 ih
          · exact r_pat_else t h1 h2 h3 h4

end Go.Proofs.YtnbnhchgkbbiiaaGreat

/- Contracts on the reference's nodes: bindings, alternatives, lists of expressions. (A program of ours has printed the walks.) -/
namespace Go.Proofs.YtnbnhchgkbbiiaaGreat
open Go.RowKit

set_option maxRecDepth 10000 in
set_option maxHeartbeats 1000000 in
theorem r_bind (t : Tree) (ih : ∀ k ∈ t.kids, Asks 36 expB k) : Asks 82 bindB t := by
  intro w h
  have HE : Hid (bindB t = (decide (t.kind = 31) && varB t.text && plainB 1 t && expB (t.kid 0))) := hide (bind_plain t)
  have Hk := hide h.nodes
  have hle := h.le
  have hmx := h.max
  have HB0 := hide (NBox.new w t)
  have X0 : Hid (Ext w (w.alloc (.cells #[.int .i64 t.kind, .int .i64 t.pos, .int .i64 t.n, encStr t.text, .slice t.A t.kids.length t.cap] 24))) := hide ((Ext.refl w).alloc _)
  have HPL : Hid (plainB 1 t = true → t.kids.length = 1) := hide (fun h => plain_kids h)
  have H1 := hide (fun w' (e : Ext w w') => hide (Calls.mono (R' := fun e w'' => e = .returned (.bool (varB t.text)) ∧ Ext w' w'') (r_var03 t.text w' h.txt) (fun e w'' hh => ⟨hh.1, by rw [hh.2]; exact Ext.refl _⟩)))
  have H2 := hide (fun w' (e : Ext w w') => hide (r_plain 1 t w' (h.ext e)))
  generalize bindB t = R at *
  generalize varB t.text = B1 at *
  generalize plainB 1 t = B2 at *
  unfold treeV at *
  have HN := hide h
  clear h
  generalize hA0 : t.A = A0 at *
  have HA0 := hide hA0
  clear hA0
  by_cases hp0 : t.kind = 31
  · have hki : (t.kind == 31) = true := by simpa using hp0
    have HP0 := hide hp0
    clear hp0
    cases B1
    · have hR : R = false := by rw [HE.out]; simp
      clear HE
      subst hR
      go_enter Tryz.func82, Tryz.ntmps82
      go_wp2_with fail
      refine (H1.out _ X0.out).out.mono ?_
      rintro e w2 ⟨rfl, hx⟩
      have X2 := hide (X0.out.trans hx)
      have HB2 := hide (HB0.out.ext hx)
      clear hx
      have c0_1 := HB2.out.c0
      have c1_1 := HB2.out.c1
      have c2_1 := HB2.out.c2
      have c3_1 := HB2.out.c3
      have c4_1 := HB2.out.c4
      rw [HA0.out] at c4_1
      go_wp2
      go_ret
      exact ⟨rfl, X2.out⟩
    · cases B2
      · have hR : R = false := by rw [HE.out]; simp
        clear HE
        subst hR
        go_enter Tryz.func82, Tryz.ntmps82
        go_wp2_with fail
        refine (H1.out _ X0.out).out.mono ?_
        rintro e w2 ⟨rfl, hx⟩
        have X2 := hide (X0.out.trans hx)
        have HB2 := hide (HB0.out.ext hx)
        clear hx
        have c0_1 := HB2.out.c0
        have c1_1 := HB2.out.c1
        have c2_1 := HB2.out.c2
        have c3_1 := HB2.out.c3
        have c4_1 := HB2.out.c4
        rw [HA0.out] at c4_1
        go_wp2_with fail
        refine (H2.out _ X2.out).out.mono ?_
        rintro e w3 ⟨rfl, hx⟩
        have X3 := hide (X2.out.trans hx)
        have HB3 := hide (HB2.out.ext hx)
        clear hx
        have c0_2 := HB3.out.c0
        have c1_2 := HB3.out.c1
        have c2_2 := HB3.out.c2
        have c3_2 := HB3.out.c3
        have c4_2 := HB3.out.c4
        rw [HA0.out] at c4_2
        go_wp2
        go_ret
        exact ⟨rfl, X3.out⟩
      · have hpz0 : (0 : Int) < (t.kids.length : Int) := by have := HPL.out rfl; omega
        have hlt0 : 0 < t.kids.length := by have := HPL.out rfl; omega
        obtain ⟨b, o, hAe, hb⟩ := Hk.out.some_ (by omega)
        subst hAe
        have HQ0 : Hid (∀ w', Ext w w' → w'.cell? ⟨b, o, none⟩ = some (.int .i64 (t.kids[0]'hlt0).kind) ∧ w'.cell? ⟨b, o + 1, none⟩ = some (.int .i64 (t.kids[0]'hlt0).pos) ∧ w'.cell? ⟨b, o + 2, none⟩ = some (.int .i64 (t.kids[0]'hlt0).n) ∧ w'.cell? ⟨b, o + 3, none⟩ = some (.string ⟨(t.kids[0]'hlt0).text.toArray⟩) ∧ w'.cell? ⟨b, o + 4, none⟩ = some (.slice (t.kids[0]'hlt0).A (t.kids[0]'hlt0).kids.length (t.kids[0]'hlt0).cap)) := hide (fun w' e => by have := (Hk.out.ext e).cells hlt0; simpa using this)
        have HN0 := hide (Hk.out.kids _ (List.getElem_mem hlt0))
        rw [kid_get hlt0] at HE
        have HMem0 := List.getElem_mem hlt0
        have H3 := hide (fun w' (e : Ext w w') => hide (ih (t.kids[0]'hlt0) HMem0 w' (HN0.out.ext e)))
        generalize expB (t.kids[0]'hlt0) = B3 at *
        clear HMem0
        generalize t.kids[0]'hlt0 = c0 at *
        obtain ⟨q0_0, q1_0, q2_0, q3_0, q4_0⟩ := HQ0.out _ (Ext.refl w)
        have hR : R = B3 := by rw [HE.out]; simp [HP0.out]
        clear HE
        subst hR
        go_enter Tryz.func82, Tryz.ntmps82
        go_wp2_with fail
        refine (H1.out _ X0.out).out.mono ?_
        rintro e w2 ⟨rfl, hx⟩
        have X2 := hide (X0.out.trans hx)
        have HB2 := hide (HB0.out.ext hx)
        clear hx
        have c0_1 := HB2.out.c0
        have c1_1 := HB2.out.c1
        have c2_1 := HB2.out.c2
        have c3_1 := HB2.out.c3
        have c4_1 := HB2.out.c4
        rw [HA0.out] at c4_1
        obtain ⟨q0_1_0, q1_1_0, q2_1_0, q3_1_0, q4_1_0⟩ := HQ0.out _ X2.out
        go_wp2_with fail
        refine (H2.out _ X2.out).out.mono ?_
        rintro e w3 ⟨rfl, hx⟩
        have X3 := hide (X2.out.trans hx)
        have HB3 := hide (HB2.out.ext hx)
        clear hx
        have c0_2 := HB3.out.c0
        have c1_2 := HB3.out.c1
        have c2_2 := HB3.out.c2
        have c3_2 := HB3.out.c3
        have c4_2 := HB3.out.c4
        rw [HA0.out] at c4_2
        obtain ⟨q0_2_0, q1_2_0, q2_2_0, q3_2_0, q4_2_0⟩ := HQ0.out _ X3.out
        go_wp2_with fail
        refine (H3.out _ X3.out).out.mono ?_
        rintro e w4 ⟨rfl, hx⟩
        have X4 := hide (X3.out.trans hx)
        have HB4 := hide (HB3.out.ext hx)
        clear hx
        have c0_3 := HB4.out.c0
        have c1_3 := HB4.out.c1
        have c2_3 := HB4.out.c2
        have c3_3 := HB4.out.c3
        have c4_3 := HB4.out.c4
        rw [HA0.out] at c4_3
        obtain ⟨q0_3_0, q1_3_0, q2_3_0, q3_3_0, q4_3_0⟩ := HQ0.out _ X4.out
        go_wp2
        go_ret
        exact ⟨rfl, X4.out⟩
  · have hki : (t.kind == 31) = false := by simpa using hp0
    have HP0 := hide hp0
    clear hp0
    have hR : R = false := by rw [HE.out]; simp [HP0.out]
    clear HE
    subst hR
    go_enter Tryz.func82, Tryz.ntmps82
    go_wp2
    go_ret
    exact ⟨rfl, (by repeat (first | exact Ext.refl _ | exact Ext.pre (by simp) | exact Ext.alloc (by assumption) _ | refine Ext.alloc ?_ _ |  refine Ext.more ?_ _ _ | refine Ext.drew ?_ | refine Ext.drewN ?_ _))⟩

set_option maxRecDepth 10000 in
set_option maxHeartbeats 1000000 in
theorem r_alt (t : Tree) (ih : ∀ k ∈ t.kids, Asks 36 expB k) : Asks 84 altB t := by
  intro w h
  have HE : Hid (altB t = (decide (t.kind = 15) && (t.text == []) && plainB 2 t && patB (t.kid 0) && expB (t.kid 1))) := hide (alt_plain t)
  have Hk := hide h.nodes
  have hle := h.le
  have hmx := h.max
  have HB0 := hide (NBox.new w t)
  have X0 : Hid (Ext w (w.alloc (.cells #[.int .i64 t.kind, .int .i64 t.pos, .int .i64 t.n, encStr t.text, .slice t.A t.kids.length t.cap] 24))) := hide ((Ext.refl w).alloc _)
  have HPL : Hid (plainB 2 t = true → t.kids.length = 2) := hide (fun h => plain_kids h)
  have H2 := hide (fun w' (e : Ext w w') => hide (r_plain 2 t w' (h.ext e)))
  generalize altB t = R at *
  generalize plainB 2 t = B2 at *
  unfold treeV at *
  have HN := hide h
  clear h
  generalize hA0 : t.A = A0 at *
  have HA0 := hide hA0
  clear hA0
  by_cases hp0 : t.kind = 15
  · have hki : (t.kind == 15) = true := by simpa using hp0
    have HP0 := hide hp0
    clear hp0
    by_cases hp1 : (t.text == []) = true
    · have hs0 : (t.text == []) = true := hp1
      have HP1 := hide hp1
      clear hp1
      cases B2
      · have hR : R = false := by rw [HE.out]; simp
        clear HE
        subst hR
        go_enter Tryz.func84, Tryz.ntmps84
        go_wp2_with fail
        refine (H2.out _ X0.out).out.mono ?_
        rintro e w3 ⟨rfl, hx⟩
        have X3 := hide (X0.out.trans hx)
        have HB3 := hide (HB0.out.ext hx)
        clear hx
        have c0_2 := HB3.out.c0
        have c1_2 := HB3.out.c1
        have c2_2 := HB3.out.c2
        have c3_2 := HB3.out.c3
        have c4_2 := HB3.out.c4
        rw [HA0.out] at c4_2
        go_wp2
        go_ret
        exact ⟨rfl, X3.out⟩
      · have hpz0 : (0 : Int) < (t.kids.length : Int) := by have := HPL.out rfl; omega
        have hpz1 : (1 : Int) < (t.kids.length : Int) := by have := HPL.out rfl; omega
        have hlt0 : 0 < t.kids.length := by have := HPL.out rfl; omega
        obtain ⟨b, o, hAe, hb⟩ := Hk.out.some_ (by omega)
        subst hAe
        have HQ0 : Hid (∀ w', Ext w w' → w'.cell? ⟨b, o, none⟩ = some (.int .i64 (t.kids[0]'hlt0).kind) ∧ w'.cell? ⟨b, o + 1, none⟩ = some (.int .i64 (t.kids[0]'hlt0).pos) ∧ w'.cell? ⟨b, o + 2, none⟩ = some (.int .i64 (t.kids[0]'hlt0).n) ∧ w'.cell? ⟨b, o + 3, none⟩ = some (.string ⟨(t.kids[0]'hlt0).text.toArray⟩) ∧ w'.cell? ⟨b, o + 4, none⟩ = some (.slice (t.kids[0]'hlt0).A (t.kids[0]'hlt0).kids.length (t.kids[0]'hlt0).cap)) := hide (fun w' e => by have := (Hk.out.ext e).cells hlt0; simpa using this)
        have HN0 := hide (Hk.out.kids _ (List.getElem_mem hlt0))
        have hlt1 : 1 < t.kids.length := by have := HPL.out rfl; omega
        have HQ1 : Hid (∀ w', Ext w w' → w'.cell? ⟨b, o + 5, none⟩ = some (.int .i64 (t.kids[1]'hlt1).kind) ∧ w'.cell? ⟨b, o + 5 + 1, none⟩ = some (.int .i64 (t.kids[1]'hlt1).pos) ∧ w'.cell? ⟨b, o + 5 + 2, none⟩ = some (.int .i64 (t.kids[1]'hlt1).n) ∧ w'.cell? ⟨b, o + 5 + 3, none⟩ = some (.string ⟨(t.kids[1]'hlt1).text.toArray⟩) ∧ w'.cell? ⟨b, o + 5 + 4, none⟩ = some (.slice (t.kids[1]'hlt1).A (t.kids[1]'hlt1).kids.length (t.kids[1]'hlt1).cap)) := hide (fun w' e => by have := (Hk.out.ext e).cells hlt1; simpa using this)
        have HN1 := hide (Hk.out.kids _ (List.getElem_mem hlt1))
        rw [kid_get hlt0] at HE
        have HMem0 := List.getElem_mem hlt0
        have H3 := hide (fun w' (e : Ext w w') => hide (r_pat (t.kids[0]'hlt0) w' (HN0.out.ext e)))
        generalize patB (t.kids[0]'hlt0) = B3 at *
        rw [kid_get hlt1] at HE
        have HMem1 := List.getElem_mem hlt1
        have H4 := hide (fun w' (e : Ext w w') => hide (ih (t.kids[1]'hlt1) HMem1 w' (HN1.out.ext e)))
        generalize expB (t.kids[1]'hlt1) = B4 at *
        clear HMem0
        generalize t.kids[0]'hlt0 = c0 at *
        obtain ⟨q0_0, q1_0, q2_0, q3_0, q4_0⟩ := HQ0.out _ (Ext.refl w)
        clear HMem1
        generalize t.kids[1]'hlt1 = c1 at *
        obtain ⟨q0_1, q1_1, q2_1, q3_1, q4_1⟩ := HQ1.out _ (Ext.refl w)
        cases B3
        · have hR : R = false := by rw [HE.out]; simp
          clear HE
          subst hR
          go_enter Tryz.func84, Tryz.ntmps84
          go_wp2_with fail
          refine (H2.out _ X0.out).out.mono ?_
          rintro e w3 ⟨rfl, hx⟩
          have X3 := hide (X0.out.trans hx)
          have HB3 := hide (HB0.out.ext hx)
          clear hx
          have c0_2 := HB3.out.c0
          have c1_2 := HB3.out.c1
          have c2_2 := HB3.out.c2
          have c3_2 := HB3.out.c3
          have c4_2 := HB3.out.c4
          rw [HA0.out] at c4_2
          obtain ⟨q0_2_0, q1_2_0, q2_2_0, q3_2_0, q4_2_0⟩ := HQ0.out _ X3.out
          obtain ⟨q0_2_1, q1_2_1, q2_2_1, q3_2_1, q4_2_1⟩ := HQ1.out _ X3.out
          go_wp2_with fail
          refine (H3.out _ X3.out).out.mono ?_
          rintro e w4 ⟨rfl, hx⟩
          have X4 := hide (X3.out.trans hx)
          have HB4 := hide (HB3.out.ext hx)
          clear hx
          have c0_3 := HB4.out.c0
          have c1_3 := HB4.out.c1
          have c2_3 := HB4.out.c2
          have c3_3 := HB4.out.c3
          have c4_3 := HB4.out.c4
          rw [HA0.out] at c4_3
          obtain ⟨q0_3_0, q1_3_0, q2_3_0, q3_3_0, q4_3_0⟩ := HQ0.out _ X4.out
          obtain ⟨q0_3_1, q1_3_1, q2_3_1, q3_3_1, q4_3_1⟩ := HQ1.out _ X4.out
          go_wp2
          go_ret
          exact ⟨rfl, X4.out⟩
        · have hR : R = B4 := by rw [HE.out]; simp [HP0.out, HP1.out]
          clear HE
          subst hR
          go_enter Tryz.func84, Tryz.ntmps84
          go_wp2_with fail
          refine (H2.out _ X0.out).out.mono ?_
          rintro e w3 ⟨rfl, hx⟩
          have X3 := hide (X0.out.trans hx)
          have HB3 := hide (HB0.out.ext hx)
          clear hx
          have c0_2 := HB3.out.c0
          have c1_2 := HB3.out.c1
          have c2_2 := HB3.out.c2
          have c3_2 := HB3.out.c3
          have c4_2 := HB3.out.c4
          rw [HA0.out] at c4_2
          obtain ⟨q0_2_0, q1_2_0, q2_2_0, q3_2_0, q4_2_0⟩ := HQ0.out _ X3.out
          obtain ⟨q0_2_1, q1_2_1, q2_2_1, q3_2_1, q4_2_1⟩ := HQ1.out _ X3.out
          go_wp2_with fail
          refine (H3.out _ X3.out).out.mono ?_
          rintro e w4 ⟨rfl, hx⟩
          have X4 := hide (X3.out.trans hx)
          have HB4 := hide (HB3.out.ext hx)
          clear hx
          have c0_3 := HB4.out.c0
          have c1_3 := HB4.out.c1
          have c2_3 := HB4.out.c2
          have c3_3 := HB4.out.c3
          have c4_3 := HB4.out.c4
          rw [HA0.out] at c4_3
          obtain ⟨q0_3_0, q1_3_0, q2_3_0, q3_3_0, q4_3_0⟩ := HQ0.out _ X4.out
          obtain ⟨q0_3_1, q1_3_1, q2_3_1, q3_3_1, q4_3_1⟩ := HQ1.out _ X4.out
          go_wp2_with fail
          refine (H4.out _ X4.out).out.mono ?_
          rintro e w5 ⟨rfl, hx⟩
          have X5 := hide (X4.out.trans hx)
          have HB5 := hide (HB4.out.ext hx)
          clear hx
          have c0_4 := HB5.out.c0
          have c1_4 := HB5.out.c1
          have c2_4 := HB5.out.c2
          have c3_4 := HB5.out.c3
          have c4_4 := HB5.out.c4
          rw [HA0.out] at c4_4
          obtain ⟨q0_4_0, q1_4_0, q2_4_0, q3_4_0, q4_4_0⟩ := HQ0.out _ X5.out
          obtain ⟨q0_4_1, q1_4_1, q2_4_1, q3_4_1, q4_4_1⟩ := HQ1.out _ X5.out
          go_wp2
          go_ret
          exact ⟨rfl, X5.out⟩
    · have hs0 : (t.text == []) = false := by simpa using hp1
      have HP1 := hide hp1
      clear hp1
      have hR : R = false := by rw [HE.out]; simp [HP1.out]
      clear HE
      subst hR
      go_enter Tryz.func84, Tryz.ntmps84
      go_wp2
      go_ret
      exact ⟨rfl, (by repeat (first | exact Ext.refl _ | exact Ext.pre (by simp) | exact Ext.alloc (by assumption) _ | refine Ext.alloc ?_ _ |  refine Ext.more ?_ _ _ | refine Ext.drew ?_ | refine Ext.drewN ?_ _))⟩
  · have hki : (t.kind == 15) = false := by simpa using hp0
    have HP0 := hide hp0
    clear hp0
    have hR : R = false := by rw [HE.out]; simp [HP0.out]
    clear HE
    subst hR
    go_enter Tryz.func84, Tryz.ntmps84
    go_wp2
    go_ret
    exact ⟨rfl, (by repeat (first | exact Ext.refl _ | exact Ext.pre (by simp) | exact Ext.alloc (by assumption) _ | refine Ext.alloc ?_ _ |  refine Ext.more ?_ _ _ | refine Ext.drew ?_ | refine Ext.drewN ?_ _))⟩

/-- So many kids, expressions all. -/
noncomputable def expsB (k : Int) (t : Tree) : Bool := (t.text == []) && plainB k t && t.kids.all expB
set_option maxRecDepth 10000 in
set_option maxHeartbeats 2000000 in
theorem r_exps (kk : Int) (t : Tree) (w : World) (h : NodeIn w t) (ih : ∀ k ∈ t.kids, Asks 36 expB k) : Calls Tryz.prog 61 #[treeV t, .int .i64 kk] w fun e w' => e = .returned (.bool (expsB kk t)) ∧ Ext w w' := by
  have HE : Hid (expsB kk t = ((t.text == []) && plainB kk t && t.kids.all expB)) := hide rfl
  have Hk := hide h.nodes
  have hle := h.le
  have hmx := h.max
  have HB0 := hide (NBox.new w t)
  have X0 : Hid (Ext w (w.alloc (.cells #[.int .i64 t.kind, .int .i64 t.pos, .int .i64 t.n, encStr t.text, .slice t.A t.kids.length t.cap] 24))) := hide ((Ext.refl w).alloc _)
  have HF := hide ih
  have HPn := hide (fun w' (e : Ext w w') => hide (r_plain kk t w' (h.ext e)))
  have HD0 : Hid ((t.kids.drop 0).all expB = t.kids.all expB) := hide rfl
  generalize expsB kk t = R at *
  generalize t.kids.all expB = C at *
  generalize plainB kk t = D at *
  clear ih
  unfold treeV at *
  have HN := hide h
  clear h
  generalize hA0 : t.A = A0 at *
  have HA0 := hide hA0
  clear hA0
  cases hss : (t.text == [])
  · have hs0 : (t.text == []) = false := hss
    have hs1 : (t.text != []) = true := by unfold bne; rw [hs0]; rfl
    rw [hss] at HE
    have hR : R = false := by rw [HE.out] <;> simp []
    clear HE
    subst hR
    go_enter Tryz.func61, Tryz.ntmps61
    go_wp2
    go_ret
    exact ⟨rfl, (by repeat (first | exact Ext.refl _ | exact Ext.pre (by simp) | exact Ext.alloc (by assumption) _ | refine Ext.alloc ?_ _ |  refine Ext.more ?_ _ _ | refine Ext.drew ?_ | refine Ext.drewN ?_ _))⟩
  · have hs0 : (t.text == []) = true := hss
    have hs1 : (t.text != []) = false := by unfold bne; rw [hs0]; rfl
    rw [hss] at HE
    cases D
    · have hR : R = false := by rw [HE.out] <;> simp
      clear HE
      subst hR
      go_enter Tryz.func61, Tryz.ntmps61
      go_wp2_with fail
      refine (HPn.out _ X0.out).out.mono ?_
      rintro e w4 ⟨rfl, hx⟩
      have X4 := hide (X0.out.trans hx)
      have HB4 := hide (HB0.out.ext hx)
      clear hx
      have c0_4 := HB4.out.c0
      have c1_4 := HB4.out.c1
      have c2_4 := HB4.out.c2
      have c3_4 := HB4.out.c3
      have c4_4 := HB4.out.c4
      rw [HA0.out] at c4_4
      go_wp2
      go_ret
      exact ⟨rfl, X4.out⟩
    · have HE2 : Hid (R = C) := hide (by rw [HE.out]; simp)
      clear HE
      have HE := HE2
      clear HE2
      go_enter Tryz.func61, Tryz.ntmps61
      go_wp2_with fail
      refine (HPn.out _ X0.out).out.mono ?_
      rintro e w4 ⟨rfl, hx⟩
      have X4 := hide (X0.out.trans hx)
      have HB4 := hide (HB0.out.ext hx)
      clear hx
      have c0_4 := HB4.out.c0
      have c1_4 := HB4.out.c1
      have c2_4 := HB4.out.c2
      have c3_4 := HB4.out.c3
      have c4_4 := HB4.out.c4
      rw [HA0.out] at c4_4
      go_wp2
      go_loopw [5] (fun i wr => ∃ k : Nat, k ≤ t.kids.length ∧ i = .int .i64 k ∧ Hid (Ext w wr) ∧ Hid (NBox wr w.heap.size t) ∧ Hid ((t.kids.drop k).all expB = C)) (fun i _ => t.kids.length - (intOf i).toNat)
      case atStart => exact ⟨0, by omega, rfl, X4, HB4, HD0⟩
      case round =>
        obtain ⟨k, hk, rfl, HX, HB, HD⟩ := hrel
        have c0_r := HB.out.c0
        have c1_r := HB.out.c1
        have c2_r := HB.out.c2
        have c3_r := HB.out.c3
        have c4_r := HB.out.c4
        rw [HA0.out] at c4_r
        by_cases hlt : k < t.kids.length
        · have hltl : k < t.kids.length := by omega
          have hltd : k < t.kids.length := by omega
          have hlt' : (k : Int) < (t.kids.length : Int) := by omega
          have hltl' : (k : Int) < (t.kids.length : Int) := by omega
          have hk0 : (0 : Int) ≤ (k : Int) := by omega
          obtain ⟨b, o, rfl, hb, q0, q1, q2, q3, q4⟩ := (Hk.out.ext HX.out).at_ hltl
          have HD2 : Hid ((expB (t.kids[k]'hltl) && (t.kids.drop (k + 1)).all expB) = C) := hide (by have := HD.out; rw [List.drop_eq_getElem_cons hltd] at this; exact this)
          have HKid := hide ((Hk.out.kids _ (List.getElem_mem hltl)).ext HX.out)
          have Hmem := hide (List.getElem_mem hltl)
          have HC := hide (HF.out _ Hmem.out wr HKid.out)
          generalize t.kids[k]'hltl = c at *
          cases hp : expB c
          · rw [hp] at HD2 HC
            have hC : C = false := HD2.out.symm
            have hR : R = false := by rw [HE.out, hC] <;> simp
            clear HD HD2 HE HD0 hC
            subst hR
            go_wp2_with fail
            refine HC.out.mono ?_
            rintro e w3 ⟨rfl, hx3⟩
            go_wp2
            go_ret
            exact ⟨rfl, HX.out.trans hx3⟩
          · rw [hp] at HD2 HC
            have HD3 : Hid (_ = C) := hide HD2.out
            rw [Bool.true_and] at HD3
            go_wp2_with fail
            refine HC.out.mono ?_
            rintro e w3 ⟨rfl, hx3⟩
            have X3 := hide (HX.out.trans hx3)
            have HB3 := hide (HB.out.ext hx3)
            clear hx3
            go_wp2
            go_roundw
            case rel => exact ⟨k + 1, by omega, by go_num, X3, HB3, HD3⟩
            case measure => simp [intOf]; omega
        · have hge : ¬ (k : Int) < (t.kids.length : Int) := by omega
          have hC : C = true := by have := HD.out; rw [List.drop_eq_nil_of_le (by omega)] at this; exact this.symm
          clear HD HD0
          subst hC
          have hR : R = true := HE.out
          clear HE
          subst hR
          go_wp2
          go_ret
          exact ⟨rfl, HX.out⟩

end Go.Proofs.YtnbnhchgkbbiiaaGreat
