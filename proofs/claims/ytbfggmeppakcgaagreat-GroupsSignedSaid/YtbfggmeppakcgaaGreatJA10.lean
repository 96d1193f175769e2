/- Contracts on nodes: expressions, the other kinds. (A program of ours has printed the walks.) -/
import Derived.Test.YtbfggmeppakcgaaGreatJA9
import Derived.Shelf.Abstract
/- Contracts on nodes: expressions, the other kinds. (A program of ours has printed the walks.) -/
namespace Go.Proofs.YtbfggmeppakcgaaGreat
open Go.RowKit Go.Shelf

set_option maxRecDepth 10000 in
set_option maxHeartbeats 2000000 in
theorem n_exp_let (t : Tree) (hk : t.kind = 26) (ih : ∀ k : Tree, k.size < t.size → Asks 54 expB k) : Asks 54 expB t := by
  intro w h
  have HE : Hid (expB t = (bareB t && decide (2 ≤ t.kids.length) && (t.kids.take (t.kids.length - 1)).all withinB && expB (t.kid (t.kids.length - 1)))) := hide (exp_let t hk)
  have Hk := hide h.nodes
  have hle := h.le
  have hmx := h.max
  have HB0 := hide (NBox.new w t)
  have X0 : Hid (Ext w (w.alloc (.cells #[.int .i64 t.kind, .int .i64 t.pos, .int .i64 t.n, encStr t.text, .slice t.A t.kids.length t.cap] 28))) := hide ((Ext.refl w).alloc _)
  have hk21 : (t.kind == 21) = false := by rw [hk]; rfl
  have hk22 : (t.kind == 22) = false := by rw [hk]; rfl
  have hk23 : (t.kind == 23) = false := by rw [hk]; rfl
  have hk24 : (t.kind == 24) = false := by rw [hk]; rfl
  have hk25 : (t.kind == 25) = false := by rw [hk]; rfl
  have hk26 : (t.kind == 26) = true := by rw [hk]; rfl
  clear hk
  have H0 := hide (fun w' (e : Ext w w') => hide (n_bare t w' (h.ext e)))
  generalize expB t = R at *
  generalize bareB t = B0 at *
  unfold treeV at *
  have HN := hide h
  clear h
  generalize hA0 : t.A = A0 at *
  have HA0 := hide hA0
  clear hA0
  cases B0
  · have hR : R = false := by rw [HE.out]; simp
    clear HE
    subst hR
    go_enter Tryz.func54, Tryz.ntmps54
    go_wp2_with fail
    refine (H0.out _ X0.out).out.mono ?_
    rintro e w1 ⟨rfl, hx⟩
    have X1 := hide (X0.out.trans hx)
    have HB1 := hide (HB0.out.ext hx)
    clear hx
    have c0_0 := HB1.out.c0
    have c1_0 := HB1.out.c1
    have c2_0 := HB1.out.c2
    have c3_0 := HB1.out.c3
    have c4_0 := HB1.out.c4
    rw [HA0.out] at c4_0
    go_wp2
    go_ret
    exact ⟨rfl, X1.out⟩
  · by_cases hp1 : 2 ≤ t.kids.length
    · have hpi : (t.kids.length : Int) ≥ 2 := by omega
      have HP1 := hide hp1
      clear hp1
      obtain ⟨m, hm⟩ : ∃ m, t.kids.length = m + 1 := ⟨t.kids.length - 1, by have := HP1.out; omega⟩
      have Hm := hide hm
      have hmi : (t.kids.length : Int) - 1 = m := by omega
      have hm0 : (0 : Int) ≤ (m : Int) := by omega
      have hm1 : (m : Int) ≤ (t.cap : Int) := by omega
      have hm2 : m ≤ t.cap := by omega
      have hm3 : (m : Int) < (t.kids.length : Int) := by omega
      have hlm : (t.kids.take m).length = m := by simp; omega
      rw [show t.kids.length - 1 = m from by omega] at HE
      have hltm : m < t.kids.length := by omega
      obtain ⟨b, o, hAe, hb⟩ := Hk.out.some_ (by omega)
      subst hAe
      have HQm : Hid (∀ w', Ext w w' → w'.cell? ⟨b, o + m * 5, none⟩ = some (.int .i64 (t.kids[m]'hltm).kind) ∧ w'.cell? ⟨b, o + m * 5 + 1, none⟩ = some (.int .i64 (t.kids[m]'hltm).pos) ∧ w'.cell? ⟨b, o + m * 5 + 2, none⟩ = some (.int .i64 (t.kids[m]'hltm).n) ∧ w'.cell? ⟨b, o + m * 5 + 3, none⟩ = some (.string ⟨(t.kids[m]'hltm).text.toArray⟩) ∧ w'.cell? ⟨b, o + m * 5 + 4, none⟩ = some (.slice (t.kids[m]'hltm).A (t.kids[m]'hltm).kids.length (t.kids[m]'hltm).cap)) := hide (fun w' e => by have := (Hk.out.ext e).cells hltm; simpa using this)
      have HNm := hide (Hk.out.kids _ (List.getElem_mem hltm))
      have H2 := hide (fun w' (e : Ext w w') => hide (by
        have := n_each 72 withinB nisexp1_opens (some ⟨b, o, none⟩) t.cap (t.kids.take m) w' ((Hk.out.take (by omega)).ext e) (by omega) (fun k hk => (fun k hk => n_within k (fun j hj => ih j (Nat.lt_trans (Tree.size_kid hj) (Tree.size_kid hk)))) k (List.mem_of_mem_take hk))
        rw [hlm] at this
        exact this))
      generalize (t.kids.take m).all withinB = B2 at *
      rw [kid_get hltm] at HE
      have HMemm := List.getElem_mem hltm
      have H3 := hide (fun w' (e : Ext w w') => hide (ih (t.kids[m]'hltm) (Tree.size_kid HMemm) w' (HNm.out.ext e)))
      generalize expB (t.kids[m]'hltm) = B3 at *
      clear hm hlm
      clear HMemm
      generalize t.kids[m]'hltm = cm at *
      obtain ⟨q0_m, q1_m, q2_m, q3_m, q4_m⟩ := HQm.out _ (Ext.refl w)
      cases B2
      · have hR : R = false := by rw [HE.out]; simp
        clear HE
        subst hR
        go_enter Tryz.func54, Tryz.ntmps54
        go_wp2_with fail
        refine (H0.out _ X0.out).out.mono ?_
        rintro e w1 ⟨rfl, hx⟩
        have X1 := hide (X0.out.trans hx)
        have HB1 := hide (HB0.out.ext hx)
        clear hx
        have c0_0 := HB1.out.c0
        have c1_0 := HB1.out.c1
        have c2_0 := HB1.out.c2
        have c3_0 := HB1.out.c3
        have c4_0 := HB1.out.c4
        rw [HA0.out] at c4_0
        obtain ⟨q0_0_m, q1_0_m, q2_0_m, q3_0_m, q4_0_m⟩ := HQm.out _ X1.out
        go_wp2_with fail
        refine (H2.out _ X1.out).out.mono ?_
        rintro e w3 ⟨rfl, hx⟩
        have X3 := hide (X1.out.trans hx)
        have HB3 := hide (HB1.out.ext hx)
        clear hx
        have c0_2 := HB3.out.c0
        have c1_2 := HB3.out.c1
        have c2_2 := HB3.out.c2
        have c3_2 := HB3.out.c3
        have c4_2 := HB3.out.c4
        rw [HA0.out] at c4_2
        obtain ⟨q0_2_m, q1_2_m, q2_2_m, q3_2_m, q4_2_m⟩ := HQm.out _ X3.out
        go_wp2
        go_ret
        exact ⟨rfl, X3.out⟩
      · have hR : R = B3 := by rw [HE.out]; simp [HP1.out]
        clear HE
        subst hR
        go_enter Tryz.func54, Tryz.ntmps54
        go_wp2_with fail
        refine (H0.out _ X0.out).out.mono ?_
        rintro e w1 ⟨rfl, hx⟩
        have X1 := hide (X0.out.trans hx)
        have HB1 := hide (HB0.out.ext hx)
        clear hx
        have c0_0 := HB1.out.c0
        have c1_0 := HB1.out.c1
        have c2_0 := HB1.out.c2
        have c3_0 := HB1.out.c3
        have c4_0 := HB1.out.c4
        rw [HA0.out] at c4_0
        obtain ⟨q0_0_m, q1_0_m, q2_0_m, q3_0_m, q4_0_m⟩ := HQm.out _ X1.out
        go_wp2_with fail
        refine (H2.out _ X1.out).out.mono ?_
        rintro e w3 ⟨rfl, hx⟩
        have X3 := hide (X1.out.trans hx)
        have HB3 := hide (HB1.out.ext hx)
        clear hx
        have c0_2 := HB3.out.c0
        have c1_2 := HB3.out.c1
        have c2_2 := HB3.out.c2
        have c3_2 := HB3.out.c3
        have c4_2 := HB3.out.c4
        rw [HA0.out] at c4_2
        obtain ⟨q0_2_m, q1_2_m, q2_2_m, q3_2_m, q4_2_m⟩ := HQm.out _ X3.out
        go_wp2_with fail
        refine (H3.out _ X3.out).out.mono ?_
        rintro e w4 ⟨rfl, hx⟩
        have X4 := hide (X3.out.trans hx)
        have HB4 := hide (HB3.out.ext hx)
        clear hx
        have c0_3 := HB4.out.c0
        have c1_3 := HB4.out.c1
        have c2_3 := HB4.out.c2
        have c3_3 := HB4.out.c3
        have c4_3 := HB4.out.c4
        rw [HA0.out] at c4_3
        obtain ⟨q0_3_m, q1_3_m, q2_3_m, q3_3_m, q4_3_m⟩ := HQm.out _ X4.out
        go_wp2
        go_ret
        exact ⟨rfl, X4.out⟩
    · have hpi : ¬ (t.kids.length : Int) ≥ 2 := by omega
      have HP1 := hide hp1
      clear hp1
      have hR : R = false := by rw [HE.out]; simp [HP1.out]
      clear HE
      subst hR
      go_enter Tryz.func54, Tryz.ntmps54
      go_wp2_with fail
      refine (H0.out _ X0.out).out.mono ?_
      rintro e w1 ⟨rfl, hx⟩
      have X1 := hide (X0.out.trans hx)
      have HB1 := hide (HB0.out.ext hx)
      clear hx
      have c0_0 := HB1.out.c0
      have c1_0 := HB1.out.c1
      have c2_0 := HB1.out.c2
      have c3_0 := HB1.out.c3
      have c4_0 := HB1.out.c4
      rw [HA0.out] at c4_0
      go_wp2
      go_ret
      exact ⟨rfl, X1.out⟩

set_option maxRecDepth 10000 in
set_option maxHeartbeats 2000000 in
theorem n_exp_case (t : Tree) (hk : t.kind = 27) (ih : ∀ k : Tree, k.size < t.size → Asks 54 expB k) : Asks 54 expB t := by
  intro w h
  have HE : Hid (expB t = (bareB t && decide (2 ≤ t.kids.length) && expB (t.kid 0) && (t.kids.drop 1).all altB)) := hide (exp_case t hk)
  have Hk := hide h.nodes
  have hle := h.le
  have hmx := h.max
  have HB0 := hide (NBox.new w t)
  have X0 : Hid (Ext w (w.alloc (.cells #[.int .i64 t.kind, .int .i64 t.pos, .int .i64 t.n, encStr t.text, .slice t.A t.kids.length t.cap] 28))) := hide ((Ext.refl w).alloc _)
  have hk21 : (t.kind == 21) = false := by rw [hk]; rfl
  have hk22 : (t.kind == 22) = false := by rw [hk]; rfl
  have hk23 : (t.kind == 23) = false := by rw [hk]; rfl
  have hk24 : (t.kind == 24) = false := by rw [hk]; rfl
  have hk25 : (t.kind == 25) = false := by rw [hk]; rfl
  have hk26 : (t.kind == 26) = false := by rw [hk]; rfl
  have hk27 : (t.kind == 27) = true := by rw [hk]; rfl
  clear hk
  have H0 := hide (fun w' (e : Ext w w') => hide (n_bare t w' (h.ext e)))
  generalize expB t = R at *
  generalize bareB t = B0 at *
  unfold treeV at *
  have HN := hide h
  clear h
  generalize hA0 : t.A = A0 at *
  have HA0 := hide hA0
  clear hA0
  cases B0
  · have hR : R = false := by rw [HE.out]; simp
    clear HE
    subst hR
    go_enter Tryz.func54, Tryz.ntmps54
    go_wp2_with fail
    refine (H0.out _ X0.out).out.mono ?_
    rintro e w1 ⟨rfl, hx⟩
    have X1 := hide (X0.out.trans hx)
    have HB1 := hide (HB0.out.ext hx)
    clear hx
    have c0_0 := HB1.out.c0
    have c1_0 := HB1.out.c1
    have c2_0 := HB1.out.c2
    have c3_0 := HB1.out.c3
    have c4_0 := HB1.out.c4
    rw [HA0.out] at c4_0
    go_wp2
    go_ret
    exact ⟨rfl, X1.out⟩
  · by_cases hp1 : 2 ≤ t.kids.length
    · have hpi : (t.kids.length : Int) ≥ 2 := by omega
      have HP1 := hide hp1
      clear hp1
      have hlt0 : 0 < t.kids.length := by have := HP1.out; omega
      obtain ⟨b, o, hAe, hb⟩ := Hk.out.some_ (by omega)
      subst hAe
      have HQ0 : Hid (∀ w', Ext w w' → w'.cell? ⟨b, o, none⟩ = some (.int .i64 (t.kids[0]'hlt0).kind) ∧ w'.cell? ⟨b, o + 1, none⟩ = some (.int .i64 (t.kids[0]'hlt0).pos) ∧ w'.cell? ⟨b, o + 2, none⟩ = some (.int .i64 (t.kids[0]'hlt0).n) ∧ w'.cell? ⟨b, o + 3, none⟩ = some (.string ⟨(t.kids[0]'hlt0).text.toArray⟩) ∧ w'.cell? ⟨b, o + 4, none⟩ = some (.slice (t.kids[0]'hlt0).A (t.kids[0]'hlt0).kids.length (t.kids[0]'hlt0).cap)) := hide (fun w' e => by have := (Hk.out.ext e).cells hlt0; simpa using this)
      have HN0 := hide (Hk.out.kids _ (List.getElem_mem hlt0))
      rw [kid_get hlt0] at HE
      have HMem0 := List.getElem_mem hlt0
      have H2 := hide (fun w' (e : Ext w w') => hide (ih (t.kids[0]'hlt0) (Tree.size_kid HMem0) w' (HN0.out.ext e)))
      generalize expB (t.kids[0]'hlt0) = B2 at *
      clear HMem0
      generalize t.kids[0]'hlt0 = c0 at *
      obtain ⟨q0_0, q1_0, q2_0, q3_0, q4_0⟩ := HQ0.out _ (Ext.refl w)
      have hl1 : (t.kids.drop 1).length = t.kids.length - 1 := by simp
      have hcap1 : t.cap ≠ 1 := by have := HP1.out; omega
      have hs1 : (1 : Int) ≤ (t.kids.length : Int) := by have := HP1.out; omega
      have hs2 : (t.kids.length : Int) ≤ (t.cap : Int) := by omega
      have hs3 : (1 : Int) ≤ (t.cap : Int) := by omega
      have hs4 : 1 ≤ t.kids.length := by have := HP1.out; omega
      have hs5 : 1 ≤ t.cap := by omega
      have H3 := hide (fun w' (e : Ext w w') => hide (by
        have hc := (Hk.out.ext e).cut (k := 1) (cap := t.cap) (by have := HP1.out; omega) hle
        rw [if_neg hcap1] at hc
        have := n_each 75 altB nisalt_opens (some ⟨b, o + 5, none⟩) (t.cap - 1) (t.kids.drop 1) w' hc (by omega) (fun k hk => n_alt k (fun j _ => n_pat j) (fun j hj => ih j (Nat.lt_trans (Tree.size_kid hj) (Tree.size_kid (List.mem_of_mem_drop hk)))))
        rw [hl1] at this
        exact this))
      generalize (t.kids.drop 1).all altB = B3 at *
      have Hcap1 := hide hcap1
      clear hl1 hcap1
      cases B2
      · have hR : R = false := by rw [HE.out]; simp
        clear HE
        subst hR
        go_enter Tryz.func54, Tryz.ntmps54
        go_wp2_with fail
        refine (H0.out _ X0.out).out.mono ?_
        rintro e w1 ⟨rfl, hx⟩
        have X1 := hide (X0.out.trans hx)
        have HB1 := hide (HB0.out.ext hx)
        clear hx
        have c0_0 := HB1.out.c0
        have c1_0 := HB1.out.c1
        have c2_0 := HB1.out.c2
        have c3_0 := HB1.out.c3
        have c4_0 := HB1.out.c4
        rw [HA0.out] at c4_0
        obtain ⟨q0_0_0, q1_0_0, q2_0_0, q3_0_0, q4_0_0⟩ := HQ0.out _ X1.out
        go_wp2_with fail
        refine (H2.out _ X1.out).out.mono ?_
        rintro e w3 ⟨rfl, hx⟩
        have X3 := hide (X1.out.trans hx)
        have HB3 := hide (HB1.out.ext hx)
        clear hx
        have c0_2 := HB3.out.c0
        have c1_2 := HB3.out.c1
        have c2_2 := HB3.out.c2
        have c3_2 := HB3.out.c3
        have c4_2 := HB3.out.c4
        rw [HA0.out] at c4_2
        obtain ⟨q0_2_0, q1_2_0, q2_2_0, q3_2_0, q4_2_0⟩ := HQ0.out _ X3.out
        go_wp2
        go_ret
        exact ⟨rfl, X3.out⟩
      · have hR : R = B3 := by rw [HE.out]; simp [HP1.out]
        clear HE
        subst hR
        go_enter Tryz.func54, Tryz.ntmps54
        go_wp2_with fail
        refine (H0.out _ X0.out).out.mono ?_
        rintro e w1 ⟨rfl, hx⟩
        have X1 := hide (X0.out.trans hx)
        have HB1 := hide (HB0.out.ext hx)
        clear hx
        have c0_0 := HB1.out.c0
        have c1_0 := HB1.out.c1
        have c2_0 := HB1.out.c2
        have c3_0 := HB1.out.c3
        have c4_0 := HB1.out.c4
        rw [HA0.out] at c4_0
        obtain ⟨q0_0_0, q1_0_0, q2_0_0, q3_0_0, q4_0_0⟩ := HQ0.out _ X1.out
        go_wp2_with fail
        refine (H2.out _ X1.out).out.mono ?_
        rintro e w3 ⟨rfl, hx⟩
        have X3 := hide (X1.out.trans hx)
        have HB3 := hide (HB1.out.ext hx)
        clear hx
        have c0_2 := HB3.out.c0
        have c1_2 := HB3.out.c1
        have c2_2 := HB3.out.c2
        have c3_2 := HB3.out.c3
        have c4_2 := HB3.out.c4
        rw [HA0.out] at c4_2
        obtain ⟨q0_2_0, q1_2_0, q2_2_0, q3_2_0, q4_2_0⟩ := HQ0.out _ X3.out
        go_wp2_with fail
        refine (H3.out _ X3.out).out.mono ?_
        rintro e w4 ⟨rfl, hx⟩
        have X4 := hide (X3.out.trans hx)
        have HB4 := hide (HB3.out.ext hx)
        clear hx
        have c0_3 := HB4.out.c0
        have c1_3 := HB4.out.c1
        have c2_3 := HB4.out.c2
        have c3_3 := HB4.out.c3
        have c4_3 := HB4.out.c4
        rw [HA0.out] at c4_3
        obtain ⟨q0_3_0, q1_3_0, q2_3_0, q3_3_0, q4_3_0⟩ := HQ0.out _ X4.out
        go_wp2
        go_ret
        exact ⟨rfl, X4.out⟩
    · have hpi : ¬ (t.kids.length : Int) ≥ 2 := by omega
      have HP1 := hide hp1
      clear hp1
      have hR : R = false := by rw [HE.out]; simp [HP1.out]
      clear HE
      subst hR
      go_enter Tryz.func54, Tryz.ntmps54
      go_wp2_with fail
      refine (H0.out _ X0.out).out.mono ?_
      rintro e w1 ⟨rfl, hx⟩
      have X1 := hide (X0.out.trans hx)
      have HB1 := hide (HB0.out.ext hx)
      clear hx
      have c0_0 := HB1.out.c0
      have c1_0 := HB1.out.c1
      have c2_0 := HB1.out.c2
      have c3_0 := HB1.out.c3
      have c4_0 := HB1.out.c4
      rw [HA0.out] at c4_0
      go_wp2
      go_ret
      exact ⟨rfl, X1.out⟩

set_option maxRecDepth 10000 in
set_option maxHeartbeats 1000000 in
theorem n_exp_if (t : Tree) (hk : t.kind = 28) (ih : ∀ k : Tree, k.size < t.size → Asks 54 expB k) : Asks 54 expB t := by
  intro w h
  have HE : Hid (expB t = (bareB t && decide (t.kids.length = 3) && t.kids.all expB)) := hide (exp_if t hk)
  have Hk := hide h.nodes
  have hle := h.le
  have hmx := h.max
  have HB0 := hide (NBox.new w t)
  have X0 : Hid (Ext w (w.alloc (.cells #[.int .i64 t.kind, .int .i64 t.pos, .int .i64 t.n, encStr t.text, .slice t.A t.kids.length t.cap] 28))) := hide ((Ext.refl w).alloc _)
  have hk21 : (t.kind == 21) = false := by rw [hk]; rfl
  have hk22 : (t.kind == 22) = false := by rw [hk]; rfl
  have hk23 : (t.kind == 23) = false := by rw [hk]; rfl
  have hk24 : (t.kind == 24) = false := by rw [hk]; rfl
  have hk25 : (t.kind == 25) = false := by rw [hk]; rfl
  have hk26 : (t.kind == 26) = false := by rw [hk]; rfl
  have hk27 : (t.kind == 27) = false := by rw [hk]; rfl
  have hk28 : (t.kind == 28) = true := by rw [hk]; rfl
  clear hk
  have H0 := hide (fun w' (e : Ext w w') => hide (n_bare t w' (h.ext e)))
  have H2 := hide (fun w' (e : Ext w w') => hide (n_each 54 expB nisexp_opens t.A t.cap t.kids w' (h.nodes.ext e) (by omega) (fun k hk => ih k (Tree.size_kid hk))))
  generalize expB t = R at *
  generalize bareB t = B0 at *
  generalize t.kids.all expB = B2 at *
  unfold treeV at *
  have HN := hide h
  clear h
  generalize hA0 : t.A = A0 at *
  have HA0 := hide hA0
  clear hA0
  cases B0
  · have hR : R = false := by rw [HE.out]; simp
    clear HE
    subst hR
    go_enter Tryz.func54, Tryz.ntmps54
    go_wp2_with fail
    refine (H0.out _ X0.out).out.mono ?_
    rintro e w1 ⟨rfl, hx⟩
    have X1 := hide (X0.out.trans hx)
    have HB1 := hide (HB0.out.ext hx)
    clear hx
    have c0_0 := HB1.out.c0
    have c1_0 := HB1.out.c1
    have c2_0 := HB1.out.c2
    have c3_0 := HB1.out.c3
    have c4_0 := HB1.out.c4
    rw [HA0.out] at c4_0
    go_wp2
    go_ret
    exact ⟨rfl, X1.out⟩
  · by_cases hp1 : t.kids.length = 3
    · have hpi : ((t.kids.length : Int) == 3) = true := beq_iff_eq.2 (by omega)
      have hpz0 : (0 : Int) < (t.kids.length : Int) := by omega
      have hpz1 : (1 : Int) < (t.kids.length : Int) := by omega
      have hpz2 : (2 : Int) < (t.kids.length : Int) := by omega
      have HP1 := hide hp1
      clear hp1
      have hR : R = B2 := by rw [HE.out]; simp [HP1.out]
      clear HE
      subst hR
      go_enter Tryz.func54, Tryz.ntmps54
      go_wp2_with fail
      refine (H0.out _ X0.out).out.mono ?_
      rintro e w1 ⟨rfl, hx⟩
      have X1 := hide (X0.out.trans hx)
      have HB1 := hide (HB0.out.ext hx)
      clear hx
      have c0_0 := HB1.out.c0
      have c1_0 := HB1.out.c1
      have c2_0 := HB1.out.c2
      have c3_0 := HB1.out.c3
      have c4_0 := HB1.out.c4
      rw [HA0.out] at c4_0
      go_wp2_with fail
      refine (H2.out _ X1.out).out.mono ?_
      rintro e w3 ⟨rfl, hx⟩
      have X3 := hide (X1.out.trans hx)
      have HB3 := hide (HB1.out.ext hx)
      clear hx
      have c0_2 := HB3.out.c0
      have c1_2 := HB3.out.c1
      have c2_2 := HB3.out.c2
      have c3_2 := HB3.out.c3
      have c4_2 := HB3.out.c4
      rw [HA0.out] at c4_2
      go_wp2
      go_ret
      exact ⟨rfl, X3.out⟩
    · have hpi : ((t.kids.length : Int) == 3) = false := beq_eq_false_iff_ne.2 (by omega)
      have HP1 := hide hp1
      clear hp1
      have hR : R = false := by rw [HE.out]; simp [HP1.out]
      clear HE
      subst hR
      go_enter Tryz.func54, Tryz.ntmps54
      go_wp2_with fail
      refine (H0.out _ X0.out).out.mono ?_
      rintro e w1 ⟨rfl, hx⟩
      have X1 := hide (X0.out.trans hx)
      have HB1 := hide (HB0.out.ext hx)
      clear hx
      have c0_0 := HB1.out.c0
      have c1_0 := HB1.out.c1
      have c2_0 := HB1.out.c2
      have c3_0 := HB1.out.c3
      have c4_0 := HB1.out.c4
      rw [HA0.out] at c4_0
      go_wp2
      go_ret
      exact ⟨rfl, X1.out⟩

set_option maxRecDepth 10000 in
set_option maxHeartbeats 1000000 in
theorem n_exp_else (t : Tree) (h0 : t.kind ≠ 21) (h1 : t.kind ≠ 22) (h2 : t.kind ≠ 23) (h3 : t.kind ≠ 24) (h4 : t.kind ≠ 25) (h5 : t.kind ≠ 26) (h6 : t.kind ≠ 27) (h7 : t.kind ≠ 28) : Asks 54 expB t := by
  intro w h
  have HE : Hid (expB t = false) := hide (exp_else t h0 h1 h2 h3 h4 h5 h6 h7)
  have Hk := hide h.nodes
  have hle := h.le
  have hmx := h.max
  have HB0 := hide (NBox.new w t)
  have X0 : Hid (Ext w (w.alloc (.cells #[.int .i64 t.kind, .int .i64 t.pos, .int .i64 t.n, encStr t.text, .slice t.A t.kids.length t.cap] 28))) := hide ((Ext.refl w).alloc _)
  have hk21 : (t.kind == 21) = false := by simpa using h0
  clear h0
  have hk22 : (t.kind == 22) = false := by simpa using h1
  clear h1
  have hk23 : (t.kind == 23) = false := by simpa using h2
  clear h2
  have hk24 : (t.kind == 24) = false := by simpa using h3
  clear h3
  have hk25 : (t.kind == 25) = false := by simpa using h4
  clear h4
  have hk26 : (t.kind == 26) = false := by simpa using h5
  clear h5
  have hk27 : (t.kind == 27) = false := by simpa using h6
  clear h6
  have hk28 : (t.kind == 28) = false := by simpa using h7
  clear h7
  generalize expB t = R at *
  unfold treeV at *
  have HN := hide h
  clear h
  generalize hA0 : t.A = A0 at *
  have HA0 := hide hA0
  clear hA0
  have hR : R = false := HE.out
  clear HE
  subst hR
  go_enter Tryz.func54, Tryz.ntmps54
  go_wp2
  go_ret
  exact ⟨rfl, (by repeat (first | exact Ext.refl _ | exact Ext.pre (by simp) | exact Ext.alloc (by assumption) _ | refine Ext.alloc ?_ _ |  refine Ext.more ?_ _ _ | refine Ext.drew ?_ | refine Ext.drewN ?_ _))⟩

end Go.Proofs.YtbfggmeppakcgaaGreat
