/- Contract on nodes: a context and a type. (A program of ours has printed the walk.) -/
import Derived.Test.YtnbnhchgkbbiiaaNodC
import Derived.Shelf.Abstract
namespace Go.Proofs.Ytnbnhchgkbbiiaa
open Go.RowKit Go.Shelf

set_option maxRecDepth 10000 in
set_option maxHeartbeats 1000000 in
theorem n_qual (t : Tree) : Asks 99 qualB t := by
  intro w h
  have HE : Hid (qualB t = (decide (t.kind = 4) && bareB t && decide (1 ≤ t.kids.length) && (t.kids.take (t.kids.length - 1)).all predB && typeB (t.kid (t.kids.length - 1)))) := hide (rfl)
  have Hk := hide h.nodes
  have hle := h.le
  have hmx := h.max
  have HB0 := hide (NBox.new w t)
  have X0 : Hid (Ext w (w.alloc (.cells #[.int .i64 t.kind, .int .i64 t.pos, .int .i64 t.n, encStr t.text, .slice t.A t.kids.length t.cap] 54))) := hide ((Ext.refl w).alloc _)
  have H1 := hide (fun w' (e : Ext w w') => hide (n_bare t w' (h.ext e)))
  generalize qualB t = R at *
  generalize bareB t = B1 at *
  unfold treeV at *
  have HN := hide h
  clear h
  generalize hA0 : t.A = A0 at *
  have HA0 := hide hA0
  clear hA0
  by_cases hp0 : t.kind = 4
  · have hki : (t.kind == 4) = true := by simpa using hp0
    have HP0 := hide hp0
    clear hp0
    cases B1
    · have hR : R = false := by rw [HE.out]; simp
      clear HE
      subst hR
      go_enter Try.func99, Try.ntmps99
      go_wp2_with fail
      refine (H1.out _ X0.out).out.mono ?_
      rintro e w2 ⟨rfl, hx⟩
      have X2 := hide (X0.out.trans hx)
      have HB2 := hide (HB0.out.ext hx)
      clear hx
      have c0_1 := HB2.out.c0
      have c1_1 := HB2.out.c1
      have c2_1 := HB2.out.c2
      have c3_1 := HB2.out.c3
      have c4_1 := HB2.out.c4
      rw [HA0.out] at c4_1
      go_wp2
      go_ret
      exact ⟨rfl, X2.out⟩
    · by_cases hp2 : 1 ≤ t.kids.length
      · have hpi : (t.kids.length : Int) - 1 ≥ 0 := by omega
        have HP2 := hide hp2
        clear hp2
        obtain ⟨m, hm⟩ : ∃ m, t.kids.length = m + 1 := ⟨t.kids.length - 1, by have := HP2.out; omega⟩
        have Hm := hide hm
        have hmi : (t.kids.length : Int) - 1 = m := by omega
        have hm0 : (0 : Int) ≤ (m : Int) := by omega
        have hm1 : (m : Int) ≤ (t.cap : Int) := by omega
        have hm2 : m ≤ t.cap := by omega
        have hm3 : (m : Int) < (t.kids.length : Int) := by omega
        have hlm : (t.kids.take m).length = m := by simp; omega
        rw [show t.kids.length - 1 = m from by omega] at HE
        have hltm : m < t.kids.length := by omega
        obtain ⟨b, o, hAe, hb⟩ := Hk.out.some_ (by omega)
        subst hAe
        have HQm : Hid (∀ w', Ext w w' → w'.cell? ⟨b, o + m * 5, none⟩ = some (.int .i64 (t.kids[m]'hltm).kind) ∧ w'.cell? ⟨b, o + m * 5 + 1, none⟩ = some (.int .i64 (t.kids[m]'hltm).pos) ∧ w'.cell? ⟨b, o + m * 5 + 2, none⟩ = some (.int .i64 (t.kids[m]'hltm).n) ∧ w'.cell? ⟨b, o + m * 5 + 3, none⟩ = some (.string ⟨(t.kids[m]'hltm).text.toArray⟩) ∧ w'.cell? ⟨b, o + m * 5 + 4, none⟩ = some (.slice (t.kids[m]'hltm).A (t.kids[m]'hltm).kids.length (t.kids[m]'hltm).cap)) := hide (fun w' e => by have := (Hk.out.ext e).cells hltm; simpa using this)
        have HNm := hide (Hk.out.kids _ (List.getElem_mem hltm))
        have H3 := hide (fun w' (e : Ext w w') => hide (by
          have := n_each 111 predB nispred_opens (some ⟨b, o, none⟩) t.cap (t.kids.take m) w' ((Hk.out.take (by omega)).ext e) (by omega) (fun k hk => (fun k _ => n_pred k (fun j _ => n_type j)) k (List.mem_of_mem_take hk))
          rw [hlm] at this
          exact this))
        generalize (t.kids.take m).all predB = B3 at *
        rw [kid_get hltm] at HE
        have HMemm := List.getElem_mem hltm
        have H4 := hide (fun w' (e : Ext w w') => hide (n_type (t.kids[m]'hltm) w' (HNm.out.ext e)))
        generalize typeB (t.kids[m]'hltm) = B4 at *
        clear hm hlm
        clear HMemm
        generalize t.kids[m]'hltm = cm at *
        obtain ⟨q0_m, q1_m, q2_m, q3_m, q4_m⟩ := HQm.out _ (Ext.refl w)
        cases B3
        · have hR : R = false := by rw [HE.out]; simp
          clear HE
          subst hR
          go_enter Try.func99, Try.ntmps99
          go_wp2_with fail
          refine (H1.out _ X0.out).out.mono ?_
          rintro e w2 ⟨rfl, hx⟩
          have X2 := hide (X0.out.trans hx)
          have HB2 := hide (HB0.out.ext hx)
          clear hx
          have c0_1 := HB2.out.c0
          have c1_1 := HB2.out.c1
          have c2_1 := HB2.out.c2
          have c3_1 := HB2.out.c3
          have c4_1 := HB2.out.c4
          rw [HA0.out] at c4_1
          obtain ⟨q0_1_m, q1_1_m, q2_1_m, q3_1_m, q4_1_m⟩ := HQm.out _ X2.out
          go_wp2_with fail
          refine (H3.out _ X2.out).out.mono ?_
          rintro e w4 ⟨rfl, hx⟩
          have X4 := hide (X2.out.trans hx)
          have HB4 := hide (HB2.out.ext hx)
          clear hx
          have c0_3 := HB4.out.c0
          have c1_3 := HB4.out.c1
          have c2_3 := HB4.out.c2
          have c3_3 := HB4.out.c3
          have c4_3 := HB4.out.c4
          rw [HA0.out] at c4_3
          obtain ⟨q0_3_m, q1_3_m, q2_3_m, q3_3_m, q4_3_m⟩ := HQm.out _ X4.out
          go_wp2
          go_ret
          exact ⟨rfl, X4.out⟩
        · have hR : R = B4 := by rw [HE.out]; simp [HP0.out, HP2.out]
          clear HE
          subst hR
          go_enter Try.func99, Try.ntmps99
          go_wp2_with fail
          refine (H1.out _ X0.out).out.mono ?_
          rintro e w2 ⟨rfl, hx⟩
          have X2 := hide (X0.out.trans hx)
          have HB2 := hide (HB0.out.ext hx)
          clear hx
          have c0_1 := HB2.out.c0
          have c1_1 := HB2.out.c1
          have c2_1 := HB2.out.c2
          have c3_1 := HB2.out.c3
          have c4_1 := HB2.out.c4
          rw [HA0.out] at c4_1
          obtain ⟨q0_1_m, q1_1_m, q2_1_m, q3_1_m, q4_1_m⟩ := HQm.out _ X2.out
          go_wp2_with fail
          refine (H3.out _ X2.out).out.mono ?_
          rintro e w4 ⟨rfl, hx⟩
          have X4 := hide (X2.out.trans hx)
          have HB4 := hide (HB2.out.ext hx)
          clear hx
          have c0_3 := HB4.out.c0
          have c1_3 := HB4.out.c1
          have c2_3 := HB4.out.c2
          have c3_3 := HB4.out.c3
          have c4_3 := HB4.out.c4
          rw [HA0.out] at c4_3
          obtain ⟨q0_3_m, q1_3_m, q2_3_m, q3_3_m, q4_3_m⟩ := HQm.out _ X4.out
          go_wp2_with fail
          refine (H4.out _ X4.out).out.mono ?_
          rintro e w5 ⟨rfl, hx⟩
          have X5 := hide (X4.out.trans hx)
          have HB5 := hide (HB4.out.ext hx)
          clear hx
          have c0_4 := HB5.out.c0
          have c1_4 := HB5.out.c1
          have c2_4 := HB5.out.c2
          have c3_4 := HB5.out.c3
          have c4_4 := HB5.out.c4
          rw [HA0.out] at c4_4
          obtain ⟨q0_4_m, q1_4_m, q2_4_m, q3_4_m, q4_4_m⟩ := HQm.out _ X5.out
          go_wp2
          go_ret
          exact ⟨rfl, X5.out⟩
      · have hpi : ¬ (t.kids.length : Int) - 1 ≥ 0 := by omega
        have HP2 := hide hp2
        clear hp2
        have hR : R = false := by rw [HE.out]; simp [HP2.out]
        clear HE
        subst hR
        go_enter Try.func99, Try.ntmps99
        go_wp2_with fail
        refine (H1.out _ X0.out).out.mono ?_
        rintro e w2 ⟨rfl, hx⟩
        have X2 := hide (X0.out.trans hx)
        have HB2 := hide (HB0.out.ext hx)
        clear hx
        have c0_1 := HB2.out.c0
        have c1_1 := HB2.out.c1
        have c2_1 := HB2.out.c2
        have c3_1 := HB2.out.c3
        have c4_1 := HB2.out.c4
        rw [HA0.out] at c4_1
        go_wp2
        go_ret
        exact ⟨rfl, X2.out⟩
  · have hki : (t.kind == 4) = false := by simpa using hp0
    have HP0 := hide hp0
    clear hp0
    have hR : R = false := by rw [HE.out]; simp [HP0.out]
    clear HE
    subst hR
    go_enter Try.func99, Try.ntmps99
    go_wp2
    go_ret
    exact ⟨rfl, (by repeat (first | exact Ext.refl _ | exact Ext.pre (by simp) | exact Ext.alloc (by assumption) _ | refine Ext.alloc ?_ _ |  refine Ext.more ?_ _ _ | refine Ext.drew ?_ | refine Ext.drewN ?_ _))⟩

end Go.Proofs.Ytnbnhchgkbbiiaa
