/- Contracts on the reference's nodes: let, case. (A program of ours has printed the walks.) -/
import Derived.Test.YtnbnhchgkbbiiaaGreatJUsesUses19
/- Contracts on the reference's nodes: let, case. (A program of ours has printed the walks.) -/
namespace Go.Proofs.YtnbnhchgkbbiiaaGreat
open Go.RowKit

/-- Bindings and signatures, and an expression. -/
noncomputable def letB (t : Tree) : Bool := (t.text == []) && decide (t.n = 0) && decide (2 ≤ t.kids.length) && (t.kids.take (t.kids.length - 1)).all withinB && expB (t.kid (t.kids.length - 1))
set_option maxRecDepth 10000 in
set_option maxHeartbeats 2000000 in
theorem r_let (t : Tree) (ih : ∀ k ∈ t.kids, Asks 36 expB k) (ih2 : ∀ k ∈ t.kids, ∀ j ∈ k.kids, Asks 36 expB j) : Asks 62 letB t := by
  intro w h
  have HE : Hid (letB t = ((t.text == []) && decide (t.n = 0) && decide (2 ≤ t.kids.length) && (t.kids.take (t.kids.length - 1)).all withinB && expB (t.kid (t.kids.length - 1)))) := hide rfl
  have Hk := hide h.nodes
  have hle := h.le
  have hmx := h.max
  have HB0 := hide (NBox.new w t)
  have X0 : Hid (Ext w (w.alloc (.cells #[.int .i64 t.kind, .int .i64 t.pos, .int .i64 t.n, encStr t.text, .slice t.A t.kids.length t.cap] 24))) := hide ((Ext.refl w).alloc _)
  have HF := hide ih
  have HF2 := hide ih2
  generalize letB t = R at *
  clear ih ih2
  have ih2 := HF2
  clear HF2
  unfold treeV at *
  have HN := hide h
  clear h
  generalize hA0 : t.A = A0 at *
  have HA0 := hide hA0
  clear hA0
  cases hss : (t.text == [])
  · have hs0 : (t.text == []) = false := hss
    have hs1 : (t.text != []) = true := by unfold bne; rw [hs0]; rfl
    rw [hss] at HE
    have hR : R = false := by rw [HE.out] <;> simp []
    clear HE
    subst hR
    go_enter Tryz.func62, Tryz.ntmps62
    go_wp2
    go_ret
    exact ⟨rfl, (by repeat (first | exact Ext.refl _ | exact Ext.pre (by simp) | exact Ext.alloc (by assumption) _ | refine Ext.alloc ?_ _ |  refine Ext.more ?_ _ _ | refine Ext.drew ?_ | refine Ext.drewN ?_ _))⟩
  · have hs0 : (t.text == []) = true := hss
    have hs1 : (t.text != []) = false := by unfold bne; rw [hs0]; rfl
    rw [hss] at HE
    by_cases hnn : t.n = 0
    · have hn0 : (t.n != 0) = false := by simpa using hnn
      have HNN := hide hnn
      clear hnn
      by_cases hll : 2 ≤ t.kids.length
      · obtain ⟨m, hm⟩ : ∃ m, t.kids.length = m + 1 := ⟨t.kids.length - 1, by omega⟩
        have hml2 : m < t.kids.length := by omega
        have hmi : (t.kids.length : Int) - 1 = m := by omega
        have hmn : ¬ (m : Int) < 1 := by omega
        have hml : t.kids.length - 1 = m := by omega
        rw [hml] at HE
        have HE2 : Hid (R = ((t.kids.take m).all withinB && expB (t.kid m))) := hide (by rw [HE.out]; simp [HNN.out, hll])
        clear HE hml hm
        have HE := HE2
        clear HE2
        have HD0 : Hid (((t.kids.take m).drop 0).all withinB = (t.kids.take m).all withinB) := hide rfl
        generalize (t.kids.take m).all withinB = C at *
        go_enter Tryz.func62, Tryz.ntmps62
        go_wp2
        go_loopw [4] (fun i wr => ∃ k : Nat, k ≤ m ∧ i = .int .i64 k ∧ Hid (Ext w wr) ∧ Hid (NBox wr w.heap.size t) ∧ Hid (((t.kids.take m).drop k).all withinB = C)) (fun i _ => m - (intOf i).toNat)
        case atStart => exact ⟨0, by omega, rfl, X0, HB0, HD0⟩
        case round =>
          obtain ⟨k, hk, rfl, HX, HB, HD⟩ := hrel
          have c0_r := HB.out.c0
          have c1_r := HB.out.c1
          have c2_r := HB.out.c2
          have c3_r := HB.out.c3
          have c4_r := HB.out.c4
          rw [HA0.out] at c4_r
          by_cases hlt : k < m
          · have hltl : k < t.kids.length := by omega
            have hltd : k < (t.kids.take m).length := by rw [List.length_take]; omega
            have hlt' : (k : Int) < (m : Int) := by omega
            have hltl' : (k : Int) < (t.kids.length : Int) := by omega
            have hk0 : (0 : Int) ≤ (k : Int) := by omega
            obtain ⟨b, o, rfl, hb, q0, q1, q2, q3, q4⟩ := (Hk.out.ext HX.out).at_ hltl
            have HD2 : Hid ((withinB (t.kids[k]'hltl) && ((t.kids.take m).drop (k + 1)).all withinB) = C) := hide (by have := HD.out; rw [List.drop_eq_getElem_cons hltd] at this; rw [List.getElem_take] at this; exact this)
            have HKid := hide ((Hk.out.kids _ (List.getElem_mem hltl)).ext HX.out)
            have Hmem := hide (List.getElem_mem hltl)
            have HC1 := hide (fun w' (e : Ext wr w') => hide (r_bind (t.kids[k]'hltl) (fun j hj => ih2.out _ Hmem.out j hj) w' (HKid.out.ext e)))
            have HC2 := hide (fun w' (e : Ext wr w') => hide (r_sig (t.kids[k]'hltl) w' (HKid.out.ext e)))
            have HQ : Hid (∀ w', Ext wr w' → w'.cell? ⟨b, o + k * 5, none⟩ = some (.int .i64 (t.kids[k]'hltl).kind) ∧ w'.cell? ⟨b, o + k * 5 + 1, none⟩ = some (.int .i64 (t.kids[k]'hltl).pos) ∧ w'.cell? ⟨b, o + k * 5 + 2, none⟩ = some (.int .i64 (t.kids[k]'hltl).n) ∧ w'.cell? ⟨b, o + k * 5 + 3, none⟩ = some (.string ⟨(t.kids[k]'hltl).text.toArray⟩) ∧ w'.cell? ⟨b, o + k * 5 + 4, none⟩ = some (.slice (t.kids[k]'hltl).A (t.kids[k]'hltl).kids.length (t.kids[k]'hltl).cap)) := hide (fun w' e => ((Hk.out.ext HX.out).ext e).cells hltl)
            have HW : Hid (withinB (t.kids[k]'hltl) = (bindB (t.kids[k]'hltl) || sigB (t.kids[k]'hltl))) := hide rfl
            generalize t.kids[k]'hltl = c at *
            generalize withinB c = W at *
            generalize bindB c = B1 at *
            generalize sigB c = B2 at *
            cases B1
            · cases B2
              · have hW : W = false := HW.out
                rw [hW] at HD2
                have hC : C = false := HD2.out.symm
                have hR : R = false := by rw [HE.out, hC] <;> simp
                clear HD HD2 HE HD0 hC hW HW
                subst hR
                go_wp2_with fail
                refine (HC1.out _ (Ext.refl _)).out.mono ?_
                rintro e w3 ⟨rfl, hx3⟩
                have X3 := hide hx3
                have HB3 := hide (HB.out.ext hx3)
                obtain ⟨r0, r1, r2, r3, r4⟩ := HQ.out _ hx3
                clear hx3
                have c0_3 := HB3.out.c0
                have c1_3 := HB3.out.c1
                have c2_3 := HB3.out.c2
                have c3_3 := HB3.out.c3
                have c4_3 := HB3.out.c4
                rw [HA0.out] at c4_3
                go_wp2_with fail
                refine (HC2.out _ X3.out).out.mono ?_
                rintro e w4 ⟨rfl, hx4⟩
                go_wp2
                go_ret
                exact ⟨rfl, HX.out.trans (X3.out.trans hx4)⟩
              · have hW : W = true := HW.out
                rw [hW] at HD2
                have HD3 : Hid (_ = C) := hide HD2.out
                rw [Bool.true_and] at HD3
                clear hW HW
                go_wp2_with fail
                refine (HC1.out _ (Ext.refl _)).out.mono ?_
                rintro e w3 ⟨rfl, hx3⟩
                have X3 := hide hx3
                have HB3 := hide (HB.out.ext hx3)
                obtain ⟨r0, r1, r2, r3, r4⟩ := HQ.out _ hx3
                clear hx3
                have c0_3 := HB3.out.c0
                have c1_3 := HB3.out.c1
                have c2_3 := HB3.out.c2
                have c3_3 := HB3.out.c3
                have c4_3 := HB3.out.c4
                rw [HA0.out] at c4_3
                go_wp2_with fail
                refine (HC2.out _ X3.out).out.mono ?_
                rintro e w4 ⟨rfl, hx4⟩
                have X4 := hide (HX.out.trans (X3.out.trans hx4))
                have HB4 := hide (HB3.out.ext hx4)
                clear hx4
                go_wp2
                go_roundw
                case rel => exact ⟨k + 1, by omega, by go_num, X4, HB4, HD3⟩
                case measure => simp [intOf]; omega
            · have hW : W = true := by rw [HW.out]; rfl
              rw [hW] at HD2
              have HD3 : Hid (_ = C) := hide HD2.out
              rw [Bool.true_and] at HD3
              clear hW HW
              go_wp2_with fail
              refine (HC1.out _ (Ext.refl _)).out.mono ?_
              rintro e w3 ⟨rfl, hx3⟩
              have X3 := hide (HX.out.trans hx3)
              have HB3 := hide (HB.out.ext hx3)
              clear hx3
              go_wp2
              go_roundw
              case rel => exact ⟨k + 1, by omega, by go_num, X3, HB3, HD3⟩
              case measure => simp [intOf]; omega
          · have hge : ¬ (k : Int) < (m : Int) := by omega
            have hC : C = true := by have := HD.out; rw [List.drop_eq_nil_of_le (by rw [List.length_take]; omega)] at this; exact this.symm
            clear HD HD0
            subst hC
            have hltm : m < t.kids.length := by omega
            have hltm' : (m : Int) < (t.kids.length : Int) := by omega
            have hm0 : (0 : Int) ≤ (m : Int) := by omega
            obtain ⟨b, o, rfl, hb, q0, q1, q2, q3, q4⟩ := (Hk.out.ext HX.out).at_ hltm
            have HKid := hide ((Hk.out.kids _ (List.getElem_mem hltm)).ext HX.out)
            have HC := hide (HF.out _ (List.getElem_mem hltm) wr HKid.out)
            rw [kid_get hltm] at HE
            generalize t.kids[m]'hltm = c at *
            have hR : R = expB c := by rw [HE.out] <;> simp
            clear HE
            subst hR
            go_wp2_with fail
            refine HC.out.mono ?_
            rintro e w3 ⟨rfl, hx3⟩
            go_wp2
            go_ret
            exact ⟨rfl, HX.out.trans hx3⟩
      · have hpi : (t.kids.length : Int) - 1 < 1 := by omega
        have HLL := hide hll
        clear hll
        have hR : R = false := by rw [HE.out] <;> simp [HLL.out]
        clear HE
        subst hR
        go_enter Tryz.func62, Tryz.ntmps62
        go_wp2
        go_ret
        exact ⟨rfl, (by repeat (first | exact Ext.refl _ | exact Ext.pre (by simp) | exact Ext.alloc (by assumption) _ | refine Ext.alloc ?_ _ |  refine Ext.more ?_ _ _ | refine Ext.drew ?_ | refine Ext.drewN ?_ _))⟩
    · have hn0 : (t.n != 0) = true := by simpa using hnn
      have HNN := hide hnn
      clear hnn
      have hR : R = false := by rw [HE.out] <;> simp [HNN.out]
      clear HE
      subst hR
      go_enter Tryz.func62, Tryz.ntmps62
      go_wp2
      go_ret
      exact ⟨rfl, (by repeat (first | exact Ext.refl _ | exact Ext.pre (by simp) | exact Ext.alloc (by assumption) _ | refine Ext.alloc ?_ _ |  refine Ext.more ?_ _ _ | refine Ext.drew ?_ | refine Ext.drewN ?_ _))⟩

/-- An expression, and alternatives. -/
noncomputable def casesB (t : Tree) : Bool := (t.text == []) && decide (t.n = 0) && decide (2 ≤ t.kids.length) && expB (t.kid 0) && (t.kids.drop 1).all altB
set_option maxRecDepth 10000 in
set_option maxHeartbeats 2000000 in
theorem r_cases (t : Tree) (ih : ∀ k ∈ t.kids, Asks 36 expB k) (ih2 : ∀ k ∈ t.kids, ∀ j ∈ k.kids, Asks 36 expB j) : Asks 63 casesB t := by
  intro w h
  have HE : Hid (casesB t = ((t.text == []) && decide (t.n = 0) && decide (2 ≤ t.kids.length) && expB (t.kid 0) && (t.kids.drop 1).all altB)) := hide rfl
  have Hk := hide h.nodes
  have hle := h.le
  have hmx := h.max
  have HB0 := hide (NBox.new w t)
  have X0 : Hid (Ext w (w.alloc (.cells #[.int .i64 t.kind, .int .i64 t.pos, .int .i64 t.n, encStr t.text, .slice t.A t.kids.length t.cap] 24))) := hide ((Ext.refl w).alloc _)
  have HF := hide ih
  have HF2 := hide ih2
  generalize casesB t = R at *
  clear ih ih2
  unfold treeV at *
  have HN := hide h
  clear h
  generalize hA0 : t.A = A0 at *
  have HA0 := hide hA0
  clear hA0
  cases hss : (t.text == [])
  · have hs0 : (t.text == []) = false := hss
    have hs1 : (t.text != []) = true := by unfold bne; rw [hs0]; rfl
    rw [hss] at HE
    have hR : R = false := by rw [HE.out] <;> simp []
    clear HE
    subst hR
    go_enter Tryz.func63, Tryz.ntmps63
    go_wp2
    go_ret
    exact ⟨rfl, (by repeat (first | exact Ext.refl _ | exact Ext.pre (by simp) | exact Ext.alloc (by assumption) _ | refine Ext.alloc ?_ _ |  refine Ext.more ?_ _ _ | refine Ext.drew ?_ | refine Ext.drewN ?_ _))⟩
  · have hs0 : (t.text == []) = true := hss
    have hs1 : (t.text != []) = false := by unfold bne; rw [hs0]; rfl
    rw [hss] at HE
    by_cases hnn : t.n = 0
    · have hn0 : (t.n != 0) = false := by simpa using hnn
      have HNN := hide hnn
      clear hnn
      by_cases hll : 2 ≤ t.kids.length
      · have hlz : ¬ (t.kids.length : Int) < 2 := by omega
        have hlt0 : 0 < t.kids.length := by omega
        have hlt0' : (0 : Int) < (t.kids.length : Int) := by omega
        have HE2 : Hid (R = (expB (t.kids[0]'hlt0) && (t.kids.drop 1).all altB)) := hide (by rw [HE.out, kid_get hlt0]; simp [HNN.out, hll])
        clear HE
        have HE := HE2
        clear HE2
        obtain ⟨C, hC0⟩ : ∃ C, (t.kids.drop 1).all altB = C := ⟨_, rfl⟩
        rw [hC0] at HE
        have HD0 := hide hC0
        clear hC0
        obtain ⟨b0, o0, hAe, hb0, p0, p1, p2, p3, p4⟩ := (Hk.out.ext X0.out).at_ hlt0
        subst hAe
        simp only [Nat.zero_mul, Nat.add_zero] at p0 p1 p2 p3 p4
        have HKid0 := hide ((Hk.out.kids _ (List.getElem_mem hlt0)).ext X0.out)
        have HC0 := hide (HF.out _ (List.getElem_mem hlt0) _ HKid0.out)
        generalize hc0 : t.kids[0]'hlt0 = c0 at *
        have Hc0 := hide hc0
        clear hc0
        cases hp0 : expB c0
        · rw [hp0] at HC0 HE
          have hR : R = false := by rw [HE.out] <;> simp
          clear HE hp0
          subst hR
          go_enter Tryz.func63, Tryz.ntmps63
          go_wp2_with fail
          refine HC0.out.mono ?_
          rintro e w3 ⟨rfl, hx3⟩
          go_wp2
          go_ret
          exact ⟨rfl, X0.out.trans hx3⟩
        · rw [hp0] at HC0 HE
          clear hp0
          go_enter Tryz.func63, Tryz.ntmps63
          go_wp2_with fail
          refine HC0.out.mono ?_
          rintro e w4 ⟨rfl, hx⟩
          have X4 := hide (X0.out.trans hx)
          have HB4 := hide (HB0.out.ext hx)
          clear hx
          have c0_4 := HB4.out.c0
          have c1_4 := HB4.out.c1
          have c2_4 := HB4.out.c2
          have c3_4 := HB4.out.c3
          have c4_4 := HB4.out.c4
          rw [HA0.out] at c4_4
          clear p0 p1 p2 p3 p4
          go_wp2
          go_loopw [3] (fun i wr => ∃ k : Nat, 1 ≤ k ∧ k ≤ t.kids.length ∧ i = .int .i64 k ∧ Hid (Ext w wr) ∧ Hid (NBox wr w.heap.size t) ∧ Hid ((t.kids.drop k).all altB = C)) (fun i _ => t.kids.length - (intOf i).toNat)
          case atStart => exact ⟨1, Nat.le_refl _, by omega, rfl, X4, HB4, HD0⟩
          case round =>
            obtain ⟨k, hks, hk, rfl, HX, HB, HD⟩ := hrel
            have c0_r := HB.out.c0
            have c1_r := HB.out.c1
            have c2_r := HB.out.c2
            have c3_r := HB.out.c3
            have c4_r := HB.out.c4
            rw [HA0.out] at c4_r
            by_cases hlt : k < t.kids.length
            · have hltl : k < t.kids.length := by omega
              have hltd : k < t.kids.length := by omega
              have hlt' : (k : Int) < (t.kids.length : Int) := by omega
              have hltl' : (k : Int) < (t.kids.length : Int) := by omega
              have hk0 : (0 : Int) ≤ (k : Int) := by omega
              obtain ⟨q0, q1, q2, q3, q4⟩ := (Hk.out.ext HX.out).cells hltl
              have HD2 : Hid ((altB (t.kids[k]'hltl) && (t.kids.drop (k + 1)).all altB) = C) := hide (by have := HD.out; rw [List.drop_eq_getElem_cons hltd] at this; exact this)
              have HKid := hide ((Hk.out.kids _ (List.getElem_mem hltl)).ext HX.out)
              have Hmem := hide (List.getElem_mem hltl)
              have HC := hide (r_alt (t.kids[k]'hltl) (fun j hj => HF2.out _ Hmem.out j hj) wr HKid.out)
              generalize t.kids[k]'hltl = c at *
              cases hp : altB c
              · rw [hp] at HD2 HC
                have hC : C = false := HD2.out.symm
                have hR : R = false := by rw [HE.out, hC] <;> simp
                clear HD HD2 HE HD0 hC
                subst hR
                go_wp2_with fail
                refine HC.out.mono ?_
                rintro e w3 ⟨rfl, hx3⟩
                go_wp2
                go_ret
                exact ⟨rfl, HX.out.trans hx3⟩
              · rw [hp] at HD2 HC
                have HD3 : Hid (_ = C) := hide HD2.out
                rw [Bool.true_and] at HD3
                go_wp2_with fail
                refine HC.out.mono ?_
                rintro e w3 ⟨rfl, hx3⟩
                have X3 := hide (HX.out.trans hx3)
                have HB3 := hide (HB.out.ext hx3)
                clear hx3
                go_wp2
                go_roundw
                case rel => exact ⟨k + 1, by omega, by omega, by go_num, X3, HB3, HD3⟩
                case measure => simp [intOf]; omega
            · have hge : ¬ (k : Int) < (t.kids.length : Int) := by omega
              have hC : C = true := by have := HD.out; rw [List.drop_eq_nil_of_le (by omega)] at this; exact this.symm
              clear HD HD0
              subst hC
              have hR : R = true := by rw [HE.out]; rfl
              clear HE
              subst hR
              go_wp2
              go_ret
              exact ⟨rfl, HX.out⟩
      · have hpi : (t.kids.length : Int) < 2 := by omega
        have HLL := hide hll
        clear hll
        have hR : R = false := by rw [HE.out] <;> simp [HLL.out]
        clear HE
        subst hR
        go_enter Tryz.func63, Tryz.ntmps63
        go_wp2
        go_ret
        exact ⟨rfl, (by repeat (first | exact Ext.refl _ | exact Ext.pre (by simp) | exact Ext.alloc (by assumption) _ | refine Ext.alloc ?_ _ |  refine Ext.more ?_ _ _ | refine Ext.drew ?_ | refine Ext.drewN ?_ _))⟩
    · have hn0 : (t.n != 0) = true := by simpa using hnn
      have HNN := hide hnn
      clear hnn
      have hR : R = false := by rw [HE.out] <;> simp [HNN.out]
      clear HE
      subst hR
      go_enter Tryz.func63, Tryz.ntmps63
      go_wp2
      go_ret
      exact ⟨rfl, (by repeat (first | exact Ext.refl _ | exact Ext.pre (by simp) | exact Ext.alloc (by assumption) _ | refine Ext.alloc ?_ _ |  refine Ext.more ?_ _ _ | refine Ext.drew ?_ | refine Ext.drewN ?_ _))⟩

end Go.Proofs.YtnbnhchgkbbiiaaGreat

/- Contract on the reference's nodes: whether a tree is an expression. (A program of ours has printed the walks.) -/
namespace Go.Proofs.YtnbnhchgkbbiiaaGreat
open Go.RowKit

theorem exp_var0 {t : Tree} (h : t.kind = 21) : expB t = (varB t.text && plainB 0 t) := by rw [exp_var t h, var0]
theorem exp_con0 {t : Tree} (h : t.kind = 22) : expB t = (conB t.text && plainB 0 t) := by rw [exp_con t h, con0]
theorem exp_app0 {t : Tree} (h : t.kind = 24) : expB t = (expsB 2 t) := by
  have e : (bareB t && decide (t.kids.length = 2)) = ((t.text == []) && plainB 2 t) := bareP 2 t
  rw [exp_app t h, e]; rfl
theorem exp_if0 {t : Tree} (h : t.kind = 28) : expB t = (expsB 3 t) := by
  have e : (bareB t && decide (t.kids.length = 3)) = ((t.text == []) && plainB 3 t) := bareP 3 t
  rw [exp_if t h, e]; rfl
theorem exp_lam0 {t : Tree} (h : t.kind = 25) : expB t = (varB t.text && plainB 1 t && expB (t.kid 0)) := by rw [exp_lam t h, var1]
theorem exp_let0 {t : Tree} (h : t.kind = 26) : expB t = (letB t) := by rw [exp_let t h]; rfl
theorem exp_case0 {t : Tree} (h : t.kind = 27) : expB t = (casesB t) := by rw [exp_case t h]; rfl

set_option maxRecDepth 10000 in
set_option maxHeartbeats 1000000 in
theorem r_exp_var (t : Tree) (hk : t.kind = 21) : Asks 36 expB t := by
  intro w h
  have HE : Hid (expB t = (varB t.text && plainB 0 t)) := hide (exp_var0 hk)
  have Hk := hide h.nodes
  have hle := h.le
  have hmx := h.max
  have HB0 := hide (NBox.new w t)
  have X0 : Hid (Ext w (w.alloc (.cells #[.int .i64 t.kind, .int .i64 t.pos, .int .i64 t.n, encStr t.text, .slice t.A t.kids.length t.cap] 24))) := hide ((Ext.refl w).alloc _)
  have hk21 : (t.kind == 21) = true := by rw [hk]; rfl
  clear hk
  have H0 := hide (fun w' (e : Ext w w') => hide (Calls.mono (R' := fun e w'' => e = .returned (.bool (varB t.text)) ∧ Ext w' w'') (r_var03 t.text w' h.txt) (fun e w'' hh => ⟨hh.1, by rw [hh.2]; exact Ext.refl _⟩)))
  have H1 := hide (fun w' (e : Ext w w') => hide (r_plain 0 t w' (h.ext e)))
  generalize expB t = R at *
  generalize varB t.text = B0 at *
  generalize plainB 0 t = B1 at *
  unfold treeV at *
  have HN := hide h
  clear h
  generalize hA0 : t.A = A0 at *
  have HA0 := hide hA0
  clear hA0
  cases B0
  · have hR : R = false := by rw [HE.out] <;> simp
    clear HE
    subst hR
    go_enter Tryz.func36, Tryz.ntmps36
    go_wp2_with fail
    refine (H0.out _ X0.out).out.mono ?_
    rintro e w1 ⟨rfl, hx⟩
    have X1 := hide (X0.out.trans hx)
    have HB1 := hide (HB0.out.ext hx)
    clear hx
    have c0_0 := HB1.out.c0
    have c1_0 := HB1.out.c1
    have c2_0 := HB1.out.c2
    have c3_0 := HB1.out.c3
    have c4_0 := HB1.out.c4
    rw [HA0.out] at c4_0
    go_wp2
    go_ret
    exact ⟨rfl, X1.out⟩
  · have hR : R = B1 := by rw [HE.out] <;> simp
    clear HE
    subst hR
    go_enter Tryz.func36, Tryz.ntmps36
    go_wp2_with fail
    refine (H0.out _ X0.out).out.mono ?_
    rintro e w1 ⟨rfl, hx⟩
    have X1 := hide (X0.out.trans hx)
    have HB1 := hide (HB0.out.ext hx)
    clear hx
    have c0_0 := HB1.out.c0
    have c1_0 := HB1.out.c1
    have c2_0 := HB1.out.c2
    have c3_0 := HB1.out.c3
    have c4_0 := HB1.out.c4
    rw [HA0.out] at c4_0
    go_wp2_with fail
    refine (H1.out _ X1.out).out.mono ?_
    rintro e w2 ⟨rfl, hx⟩
    have X2 := hide (X1.out.trans hx)
    have HB2 := hide (HB1.out.ext hx)
    clear hx
    have c0_1 := HB2.out.c0
    have c1_1 := HB2.out.c1
    have c2_1 := HB2.out.c2
    have c3_1 := HB2.out.c3
    have c4_1 := HB2.out.c4
    rw [HA0.out] at c4_1
    go_wp2
    go_ret
    exact ⟨rfl, X2.out⟩

set_option maxRecDepth 10000 in
set_option maxHeartbeats 1000000 in
theorem r_exp_con (t : Tree) (hk : t.kind = 22) : Asks 36 expB t := by
  intro w h
  have HE : Hid (expB t = (conB t.text && plainB 0 t)) := hide (exp_con0 hk)
  have Hk := hide h.nodes
  have hle := h.le
  have hmx := h.max
  have HB0 := hide (NBox.new w t)
  have X0 : Hid (Ext w (w.alloc (.cells #[.int .i64 t.kind, .int .i64 t.pos, .int .i64 t.n, encStr t.text, .slice t.A t.kids.length t.cap] 24))) := hide ((Ext.refl w).alloc _)
  have hk21 : (t.kind == 21) = false := by rw [hk]; rfl
  have hk22 : (t.kind == 22) = true := by rw [hk]; rfl
  clear hk
  have H0 := hide (fun w' (e : Ext w w') => hide (Calls.mono (R' := fun e w'' => e = .returned (.bool (conB t.text)) ∧ Ext w' w'') (r_con03 t.text w' h.txt) (fun e w'' hh => ⟨hh.1, by rw [hh.2]; exact Ext.refl _⟩)))
  have H1 := hide (fun w' (e : Ext w w') => hide (r_plain 0 t w' (h.ext e)))
  generalize expB t = R at *
  generalize conB t.text = B0 at *
  generalize plainB 0 t = B1 at *
  unfold treeV at *
  have HN := hide h
  clear h
  generalize hA0 : t.A = A0 at *
  have HA0 := hide hA0
  clear hA0
  cases B0
  · have hR : R = false := by rw [HE.out] <;> simp
    clear HE
    subst hR
    go_enter Tryz.func36, Tryz.ntmps36
    go_wp2_with fail
    refine (H0.out _ X0.out).out.mono ?_
    rintro e w1 ⟨rfl, hx⟩
    have X1 := hide (X0.out.trans hx)
    have HB1 := hide (HB0.out.ext hx)
    clear hx
    have c0_0 := HB1.out.c0
    have c1_0 := HB1.out.c1
    have c2_0 := HB1.out.c2
    have c3_0 := HB1.out.c3
    have c4_0 := HB1.out.c4
    rw [HA0.out] at c4_0
    go_wp2
    go_ret
    exact ⟨rfl, X1.out⟩
  · have hR : R = B1 := by rw [HE.out] <;> simp
    clear HE
    subst hR
    go_enter Tryz.func36, Tryz.ntmps36
    go_wp2_with fail
    refine (H0.out _ X0.out).out.mono ?_
    rintro e w1 ⟨rfl, hx⟩
    have X1 := hide (X0.out.trans hx)
    have HB1 := hide (HB0.out.ext hx)
    clear hx
    have c0_0 := HB1.out.c0
    have c1_0 := HB1.out.c1
    have c2_0 := HB1.out.c2
    have c3_0 := HB1.out.c3
    have c4_0 := HB1.out.c4
    rw [HA0.out] at c4_0
    go_wp2_with fail
    refine (H1.out _ X1.out).out.mono ?_
    rintro e w2 ⟨rfl, hx⟩
    have X2 := hide (X1.out.trans hx)
    have HB2 := hide (HB1.out.ext hx)
    clear hx
    have c0_1 := HB2.out.c0
    have c1_1 := HB2.out.c1
    have c2_1 := HB2.out.c2
    have c3_1 := HB2.out.c3
    have c4_1 := HB2.out.c4
    rw [HA0.out] at c4_1
    go_wp2
    go_ret
    exact ⟨rfl, X2.out⟩

set_option maxRecDepth 10000 in
set_option maxHeartbeats 1000000 in
theorem r_exp_int (t : Tree) (hk : t.kind = 23) : Asks 36 expB t := by
  intro w h
  have HE : Hid (expB t = ((t.text == []) && decide (0 ≤ t.n) && decide (t.kids.length = 0))) := hide (exp_int t hk)
  have Hk := hide h.nodes
  have hle := h.le
  have hmx := h.max
  have HB0 := hide (NBox.new w t)
  have X0 : Hid (Ext w (w.alloc (.cells #[.int .i64 t.kind, .int .i64 t.pos, .int .i64 t.n, encStr t.text, .slice t.A t.kids.length t.cap] 24))) := hide ((Ext.refl w).alloc _)
  have hk21 : (t.kind == 21) = false := by rw [hk]; rfl
  have hk22 : (t.kind == 22) = false := by rw [hk]; rfl
  have hk23 : (t.kind == 23) = true := by rw [hk]; rfl
  clear hk
  generalize expB t = R at *
  unfold treeV at *
  have HN := hide h
  clear h
  generalize hA0 : t.A = A0 at *
  have HA0 := hide hA0
  clear hA0
  by_cases hp0 : (t.text == []) = true
  · have hs0 : (t.text == []) = true := hp0
    have HP0 := hide hp0
    clear hp0
    by_cases hp1 : 0 ≤ t.n
    · have hn0 : t.n ≥ 0 := hp1
      have HP1 := hide hp1
      clear hp1
      by_cases hp2 : t.kids.length = 0
      · have hpi : ((t.kids.length : Int) == 0) = true := beq_iff_eq.2 (by omega)
        have HP2 := hide hp2
        clear hp2
        have hR : R = true := by rw [HE.out] <;> simp [HP0.out, HP1.out, HP2.out]
        clear HE
        subst hR
        go_enter Tryz.func36, Tryz.ntmps36
        go_wp2
        go_ret
        exact ⟨rfl, (by repeat (first | exact Ext.refl _ | exact Ext.pre (by simp) | exact Ext.alloc (by assumption) _ | refine Ext.alloc ?_ _ |  refine Ext.more ?_ _ _ | refine Ext.drew ?_ | refine Ext.drewN ?_ _))⟩
      · have hpi : ((t.kids.length : Int) == 0) = false := beq_eq_false_iff_ne.2 (by omega)
        have HP2 := hide hp2
        clear hp2
        have hR : R = false := by rw [HE.out] <;> simp [HP2.out]
        clear HE
        subst hR
        go_enter Tryz.func36, Tryz.ntmps36
        go_wp2
        go_ret
        exact ⟨rfl, (by repeat (first | exact Ext.refl _ | exact Ext.pre (by simp) | exact Ext.alloc (by assumption) _ | refine Ext.alloc ?_ _ |  refine Ext.more ?_ _ _ | refine Ext.drew ?_ | refine Ext.drewN ?_ _))⟩
    · have hn0 : ¬ t.n ≥ 0 := hp1
      have HP1 := hide hp1
      clear hp1
      have hR : R = false := by rw [HE.out] <;> simp [HP1.out]
      clear HE
      subst hR
      go_enter Tryz.func36, Tryz.ntmps36
      go_wp2
      go_ret
      exact ⟨rfl, (by repeat (first | exact Ext.refl _ | exact Ext.pre (by simp) | exact Ext.alloc (by assumption) _ | refine Ext.alloc ?_ _ |  refine Ext.more ?_ _ _ | refine Ext.drew ?_ | refine Ext.drewN ?_ _))⟩
  · have hs0 : (t.text == []) = false := by simpa using hp0
    have HP0 := hide hp0
    clear hp0
    have hR : R = false := by rw [HE.out] <;> simp [HP0.out]
    clear HE
    subst hR
    go_enter Tryz.func36, Tryz.ntmps36
    go_wp2
    go_ret
    exact ⟨rfl, (by repeat (first | exact Ext.refl _ | exact Ext.pre (by simp) | exact Ext.alloc (by assumption) _ | refine Ext.alloc ?_ _ |  refine Ext.more ?_ _ _ | refine Ext.drew ?_ | refine Ext.drewN ?_ _))⟩

set_option maxRecDepth 10000 in
set_option maxHeartbeats 1000000 in
theorem r_exp_app (t : Tree) (hk : t.kind = 24) (ih : ∀ k ∈ t.kids, Asks 36 expB k) : Asks 36 expB t := by
  intro w h
  have HE : Hid (expB t = (expsB 2 t)) := hide (exp_app0 hk)
  have Hk := hide h.nodes
  have hle := h.le
  have hmx := h.max
  have HB0 := hide (NBox.new w t)
  have X0 : Hid (Ext w (w.alloc (.cells #[.int .i64 t.kind, .int .i64 t.pos, .int .i64 t.n, encStr t.text, .slice t.A t.kids.length t.cap] 24))) := hide ((Ext.refl w).alloc _)
  have hk21 : (t.kind == 21) = false := by rw [hk]; rfl
  have hk22 : (t.kind == 22) = false := by rw [hk]; rfl
  have hk23 : (t.kind == 23) = false := by rw [hk]; rfl
  have hk24 : (t.kind == 24) = true := by rw [hk]; rfl
  clear hk
  have H0 := hide (fun w' (e : Ext w w') => hide (r_exps 2 t w' (h.ext e) ih))
  generalize expB t = R at *
  generalize expsB 2 t = B0 at *
  unfold treeV at *
  have HN := hide h
  clear h
  generalize hA0 : t.A = A0 at *
  have HA0 := hide hA0
  clear hA0
  have hR : R = B0 := by rw [HE.out] <;> simp
  clear HE
  subst hR
  go_enter Tryz.func36, Tryz.ntmps36
  go_wp2_with fail
  refine (H0.out _ X0.out).out.mono ?_
  rintro e w1 ⟨rfl, hx⟩
  have X1 := hide (X0.out.trans hx)
  have HB1 := hide (HB0.out.ext hx)
  clear hx
  have c0_0 := HB1.out.c0
  have c1_0 := HB1.out.c1
  have c2_0 := HB1.out.c2
  have c3_0 := HB1.out.c3
  have c4_0 := HB1.out.c4
  rw [HA0.out] at c4_0
  go_wp2
  go_ret
  exact ⟨rfl, X1.out⟩

set_option maxRecDepth 10000 in
set_option maxHeartbeats 1000000 in
theorem r_exp_lam (t : Tree) (hk : t.kind = 25) (ih : ∀ k ∈ t.kids, Asks 36 expB k) : Asks 36 expB t := by
  intro w h
  have HE : Hid (expB t = (varB t.text && plainB 1 t && expB (t.kid 0))) := hide (exp_lam0 hk)
  have Hk := hide h.nodes
  have hle := h.le
  have hmx := h.max
  have HB0 := hide (NBox.new w t)
  have X0 : Hid (Ext w (w.alloc (.cells #[.int .i64 t.kind, .int .i64 t.pos, .int .i64 t.n, encStr t.text, .slice t.A t.kids.length t.cap] 24))) := hide ((Ext.refl w).alloc _)
  have hk21 : (t.kind == 21) = false := by rw [hk]; rfl
  have hk22 : (t.kind == 22) = false := by rw [hk]; rfl
  have hk23 : (t.kind == 23) = false := by rw [hk]; rfl
  have hk24 : (t.kind == 24) = false := by rw [hk]; rfl
  have hk25 : (t.kind == 25) = true := by rw [hk]; rfl
  clear hk
  have HPL : Hid (plainB 1 t = true → t.kids.length = 1) := hide (fun h => plain_kids h)
  have H0 := hide (fun w' (e : Ext w w') => hide (Calls.mono (R' := fun e w'' => e = .returned (.bool (varB t.text)) ∧ Ext w' w'') (r_var03 t.text w' h.txt) (fun e w'' hh => ⟨hh.1, by rw [hh.2]; exact Ext.refl _⟩)))
  have H1 := hide (fun w' (e : Ext w w') => hide (r_plain 1 t w' (h.ext e)))
  generalize expB t = R at *
  generalize varB t.text = B0 at *
  generalize plainB 1 t = B1 at *
  unfold treeV at *
  have HN := hide h
  clear h
  generalize hA0 : t.A = A0 at *
  have HA0 := hide hA0
  clear hA0
  cases B0
  · have hR : R = false := by rw [HE.out] <;> simp
    clear HE
    subst hR
    go_enter Tryz.func36, Tryz.ntmps36
    go_wp2_with fail
    refine (H0.out _ X0.out).out.mono ?_
    rintro e w1 ⟨rfl, hx⟩
    have X1 := hide (X0.out.trans hx)
    have HB1 := hide (HB0.out.ext hx)
    clear hx
    have c0_0 := HB1.out.c0
    have c1_0 := HB1.out.c1
    have c2_0 := HB1.out.c2
    have c3_0 := HB1.out.c3
    have c4_0 := HB1.out.c4
    rw [HA0.out] at c4_0
    go_wp2
    go_ret
    exact ⟨rfl, X1.out⟩
  · cases B1
    · have hR : R = false := by rw [HE.out] <;> simp
      clear HE
      subst hR
      go_enter Tryz.func36, Tryz.ntmps36
      go_wp2_with fail
      refine (H0.out _ X0.out).out.mono ?_
      rintro e w1 ⟨rfl, hx⟩
      have X1 := hide (X0.out.trans hx)
      have HB1 := hide (HB0.out.ext hx)
      clear hx
      have c0_0 := HB1.out.c0
      have c1_0 := HB1.out.c1
      have c2_0 := HB1.out.c2
      have c3_0 := HB1.out.c3
      have c4_0 := HB1.out.c4
      rw [HA0.out] at c4_0
      go_wp2_with fail
      refine (H1.out _ X1.out).out.mono ?_
      rintro e w2 ⟨rfl, hx⟩
      have X2 := hide (X1.out.trans hx)
      have HB2 := hide (HB1.out.ext hx)
      clear hx
      have c0_1 := HB2.out.c0
      have c1_1 := HB2.out.c1
      have c2_1 := HB2.out.c2
      have c3_1 := HB2.out.c3
      have c4_1 := HB2.out.c4
      rw [HA0.out] at c4_1
      go_wp2
      go_ret
      exact ⟨rfl, X2.out⟩
    · have hpz0 : (0 : Int) < (t.kids.length : Int) := by have := HPL.out rfl; omega
      have hlt0 : 0 < t.kids.length := by have := HPL.out rfl; omega
      obtain ⟨b, o, hAe, hb⟩ := Hk.out.some_ (by omega)
      subst hAe
      have HQ0 : Hid (∀ w', Ext w w' → w'.cell? ⟨b, o, none⟩ = some (.int .i64 (t.kids[0]'hlt0).kind) ∧ w'.cell? ⟨b, o + 1, none⟩ = some (.int .i64 (t.kids[0]'hlt0).pos) ∧ w'.cell? ⟨b, o + 2, none⟩ = some (.int .i64 (t.kids[0]'hlt0).n) ∧ w'.cell? ⟨b, o + 3, none⟩ = some (.string ⟨(t.kids[0]'hlt0).text.toArray⟩) ∧ w'.cell? ⟨b, o + 4, none⟩ = some (.slice (t.kids[0]'hlt0).A (t.kids[0]'hlt0).kids.length (t.kids[0]'hlt0).cap)) := hide (fun w' e => by have := (Hk.out.ext e).cells hlt0; simpa using this)
      have HN0 := hide (Hk.out.kids _ (List.getElem_mem hlt0))
      rw [kid_get hlt0] at HE
      have HMem0 := List.getElem_mem hlt0
      have H2 := hide (fun w' (e : Ext w w') => hide (ih (t.kids[0]'hlt0) HMem0 w' (HN0.out.ext e)))
      generalize expB (t.kids[0]'hlt0) = B2 at *
      clear HMem0
      generalize t.kids[0]'hlt0 = c0 at *
      obtain ⟨q0_0, q1_0, q2_0, q3_0, q4_0⟩ := HQ0.out _ (Ext.refl w)
      have hR : R = B2 := by rw [HE.out] <;> simp
      clear HE
      subst hR
      go_enter Tryz.func36, Tryz.ntmps36
      go_wp2_with fail
      refine (H0.out _ X0.out).out.mono ?_
      rintro e w1 ⟨rfl, hx⟩
      have X1 := hide (X0.out.trans hx)
      have HB1 := hide (HB0.out.ext hx)
      clear hx
      have c0_0 := HB1.out.c0
      have c1_0 := HB1.out.c1
      have c2_0 := HB1.out.c2
      have c3_0 := HB1.out.c3
      have c4_0 := HB1.out.c4
      rw [HA0.out] at c4_0
      obtain ⟨q0_0_0, q1_0_0, q2_0_0, q3_0_0, q4_0_0⟩ := HQ0.out _ X1.out
      go_wp2_with fail
      refine (H1.out _ X1.out).out.mono ?_
      rintro e w2 ⟨rfl, hx⟩
      have X2 := hide (X1.out.trans hx)
      have HB2 := hide (HB1.out.ext hx)
      clear hx
      have c0_1 := HB2.out.c0
      have c1_1 := HB2.out.c1
      have c2_1 := HB2.out.c2
      have c3_1 := HB2.out.c3
      have c4_1 := HB2.out.c4
      rw [HA0.out] at c4_1
      obtain ⟨q0_1_0, q1_1_0, q2_1_0, q3_1_0, q4_1_0⟩ := HQ0.out _ X2.out
      go_wp2_with fail
      refine (H2.out _ X2.out).out.mono ?_
      rintro e w3 ⟨rfl, hx⟩
      have X3 := hide (X2.out.trans hx)
      have HB3 := hide (HB2.out.ext hx)
      clear hx
      have c0_2 := HB3.out.c0
      have c1_2 := HB3.out.c1
      have c2_2 := HB3.out.c2
      have c3_2 := HB3.out.c3
      have c4_2 := HB3.out.c4
      rw [HA0.out] at c4_2
      obtain ⟨q0_2_0, q1_2_0, q2_2_0, q3_2_0, q4_2_0⟩ := HQ0.out _ X3.out
      go_wp2
      go_ret
      exact ⟨rfl, X3.out⟩

set_option maxRecDepth 10000 in
set_option maxHeartbeats 1000000 in
theorem r_exp_let (t : Tree) (hk : t.kind = 26) (ih : ∀ k ∈ t.kids, Asks 36 expB k) (ih2 : ∀ k ∈ t.kids, ∀ j ∈ k.kids, Asks 36 expB j) : Asks 36 expB t := by
  intro w h
  have HE : Hid (expB t = (letB t)) := hide (exp_let0 hk)
  have Hk := hide h.nodes
  have hle := h.le
  have hmx := h.max
  have HB0 := hide (NBox.new w t)
  have X0 : Hid (Ext w (w.alloc (.cells #[.int .i64 t.kind, .int .i64 t.pos, .int .i64 t.n, encStr t.text, .slice t.A t.kids.length t.cap] 24))) := hide ((Ext.refl w).alloc _)
  have hk21 : (t.kind == 21) = false := by rw [hk]; rfl
  have hk22 : (t.kind == 22) = false := by rw [hk]; rfl
  have hk23 : (t.kind == 23) = false := by rw [hk]; rfl
  have hk24 : (t.kind == 24) = false := by rw [hk]; rfl
  have hk25 : (t.kind == 25) = false := by rw [hk]; rfl
  have hk26 : (t.kind == 26) = true := by rw [hk]; rfl
  clear hk
  have H0 := hide (fun w' (e : Ext w w') => hide (r_let t ih ih2 w' (h.ext e)))
  generalize expB t = R at *
  generalize letB t = B0 at *
  unfold treeV at *
  have HN := hide h
  clear h
  generalize hA0 : t.A = A0 at *
  have HA0 := hide hA0
  clear hA0
  have hR : R = B0 := by rw [HE.out] <;> simp
  clear HE
  subst hR
  go_enter Tryz.func36, Tryz.ntmps36
  go_wp2_with fail
  refine (H0.out _ X0.out).out.mono ?_
  rintro e w1 ⟨rfl, hx⟩
  have X1 := hide (X0.out.trans hx)
  have HB1 := hide (HB0.out.ext hx)
  clear hx
  have c0_0 := HB1.out.c0
  have c1_0 := HB1.out.c1
  have c2_0 := HB1.out.c2
  have c3_0 := HB1.out.c3
  have c4_0 := HB1.out.c4
  rw [HA0.out] at c4_0
  go_wp2
  go_ret
  exact ⟨rfl, X1.out⟩

set_option maxRecDepth 10000 in
set_option maxHeartbeats 1000000 in
theorem r_exp_case (t : Tree) (hk : t.kind = 27) (ih : ∀ k ∈ t.kids, Asks 36 expB k) (ih2 : ∀ k ∈ t.kids, ∀ j ∈ k.kids, Asks 36 expB j) : Asks 36 expB t := by
  intro w h
  have HE : Hid (expB t = (casesB t)) := hide (exp_case0 hk)
  have Hk := hide h.nodes
  have hle := h.le
  have hmx := h.max
  have HB0 := hide (NBox.new w t)
  have X0 : Hid (Ext w (w.alloc (.cells #[.int .i64 t.kind, .int .i64 t.pos, .int .i64 t.n, encStr t.text, .slice t.A t.kids.length t.cap] 24))) := hide ((Ext.refl w).alloc _)
  have hk21 : (t.kind == 21) = false := by rw [hk]; rfl
  have hk22 : (t.kind == 22) = false := by rw [hk]; rfl
  have hk23 : (t.kind == 23) = false := by rw [hk]; rfl
  have hk24 : (t.kind == 24) = false := by rw [hk]; rfl
  have hk25 : (t.kind == 25) = false := by rw [hk]; rfl
  have hk26 : (t.kind == 26) = false := by rw [hk]; rfl
  have hk27 : (t.kind == 27) = true := by rw [hk]; rfl
  clear hk
  have H0 := hide (fun w' (e : Ext w w') => hide (r_cases t ih ih2 w' (h.ext e)))
  generalize expB t = R at *
  generalize casesB t = B0 at *
  unfold treeV at *
  have HN := hide h
  clear h
  generalize hA0 : t.A = A0 at *
  have HA0 := hide hA0
  clear hA0
  have hR : R = B0 := by rw [HE.out] <;> simp
  clear HE
  subst hR
  go_enter Tryz.func36, Tryz.ntmps36
  go_wp2_with fail
  refine (H0.out _ X0.out).out.mono ?_
  rintro e w1 ⟨rfl, hx⟩
  have X1 := hide (X0.out.trans hx)
  have HB1 := hide (HB0.out.ext hx)
  clear hx
  have c0_0 := HB1.out.c0
  have c1_0 := HB1.out.c1
  have c2_0 := HB1.out.c2
  have c3_0 := HB1.out.c3
  have c4_0 := HB1.out.c4
  rw [HA0.out] at c4_0
  go_wp2
  go_ret
  exact ⟨rfl, X1.out⟩

set_option maxRecDepth 10000 in
set_option maxHeartbeats 1000000 in
theorem r_exp_if (t : Tree) (hk : t.kind = 28) (ih : ∀ k ∈ t.kids, Asks 36 expB k) : Asks 36 expB t := by
  intro w h
  have HE : Hid (expB t = (expsB 3 t)) := hide (exp_if0 hk)
  have Hk := hide h.nodes
  have hle := h.le
  have hmx := h.max
  have HB0 := hide (NBox.new w t)
  have X0 : Hid (Ext w (w.alloc (.cells #[.int .i64 t.kind, .int .i64 t.pos, .int .i64 t.n, encStr t.text, .slice t.A t.kids.length t.cap] 24))) := hide ((Ext.refl w).alloc _)
  have hk21 : (t.kind == 21) = false := by rw [hk]; rfl
  have hk22 : (t.kind == 22) = false := by rw [hk]; rfl
  have hk23 : (t.kind == 23) = false := by rw [hk]; rfl
  have hk24 : (t.kind == 24) = false := by rw [hk]; rfl
  have hk25 : (t.kind == 25) = false := by rw [hk]; rfl
  have hk26 : (t.kind == 26) = false := by rw [hk]; rfl
  have hk27 : (t.kind == 27) = false := by rw [hk]; rfl
  have hk28 : (t.kind == 28) = true := by rw [hk]; rfl
  clear hk
  have H0 := hide (fun w' (e : Ext w w') => hide (r_exps 3 t w' (h.ext e) ih))
  generalize expB t = R at *
  generalize expsB 3 t = B0 at *
  unfold treeV at *
  have HN := hide h
  clear h
  generalize hA0 : t.A = A0 at *
  have HA0 := hide hA0
  clear hA0
  have hR : R = B0 := by rw [HE.out] <;> simp
  clear HE
  subst hR
  go_enter Tryz.func36, Tryz.ntmps36
  go_wp2_with fail
  refine (H0.out _ X0.out).out.mono ?_
  rintro e w1 ⟨rfl, hx⟩
  have X1 := hide (X0.out.trans hx)
  have HB1 := hide (HB0.out.ext hx)
  clear hx
  have c0_0 := HB1.out.c0
  have c1_0 := HB1.out.c1
  have c2_0 := HB1.out.c2
  have c3_0 := HB1.out.c3
  have c4_0 := HB1.out.c4
  rw [HA0.out] at c4_0
  go_wp2
  go_ret
  exact ⟨rfl, X1.out⟩

set_option maxRecDepth 10000 in
set_option maxHeartbeats 1000000 in
theorem r_exp_else (t : Tree) (h0 : t.kind ≠ 21) (h1 : t.kind ≠ 22) (h2 : t.kind ≠ 23) (h3 : t.kind ≠ 24) (h4 : t.kind ≠ 25) (h5 : t.kind ≠ 26) (h6 : t.kind ≠ 27) (h7 : t.kind ≠ 28) : Asks 36 expB t := by
  intro w h
  have HE : Hid (expB t = false) := hide (exp_else t h0 h1 h2 h3 h4 h5 h6 h7)
  have Hk := hide h.nodes
  have hle := h.le
  have hmx := h.max
  have HB0 := hide (NBox.new w t)
  have X0 : Hid (Ext w (w.alloc (.cells #[.int .i64 t.kind, .int .i64 t.pos, .int .i64 t.n, encStr t.text, .slice t.A t.kids.length t.cap] 24))) := hide ((Ext.refl w).alloc _)
  have hk21 : (t.kind == 21) = false := by simpa using h0
  clear h0
  have hk22 : (t.kind == 22) = false := by simpa using h1
  clear h1
  have hk23 : (t.kind == 23) = false := by simpa using h2
  clear h2
  have hk24 : (t.kind == 24) = false := by simpa using h3
  clear h3
  have hk25 : (t.kind == 25) = false := by simpa using h4
  clear h4
  have hk26 : (t.kind == 26) = false := by simpa using h5
  clear h5
  have hk27 : (t.kind == 27) = false := by simpa using h6
  clear h6
  have hk28 : (t.kind == 28) = false := by simpa using h7
  clear h7
  generalize expB t = R at *
  unfold treeV at *
  have HN := hide h
  clear h
  generalize hA0 : t.A = A0 at *
  have HA0 := hide hA0
  clear hA0
  have hR : R = false := HE.out
  clear HE
  subst hR
  go_enter Tryz.func36, Tryz.ntmps36
  go_wp2
  go_ret
  exact ⟨rfl, (by repeat (first | exact Ext.refl _ | exact Ext.pre (by simp) | exact Ext.alloc (by assumption) _ | refine Ext.alloc ?_ _ |  refine Ext.more ?_ _ _ | refine Ext.drew ?_ | refine Ext.drewN ?_ _))⟩

theorem r_isexp (t : Tree) : Asks 36 expB t := by
  have key : ∀ n (t : Tree), t.size ≤ n → Asks 36 expB t := by
    intro n
    induction n with
    | zero => intro t h; have := t.size_pos; omega
    | succ n IH =>
      intro t hsz
      have ih : ∀ k ∈ t.kids, Asks 36 expB k := fun k hk => IH k (by have := Tree.size_kid hk; omega)
      have ih2 : ∀ k ∈ t.kids, ∀ j ∈ k.kids, Asks 36 expB j := fun k hk j hj => IH j (by have := Tree.size_kid hk; have := Tree.size_kid hj; omega)
      by_cases h0 : t.kind = 21
      · exact r_exp_var t h0
      by_cases h1 : t.kind = 22
      · exact r_exp_con t h1
      by_cases h2 : t.kind = 23
      · exact r_exp_int t h2
      by_cases h3 : t.kind = 24
      · exact r_exp_app t h3 ih
      by_cases h4 : t.kind = 25
      · exact r_exp_lam t h4 ih
      by_cases h5 : t.kind = 26
      · exact r_exp_let t h5 ih ih2
      by_cases h6 : t.kind = 27
      · exact r_exp_case t h6 ih ih2
      by_cases h7 : t.kind = 28
      · exact r_exp_if t h7 ih
      exact r_exp_else t h0 h1 h2 h3 h4 h5 h6 h7
  exact key t.size t (Nat.le_refl _)

end Go.Proofs.YtnbnhchgkbbiiaaGreat
