/- Chapter 22's law on the order of classes, walked. -/
import Derived.Test.YtnegamkakdbhfaaSupN
namespace Go.Proofs.Ytnegamkakdbhfaa
open Go.RowKit

theorem order_1 {l : List Cls} (ho : okL l = true) {a b : Str} (ha : a ∈ names l) : (allL l a).any (· == b) = (belowL l b).any (· == a) := by
  unfold allL belowL
  rw [ho]
  simp only [↓reduceIte]
  rw [Bool.eq_iff_iff, any_eq_mem, any_eq_mem, List.mem_map]
  constructor
  · intro h
    obtain ⟨c, hc, e⟩ := List.mem_map.1 ha
    refine ⟨c, List.mem_filter.2 ⟨hc, ?_⟩, e⟩
    unfold belowP
    rw [any_eq_mem, e]
    exact h
  · rintro ⟨c, hc, e⟩
    have := (List.mem_filter.1 hc).2
    unfold belowP at this
    rw [any_eq_mem, e] at this
    exact this
theorem order_2 {l : List Cls} (ho : okL l = true) {a : Str} (ha : a ∈ names l) : (allL l a).any (· == a) = false := by
  unfold allL
  rw [ho]
  simp only [↓reduceIte]
  obtain ⟨c, hc, e⟩ := List.mem_map.1 ha
  obtain ⟨i, hi, rfl⟩ := List.getElem_of_mem hc
  have := firstI_none' (okL_sound ho).2 i hi
  unfold cycB at this
  rw [nameAt_eq hi, e] at this
  exact this
theorem order_3 {l : List Cls} (ho : okL l = true) {a b c : Str} (h1 : (allL l a).any (· == b) = true) (h2 : (allL l b).any (· == c) = true) : (allL l a).any (· == c) = true := by
  unfold allL at *
  rw [ho] at *
  simp only [↓reduceIte] at *
  rw [any_eq_mem, (aboveL_spec l _).2] at *
  exact h1.trans h2
theorem at_names {l : List Cls} {a : Str} (h : ¬ atI l a < 0) : a ∈ names l := by
  rcases atI_cases l a with ⟨e, _, _⟩ | ⟨k, hk, _, _, e⟩
  · rw [e] at h; omega
  · exact List.mem_map.2 ⟨_, List.getElem_mem hk, e⟩

section
variable (A : Option Addr) (cap : Nat) (l : List Cls) (a b c : Str) (w : World)
set_option maxRecDepth 10000 in
set_option maxHeartbeats 4000000 in
theorem law_order (h : Classes w A l) (hle : l.length ≤ 9223372036854775807) :
    Calls Try.prog 10 #[.slice A l.length cap, .agg #[encStr a, encStr b, encStr c]] w fun e w' => e = .returned (.bool true) ∧ Ext w w' := by
  have Hf := hide (fun w' (e : Ext w w') => hide (few_ok A cap l w' (h.ext e) hle))
  cases hf : fewL l
  · rw [hf] at Hf
    clear h hle hf
    go_enter Try.func10, Try.ntmps10
    go_wp2
    go_quiet (fail)
    go_wp2_with fail
    refine (Hf.out _ (by repeat (first | exact Ext.refl _ | exact Ext.pre (by simp) | exact Ext.alloc (by assumption) _ | refine Ext.alloc ?_ _ |  refine Ext.more ?_ _ _ | refine Ext.drew ?_ | refine Ext.drewN ?_ _))).out.mono ?_
    rintro e w1 ⟨rfl, rfl⟩
    go_wp2_with fail
    refine (awake22_ok _).mono ?_
    rintro e w1 ⟨rfl, l1, d1, rfl⟩
    go_wp2
    go_ret
    exact ⟨rfl, (by repeat (first | exact Ext.refl _ | exact Ext.pre (by simp) | exact Ext.alloc (by assumption) _ | refine Ext.alloc ?_ _ |  refine Ext.more ?_ _ _ | refine Ext.drew ?_ | refine Ext.drewN ?_ _))⟩
  · rw [hf] at Hf
    obtain ⟨hl, hs⟩ := (fewL_iff l).1 hf
    have Hx := hide (fun w' (e : Ext w w') => hide (sup_all A cap l a w' (h.ext e) hl hs))
    have Hy := hide (fun w' (e : Ext w w') => hide (sup_all A cap l b w' (h.ext e) hl hs))
    have Hc := hide (fun w' (e : Ext w w') => hide (sup_check A cap l w' (h.ext e) hl hs))
    have Ha := hide (fun w' (e : Ext w w') => hide (ref_at22 A cap l a w' (h.ext e) hle))
    have Hb := hide (fun w' (e : Ext w w') => hide (sup_below A cap l b w' (h.ext e) hl hs))
    have O1 := hide (@order_1 l)
    have O2 := hide (@order_2 l)
    have O3 := hide (@order_3 l)
    have ON := hide (@at_names l a)
    have hob : okL l = false → belowL l b = [] := fun h => by unfold belowL; rw [h]; rfl
    have hoke : ((checkL l).2 == 0) = okL l := rfl
    have Hob := hide hob
    have O1' : Hid (okL l = true → a ∈ names l → (allL l a).any (· == b) = (belowL l b).any (· == a)) := hide (fun h1 h2 => O1.out h1 h2)
    have O2' : Hid (okL l = true → a ∈ names l → (allL l a).any (· == a) = false) := hide (fun h1 h2 => O2.out h1 h2)
    have O3' : Hid (okL l = true → (allL l a).any (· == b) = true → (allL l b).any (· == c) = true → (allL l a).any (· == c) = true) := hide (fun h1 h2 h3 => O3.out h1 h2 h3)
    clear h hle hf hl hs O1 O2 O3 hob
    generalize checkL l = R at *
    obtain ⟨ri, re⟩ := R
    simp only at hoke
    generalize allL l a = LX at *
    generalize allL l b = LY at *
    generalize belowL l b = LB at *
    generalize atI l a = ia at *
    have Hoke := hide hoke
    cases ho : okL l
    · have hre : (re == 0) = false := by rw [Hoke.out]; exact ho
      have hre2 : (re != 0) = true := by simp [bne, hre]
      have hlb := Hob.out ho
      subst hlb
      clear hoke
      go_enter Try.func10, Try.ntmps10
      go_wp2
      go_quiet (fail)
      go_wp2_with fail
      refine (Hf.out _ (by repeat (first | exact Ext.refl _ | exact Ext.pre (by simp) | exact Ext.alloc (by assumption) _ | refine Ext.alloc ?_ _ |  refine Ext.more ?_ _ _ | refine Ext.drew ?_ | refine Ext.drewN ?_ _))).out.mono ?_
      rintro e w1 ⟨rfl, rfl⟩
      go_wp2_with fail
      refine (Hx.out _ (by repeat (first | exact Ext.refl _ | exact Ext.pre (by simp) | exact Ext.alloc (by assumption) _ | refine Ext.alloc ?_ _ |  refine Ext.more ?_ _ _ | refine Ext.drew ?_ | refine Ext.drewN ?_ _))).out.mono ?_
      rintro e w2 ⟨⟨A3, c3, rfl, g1, g2, g3⟩, hx3⟩
      have X3 : Hid (Ext w w2) := hide (Ext.trans (by repeat (first | exact Ext.refl _ | exact Ext.pre (by simp) | exact Ext.alloc (by assumption) _ | refine Ext.alloc ?_ _ |  refine Ext.more ?_ _ _ | refine Ext.drew ?_ | refine Ext.drewN ?_ _)) hx3)
      clear g3 hx3
      go_wp2_with fail
      refine (Hy.out _ X3.out).out.mono ?_
      rintro e w3 ⟨⟨A4, c4, rfl, g4, g5, g6⟩, l4, d4, rfl⟩
      clear g6
      go_wp2_with fail
      refine (Hc.out _ (X3.out.trans (by repeat (first | exact Ext.refl _ | exact Ext.pre (by simp) | exact Ext.alloc (by assumption) _ | refine Ext.alloc ?_ _ |  refine Ext.more ?_ _ _ | refine Ext.drew ?_ | refine Ext.drewN ?_ _)))).out.mono ?_
      rintro e w3 ⟨rfl, l5, d5, rfl⟩
      go_wp2_with fail
      refine (Hb.out _ (X3.out.trans (by repeat (first | exact Ext.refl _ | exact Ext.pre (by simp) | exact Ext.alloc (by assumption) _ | refine Ext.alloc ?_ _ |  refine Ext.more ?_ _ _ | refine Ext.drew ?_ | refine Ext.drewN ?_ _)))).out.mono ?_
      rintro e w3 ⟨⟨A6, c6, rfl, g7, g8, g9⟩, l6, d6, rfl⟩
      clear g9
      go_wp2_with fail
      refine (awake22_ok _).mono ?_
      rintro e w3 ⟨rfl, l7, d7, rfl⟩
      go_wp2
      go_ret
      exact ⟨rfl, X3.out.trans (by repeat (first | exact Ext.refl _ | exact Ext.pre (by simp) | exact Ext.alloc (by assumption) _ | refine Ext.alloc ?_ _ |  refine Ext.more ?_ _ _ | refine Ext.drew ?_ | refine Ext.drewN ?_ _))⟩
    · have hre0 : (re == 0) = true := by rw [Hoke.out]; exact ho
      have hre : re = 0 := by simpa using hre0
      subst hre
      clear hoke hre0
      by_cases ha : ia < 0
      · go_enter Try.func10, Try.ntmps10
        go_wp2
        go_quiet (fail)
        go_wp2_with fail
        refine (Hf.out _ (by repeat (first | exact Ext.refl _ | exact Ext.pre (by simp) | exact Ext.alloc (by assumption) _ | refine Ext.alloc ?_ _ |  refine Ext.more ?_ _ _ | refine Ext.drew ?_ | refine Ext.drewN ?_ _))).out.mono ?_
        rintro e w1 ⟨rfl, rfl⟩
        go_wp2_with fail
        refine (Hx.out _ (by repeat (first | exact Ext.refl _ | exact Ext.pre (by simp) | exact Ext.alloc (by assumption) _ | refine Ext.alloc ?_ _ |  refine Ext.more ?_ _ _ | refine Ext.drew ?_ | refine Ext.drewN ?_ _))).out.mono ?_
        rintro e w2 ⟨⟨A3, c3, rfl, g1, g2, g3⟩, hx3⟩
        have X3 : Hid (Ext w w2) := hide (Ext.trans (by repeat (first | exact Ext.refl _ | exact Ext.pre (by simp) | exact Ext.alloc (by assumption) _ | refine Ext.alloc ?_ _ |  refine Ext.more ?_ _ _ | refine Ext.drew ?_ | refine Ext.drewN ?_ _)) hx3)
        clear g3 hx3
        go_wp2_with fail
        refine (Hy.out _ X3.out).out.mono ?_
        rintro e w3 ⟨⟨A4, c4, rfl, g4, g5, g6⟩, l4, d4, rfl⟩
        clear g6
        go_wp2_with fail
        refine (Hc.out _ (X3.out.trans (by repeat (first | exact Ext.refl _ | exact Ext.pre (by simp) | exact Ext.alloc (by assumption) _ | refine Ext.alloc ?_ _ |  refine Ext.more ?_ _ _ | refine Ext.drew ?_ | refine Ext.drewN ?_ _)))).out.mono ?_
        rintro e w3 ⟨rfl, l5, d5, rfl⟩
        go_wp2_with fail
        refine (Ha.out _ (X3.out.trans (by repeat (first | exact Ext.refl _ | exact Ext.pre (by simp) | exact Ext.alloc (by assumption) _ | refine Ext.alloc ?_ _ |  refine Ext.more ?_ _ _ | refine Ext.drew ?_ | refine Ext.drewN ?_ _)))).out.mono ?_
        rintro e w4 ⟨rfl, rfl⟩
        go_wp2_with fail
        refine (awake22_ok _).mono ?_
        rintro e w3 ⟨rfl, l7, d7, rfl⟩
        go_wp2
        go_ret
        exact ⟨rfl, X3.out.trans (by repeat (first | exact Ext.refl _ | exact Ext.pre (by simp) | exact Ext.alloc (by assumption) _ | refine Ext.alloc ?_ _ |  refine Ext.more ?_ _ _ | refine Ext.drew ?_ | refine Ext.drewN ?_ _))⟩
      · have hna := ON.out ha
        have e1 := O1'.out ho hna
        have e2 := O2'.out ho hna
        have e3 := O3'.out ho
        have He1 := hide e1
        have He2 := hide e2
        have hpq : ∀ p q r : Bool, LX.any (· == b) = p → LY.any (· == c) = q → LX.any (· == c) = r → (p = true → q = true → r = true) := fun p q r h1 h2 h3 h4 h5 => by rw [← h3]; exact e3 (h1.trans h4) (h2.trans h5)
        clear e1 e2 e3 hna
        cases hp : LX.any (· == b) <;> cases hq : LY.any (· == c) <;> cases hr : LX.any (· == c)
        all_goals
          first
            | (exfalso; have := hpq _ _ _ hp hq hr rfl rfl; cases this; done)
            | skip
        all_goals
          have Hp := hide hp
          have Hq := hide hq
          have Hr := hide hr
          have Hbe := hide (He1.out.symm.trans hp)
          clear hp hq hr hpq
          go_enter Try.func10, Try.ntmps10
          go_wp2
          go_quiet (fail)
          go_wp2_with fail
          refine (Hf.out _ (by repeat (first | exact Ext.refl _ | exact Ext.pre (by simp) | exact Ext.alloc (by assumption) _ | refine Ext.alloc ?_ _ |  refine Ext.more ?_ _ _ | refine Ext.drew ?_ | refine Ext.drewN ?_ _))).out.mono ?_
          rintro e w1 ⟨rfl, rfl⟩
          go_wp2_with fail
          refine (Hx.out _ (by repeat (first | exact Ext.refl _ | exact Ext.pre (by simp) | exact Ext.alloc (by assumption) _ | refine Ext.alloc ?_ _ |  refine Ext.more ?_ _ _ | refine Ext.drew ?_ | refine Ext.drewN ?_ _))).out.mono ?_
          rintro e w2 ⟨⟨A3, c3, rfl, g1, g2, g3⟩, hx3⟩
          have X3 : Hid (Ext w w2) := hide (Ext.trans (by repeat (first | exact Ext.refl _ | exact Ext.pre (by simp) | exact Ext.alloc (by assumption) _ | refine Ext.alloc ?_ _ |  refine Ext.more ?_ _ _ | refine Ext.drew ?_ | refine Ext.drewN ?_ _)) hx3)
          have G3 := hide g3
          clear g3 hx3
          go_wp2_with fail
          refine (Hy.out _ X3.out).out.mono ?_
          rintro e w3 ⟨⟨A4, c4, rfl, g4, g5, g6⟩, l4, d4, rfl⟩
          have G4 := hide g6
          clear g6
          go_wp2_with fail
          refine (Hc.out _ (X3.out.trans (by repeat (first | exact Ext.refl _ | exact Ext.pre (by simp) | exact Ext.alloc (by assumption) _ | refine Ext.alloc ?_ _ |  refine Ext.more ?_ _ _ | refine Ext.drew ?_ | refine Ext.drewN ?_ _)))).out.mono ?_
          rintro e w3 ⟨rfl, l5, d5, rfl⟩
          go_wp2_with fail
          refine (Ha.out _ (X3.out.trans (by repeat (first | exact Ext.refl _ | exact Ext.pre (by simp) | exact Ext.alloc (by assumption) _ | refine Ext.alloc ?_ _ |  refine Ext.more ?_ _ _ | refine Ext.drew ?_ | refine Ext.drewN ?_ _)))).out.mono ?_
          rintro e w4 ⟨rfl, rfl⟩
          have K1 := hide (fun w' (e : Ext w2 w') => hide (ref_has A3 c3 LX b w' (G3.out.ext e) (by omega)))
          have K2 := hide (fun w' (e : Ext w2 w') => hide (ref_has A3 c3 LX a w' (G3.out.ext e) (by omega)))
          have K3 := hide (fun w' (e : Ext w2 w') => hide (ref_has A3 c3 LX c w' (G3.out.ext e) (by omega)))
          have K4 := hide (fun w' (e : Ext (more w2 l4 d4) w') => hide (ref_has A4 c4 LY c w' (G4.out.ext e) (by omega)))
          rw [Hp.out] at K1
          rw [He2.out] at K2
          rw [Hr.out] at K3
          rw [Hq.out] at K4
          go_wp2_with fail
          refine (K1.out _ (by repeat (first | exact Ext.refl _ | exact Ext.pre (by simp) | exact Ext.alloc (by assumption) _ | refine Ext.alloc ?_ _ |  refine Ext.more ?_ _ _ | refine Ext.drew ?_ | refine Ext.drewN ?_ _))).out.mono ?_
          rintro e w4 ⟨rfl, rfl⟩
          go_wp2_with fail
          refine (Hb.out _ (X3.out.trans (by repeat (first | exact Ext.refl _ | exact Ext.pre (by simp) | exact Ext.alloc (by assumption) _ | refine Ext.alloc ?_ _ |  refine Ext.more ?_ _ _ | refine Ext.drew ?_ | refine Ext.drewN ?_ _)))).out.mono ?_
          rintro e w3 ⟨⟨A6, c6, rfl, g7, g8, g9⟩, l6, d6, rfl⟩
          simp only [more_more, List.append_assoc] at g9
          have K5 := hide (ref_has A6 c6 LB a _ g9 (by omega))
          rw [Hbe.out] at K5
          clear g9
          go_wp2_with fail
          refine K5.out.mono ?_
          rintro e w4 ⟨rfl, rfl⟩
          go_wp2_with fail
          refine (K2.out _ (by repeat (first | exact Ext.refl _ | exact Ext.pre (by simp) | exact Ext.alloc (by assumption) _ | refine Ext.alloc ?_ _ |  refine Ext.more ?_ _ _ | refine Ext.drew ?_ | refine Ext.drewN ?_ _))).out.mono ?_
          rintro e w4 ⟨rfl, rfl⟩
          go_wp2_with fail
          refine (K1.out _ (by repeat (first | exact Ext.refl _ | exact Ext.pre (by simp) | exact Ext.alloc (by assumption) _ | refine Ext.alloc ?_ _ |  refine Ext.more ?_ _ _ | refine Ext.drew ?_ | refine Ext.drewN ?_ _))).out.mono ?_
          rintro e w4 ⟨rfl, rfl⟩
          go_wp2_with (first
            | (go_at_call 42; refine (awake22_ok _).mono ?_; rintro e w9 ⟨rfl, l9, d9, rfl⟩)
            | (go_at_call 56; (with_reducible refine Calls.mono (K4.out _ ?e4).out ?_); (case e4 => exact (by repeat (first | exact Ext.refl _ | exact Ext.pre (by simp) | exact Ext.alloc (by assumption) _ | refine Ext.alloc ?_ _ |  refine Ext.more ?_ _ _ | refine Ext.drew ?_ | refine Ext.drewN ?_ _))); rintro e w9 ⟨rfl, rfl⟩)
            | (go_at_call 56; (with_reducible refine Calls.mono (K3.out _ ?e3).out ?_); (case e3 => exact (by repeat (first | exact Ext.refl _ | exact Ext.pre (by simp) | exact Ext.alloc (by assumption) _ | refine Ext.alloc ?_ _ |  refine Ext.more ?_ _ _ | refine Ext.drew ?_ | refine Ext.drewN ?_ _))); rintro e w9 ⟨rfl, rfl⟩))
          go_ret
          exact ⟨rfl, X3.out.trans (by repeat (first | exact Ext.refl _ | exact Ext.pre (by simp) | exact Ext.alloc (by assumption) _ | refine Ext.alloc ?_ _ |  refine Ext.more ?_ _ _ | refine Ext.drew ?_ | refine Ext.drewN ?_ _))⟩
end

end Go.Proofs.Ytnegamkakdbhfaa
