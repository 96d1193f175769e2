/- Chapter 12's laws on two sets, and on a set that is none, walked. -/
import Derived.Test.YtnegamkakdbhfaaSetG
import Derived.WalkSpells
import Derived.WalkLawsBesides
namespace Go.Proofs.Ytnegamkakdbhfaa
open Go.RowKit Go.Sort Go.Maps

set_option maxRecDepth 10000 in
set_option maxHeartbeats 2000000 in
theorem two12_in (A B : Option Addr) (cap cap' : Nat) (l m : List Str) (w : World) (h : Strs w A l) (h' : Strs w B m) (hl : l.length ≤ 200) (hm : m.length ≤ 200)
    (hs : ∀ x ∈ l, x.length ≤ 9223372036854775807) (hs' : ∀ x ∈ m, x.length ≤ 9223372036854775807) :
    Calls Try.prog 12 #[.slice A l.length cap, .slice B m.length cap'] w fun e w' => e = .returned (.bool true) ∧ Ext w w' := by
  have hl' : (l.length : Int) ≤ 200 := by omega
  have hm' : (m.length : Int) ≤ 200 := by omega
  have H1 := hide h
  have H2 := hide h'
  have Hs1 := hide hs
  have Hs2 := hide hs'
  have hL := ofL_len l
  have hM := ofL_len m
  have hD := minusL_len (ofL l) (ofL m)
  have hLM : (ofL l ++ ofL m).length ≤ 400 := by rw [List.length_append]; omega
  have hU := ofL_len (ofL l ++ ofL m)
  have hLMe : Hid ((ofL l ++ ofL m).length = (ofL l).length + (ofL m).length) := hide List.length_append
  obtain ⟨i0, hi, hz0, hz1, hz2⟩ := info_parts str_info
  clear h h' hs hs'
  go_enter Try.func12, Try.ntmps12
  go_wp2_with fail
  refine (seto_new A cap l w H1.out Hs1.out (by omega)).mono ?_
  rintro e w1 ⟨⟨v1, rfl, g1⟩, l1, d1, rfl⟩
  have G1 := hide g1
  clear g1
  go_wp2_with fail
  refine (seto_new B cap' m _ (H2.out.ext (by repeat (first | exact Ext.refl _ | exact Ext.pre (by simp) | exact Ext.alloc (by assumption) _ | refine Ext.alloc ?_ _ |  refine Ext.more ?_ _ _ | refine Ext.drew ?_ | refine Ext.drewN ?_ _))) Hs2.out (by omega)).mono ?_
  rintro e w1 ⟨⟨v2, rfl, g2⟩, l2, d2, rfl⟩
  simp only [more_more] at g2
  have G2 := hide g2
  clear g2
  go_wp2_with fail
  refine (ref_of A cap l _ (H1.out.ext (by repeat (first | exact Ext.refl _ | exact Ext.pre (by simp) | exact Ext.alloc (by assumption) _ | refine Ext.alloc ?_ _ |  refine Ext.more ?_ _ _ | refine Ext.drew ?_ | refine Ext.drewN ?_ _))) (by omega)).mono ?_
  rintro e w1 ⟨⟨A3, c3, rfl, q1, q2, q3⟩, l3, d3, rfl⟩
  simp only [more_more, List.append_assoc] at q3
  have Q3 := hide q3
  clear q3
  go_wp2_with fail
  refine (ref_of B cap' m _ (H2.out.ext (by repeat (first | exact Ext.refl _ | exact Ext.pre (by simp) | exact Ext.alloc (by assumption) _ | refine Ext.alloc ?_ _ |  refine Ext.more ?_ _ _ | refine Ext.drew ?_ | refine Ext.drewN ?_ _))) (by omega)).mono ?_
  rintro e W ⟨⟨A4, c4, rfl, q4, q5, q6⟩, hx⟩
  have X4 : Hid (Ext w W) := hide (Ext.trans (by repeat (first | exact Ext.refl _ | exact Ext.pre (by simp) | exact Ext.alloc (by assumption) _ | refine Ext.alloc ?_ _ |  refine Ext.more ?_ _ _ | refine Ext.drew ?_ | refine Ext.drewN ?_ _)) hx)
  replace G1 := hide (G1.out.ext (Ext.trans (by repeat (first | exact Ext.refl _ | exact Ext.pre (by simp) | exact Ext.alloc (by assumption) _ | refine Ext.alloc ?_ _ |  refine Ext.more ?_ _ _ | refine Ext.drew ?_ | refine Ext.drewN ?_ _)) hx))
  replace G2 := hide (G2.out.ext (Ext.trans (by repeat (first | exact Ext.refl _ | exact Ext.pre (by simp) | exact Ext.alloc (by assumption) _ | refine Ext.alloc ?_ _ |  refine Ext.more ?_ _ _ | refine Ext.drew ?_ | refine Ext.drewN ?_ _)) hx))
  replace Q3 := hide (Q3.out.ext (Ext.trans (by repeat (first | exact Ext.refl _ | exact Ext.pre (by simp) | exact Ext.alloc (by assumption) _ | refine Ext.alloc ?_ _ |  refine Ext.more ?_ _ _ | refine Ext.drew ?_ | refine Ext.drewN ?_ _)) hx))
  have Q4 := hide q6
  clear q6 hx
  generalize ofL l = L at *
  generalize ofL m = M at *
  go_wp2_with (at_builtin; refine wpList_append_row _ rfl (.const (.slice none 0 0)) _ 65 rfl W.heap.size 9 i0 _ 1 16 Try.underlying65 hi hz0 hz1 hz2 rfl (by decide) (.slice none 0 0) 0 [] rfl (World.ownsRow_nil _ _ _ _) A3 L.length c3 (L.map encStr) rfl ?c2 ?c3 ?c4 ?c5 ?c6 ?_)
  case c2 => exact Q3.out
  case c3 => exact one_strs _
  case c4 => unfold maxLen; omega
  case c5 => omega
  case c6 => exact Nat.le_refl _
  intro v5 w5 hown5 hg5 _
  have X5 : Hid (Ext W w5) := hide (Ext.of_grown hg5)
  have Own5 := hide hown5
  clear hown5 hg5
  go_wp2_with (at_builtin; refine wpList_append_row _ rfl (.tmp 28) _ 65 rfl W.heap.size 9 i0 _ 1 16 Try.underlying65 hi hz0 hz1 hz2 rfl (by decide) v5 L.length (L.map encStr) rfl Own5.out A4 M.length c4 (M.map encStr) rfl ?c2 ?c3 ?c4 ?c5 ?c6 ?_)
  case c2 => exact (Q4.out.ext X5.out)
  case c3 => exact one_strs _
  case c4 => unfold maxLen; omega
  case c5 => omega
  case c6 => exact X5.out.size
  intro v6 w6 hown6 hg6 _
  have X6 : Hid (Ext W w6) := hide (Ext.app X5.out hg6 Own5.out (Nat.le_refl _))
  rw [← List.map_append, ← hLMe.out] at hown6
  obtain ⟨U, hUe⟩ : ∃ U, U = L ++ M := ⟨_, rfl⟩
  rw [← hUe] at hown6 hLM hU
  obtain ⟨A6, c6, rfl, r1, r2, r3, _⟩ := Strs.of_own hown6
  have R6 := hide r3
  clear hown6 r3 hg6 X5 Own5
  replace G1 := hide (G1.out.ext X6.out)
  replace G2 := hide (G2.out.ext X6.out)
  replace Q3 := hide (Q3.out.ext X6.out)
  replace Q4 := hide (Q4.out.ext X6.out)
  have X := hide (X4.out.trans X6.out)
  have HUe := hide hUe
  clear X4 X6 hUe
  go_wp2_with fail
  refine (seto_un G1.out G2.out (by omega)).mono ?_
  rw [← HUe.out]
  rintro e w7 ⟨⟨v7, rfl, g7⟩, l7, d7, rfl⟩
  have G7 := hide g7
  clear g7
  go_wp2_with fail
  refine (seto_strs G7.out).mono ?_
  rintro e w7 ⟨⟨A8, c8, rfl, q1, q2, q3⟩, l8, d8, rfl⟩
  simp only [more_more] at q3
  have Q8 := hide q3
  clear q3
  go_wp2_with fail
  refine (ref_of A6 c6 U _ (R6.out.ext (by repeat (first | exact Ext.refl _ | exact Ext.pre (by simp) | exact Ext.alloc (by assumption) _ | refine Ext.alloc ?_ _ |  refine Ext.more ?_ _ _ | refine Ext.drew ?_ | refine Ext.drewN ?_ _))) (by omega)).mono ?_
  rintro e w7 ⟨⟨A9, c9, rfl, q4, q5, q6⟩, l9, d9, rfl⟩
  simp only [more_more, List.append_assoc] at q6
  have Q9 := hide q6
  clear q6
  go_wp2_with fail
  refine (ref_texts_yes A8 A9 c8 c9 (ofL U) _ (Q8.out.ext (by repeat (first | exact Ext.refl _ | exact Ext.pre (by simp) | exact Ext.alloc (by assumption) _ | refine Ext.alloc ?_ _ |  refine Ext.more ?_ _ _ | refine Ext.drew ?_ | refine Ext.drewN ?_ _))) Q9.out (by omega)).mono ?_
  rintro e w7 ⟨rfl, l10, d10, rfl⟩
  clear G7 Q8 Q9
  go_wp2_with fail
  refine (seto_mi (G1.out.ext (by repeat (first | exact Ext.refl _ | exact Ext.pre (by simp) | exact Ext.alloc (by assumption) _ | refine Ext.alloc ?_ _ |  refine Ext.more ?_ _ _ | refine Ext.drew ?_ | refine Ext.drewN ?_ _))) (G2.out.ext (by repeat (first | exact Ext.refl _ | exact Ext.pre (by simp) | exact Ext.alloc (by assumption) _ | refine Ext.alloc ?_ _ |  refine Ext.more ?_ _ _ | refine Ext.drew ?_ | refine Ext.drewN ?_ _))) (by omega)).mono ?_
  rintro e w7 ⟨⟨v11, rfl, g11⟩, l11, d11, rfl⟩
  simp only [more_more, List.append_assoc] at g11
  have G11 := hide g11
  clear g11
  go_wp2_with fail
  refine (seto_strs G11.out).mono ?_
  rintro e w7 ⟨⟨A12, c12, rfl, q7, q8, q9⟩, l12, d12, rfl⟩
  simp only [more_more, List.append_assoc] at q9
  have Q12 := hide q9
  clear q9
  go_wp2_with fail
  refine (ref_minus A3 A4 c3 c4 L M _ (Q3.out.ext (by repeat (first | exact Ext.refl _ | exact Ext.pre (by simp) | exact Ext.alloc (by assumption) _ | refine Ext.alloc ?_ _ |  refine Ext.more ?_ _ _ | refine Ext.drew ?_ | refine Ext.drewN ?_ _))) (Q4.out.ext (by repeat (first | exact Ext.refl _ | exact Ext.pre (by simp) | exact Ext.alloc (by assumption) _ | refine Ext.alloc ?_ _ |  refine Ext.more ?_ _ _ | refine Ext.drew ?_ | refine Ext.drewN ?_ _))) (by omega) (by omega)).mono ?_
  rintro e w7 ⟨⟨A13, c13, rfl, q10, q11, q12⟩, l13, d13, rfl⟩
  simp only [more_more, List.append_assoc] at q12
  have Q13 := hide q12
  clear q12
  go_wp2_with fail
  refine (ref_texts_yes A12 A13 c12 c13 (minusL L M) _ (Q12.out.ext (by repeat (first | exact Ext.refl _ | exact Ext.pre (by simp) | exact Ext.alloc (by assumption) _ | refine Ext.alloc ?_ _ |  refine Ext.more ?_ _ _ | refine Ext.drew ?_ | refine Ext.drewN ?_ _))) Q13.out (by omega)).mono ?_
  rintro e w7 ⟨rfl, l14, d14, rfl⟩
  clear G11 Q12 Q13
  have Hw := fun w' h => hide (seto_within (w := w') (G1.out.ext h) (G2.out.ext h) (by omega))
  have Hm := fun w' h => hide (ref_minus A3 A4 c3 c4 L M w' (Q3.out.ext h) (Q4.out.ext h) (by omega) (by omega))
  have hR' : (((minusL L M).length : Int) == 0) = decide (minusL L M = []) := by rw [Bool.eq_iff_iff]; simp
  generalize decide (minusL L M = []) = b at *
  have hRb : ((((minusL L M).length : Int) == 0) == b) = true := by rw [hR']; simp
  have Hr := hide hR'
  have Hw' := hide Hw
  have Hm' := hide Hm
  clear hR' hRb Hw Hm
  generalize minusL L M = R at *
  go_wp2_with fail
  refine (Hw'.out _ (by repeat (first | exact Ext.refl _ | exact Ext.pre (by simp) | exact Ext.alloc (by assumption) _ | refine Ext.alloc ?_ _ |  refine Ext.more ?_ _ _ | refine Ext.drew ?_ | refine Ext.drewN ?_ _))).out.mono ?_
  rintro e w7 ⟨rfl, l15, d15, rfl⟩
  go_wp2_with fail
  refine (Hm'.out _ (by repeat (first | exact Ext.refl _ | exact Ext.pre (by simp) | exact Ext.alloc (by assumption) _ | refine Ext.alloc ?_ _ |  refine Ext.more ?_ _ _ | refine Ext.drew ?_ | refine Ext.drewN ?_ _))).out.mono ?_
  rintro e w7 ⟨⟨A16, c16, rfl, q13, q14, q15⟩, l16, d16, rfl⟩
  clear Hw' Hm' q15
  have hr := Hr.out
  cases b
  all_goals
    go_wp2_with fail
    refine (seto_strs (G1.out.ext (by repeat (first | exact Ext.refl _ | exact Ext.pre (by simp) | exact Ext.alloc (by assumption) _ | refine Ext.alloc ?_ _ |  refine Ext.more ?_ _ _ | refine Ext.drew ?_ | refine Ext.drewN ?_ _)))).mono ?_
    rintro e w7 ⟨⟨A17, c17, rfl, q16, q17, q18⟩, l17, d17, rfl⟩
    simp only [more_more, List.append_assoc] at q18
    have Q17 := hide q18
    clear q18
    go_wp2_with fail
    refine (ref_texts_yes A17 A3 c17 c3 L _ Q17.out (Q3.out.ext (by repeat (first | exact Ext.refl _ | exact Ext.pre (by simp) | exact Ext.alloc (by assumption) _ | refine Ext.alloc ?_ _ |  refine Ext.more ?_ _ _ | refine Ext.drew ?_ | refine Ext.drewN ?_ _))) (by omega)).mono ?_
    rintro e w7 ⟨rfl, l18, d18, rfl⟩
    clear Q17
    go_wp2_with fail
    refine (seto_strs (G2.out.ext (by repeat (first | exact Ext.refl _ | exact Ext.pre (by simp) | exact Ext.alloc (by assumption) _ | refine Ext.alloc ?_ _ |  refine Ext.more ?_ _ _ | refine Ext.drew ?_ | refine Ext.drewN ?_ _)))).mono ?_
    rintro e w7 ⟨⟨A19, c19, rfl, q19, q20, q21⟩, l19, d19, rfl⟩
    simp only [more_more, List.append_assoc] at q21
    have Q19 := hide q21
    clear q21
    go_wp2_with fail
    refine (ref_texts_yes A19 A4 c19 c4 M _ Q19.out (Q4.out.ext (by repeat (first | exact Ext.refl _ | exact Ext.pre (by simp) | exact Ext.alloc (by assumption) _ | refine Ext.alloc ?_ _ |  refine Ext.more ?_ _ _ | refine Ext.drew ?_ | refine Ext.drewN ?_ _))) (by omega)).mono ?_
    rintro e w7 ⟨rfl, l20, d20, rfl⟩
    clear Q19
    go_wp2_with fail
    refine (awake12_ok _).mono ?_
    rintro e w7 ⟨rfl, l21, d21, rfl⟩
    go_wp2
    go_ret
    exact ⟨rfl, X.out.trans (by repeat (first | exact Ext.refl _ | exact Ext.pre (by simp) | exact Ext.alloc (by assumption) _ | refine Ext.alloc ?_ _ |  refine Ext.more ?_ _ _ | refine Ext.drew ?_ | refine Ext.drewN ?_ _))⟩

set_option maxRecDepth 10000 in
set_option maxHeartbeats 2000000 in
theorem none12_in (A : Option Addr) (cap : Nat) (l : List Str) (x : Str) (w : World) (h : Strs w A l) (hl : l.length ≤ 200)
    (hs : ∀ x ∈ l, x.length ≤ 9223372036854775807) :
    Calls Try.prog 14 #[.slice A l.length cap, encStr x] w fun e w' => e = .returned (.bool true) ∧ Ext w w' := by
  have hl' : (l.length : Int) ≤ 200 := by omega
  have H1 := hide h
  have Hs1 := hide hs
  have hL := ofL_len l
  have U1 := hide (ofL_same (ofL_rising l))
  have U2 := hide (minusL_none (ofL l))
  have U3 := hide (minusL_of_nil (ofL l))
  clear h hs
  go_enter Try.func14, Try.ntmps14
  go_wp2_with fail
  refine (seto_new A cap l w H1.out Hs1.out (by omega)).mono ?_
  rintro e w1 ⟨⟨v1, rfl, g1⟩, l1, d1, rfl⟩
  have G1 := hide g1
  clear g1
  generalize ofL l = L at *
  have N : Hid (∀ w', SetO w' (.pointer none) []) := hide (fun _ => .inl ⟨rfl, rfl⟩)
  go_wp2_with fail
  refine (none_add x _).mono ?_
  rintro e w1 ⟨rfl, rfl⟩
  go_wp2_with fail
  refine (none_has x _).mono ?_
  rintro e w1 ⟨rfl, rfl⟩
  go_wp2_with fail
  refine (none_remove x _).mono ?_
  rintro e w1 ⟨rfl, rfl⟩
  go_wp2_with fail
  refine (none_list _).mono ?_
  rintro e w1 ⟨rfl, rfl⟩
  go_wp2_with fail
  refine (none_len _).mono ?_
  rintro e w1 ⟨rfl, rfl⟩
  go_wp2_with fail
  refine (seto_un (N.out _) G1.out (by simp; omega)).mono ?_
  rw [List.nil_append, U1.out]
  rintro e w1 ⟨⟨v2, rfl, g2⟩, l2, d2, rfl⟩
  simp only [more_more] at g2
  have G2 := hide g2
  clear g2
  go_wp2_with fail
  refine (seto_strs G2.out).mono ?_
  rintro e w1 ⟨⟨A3, c3, rfl, q1, q2, q3⟩, l3, d3, rfl⟩
  simp only [more_more, List.append_assoc] at q3
  have Q3 := hide q3
  clear q3
  go_wp2_with fail
  refine (seto_strs (G1.out.ext (by repeat (first | exact Ext.refl _ | exact Ext.pre (by simp) | exact Ext.alloc (by assumption) _ | refine Ext.alloc ?_ _ |  refine Ext.more ?_ _ _ | refine Ext.drew ?_ | refine Ext.drewN ?_ _)))).mono ?_
  rintro e w1 ⟨⟨A4, c4, rfl, q4, q5, q6⟩, l4, d4, rfl⟩
  simp only [more_more, List.append_assoc] at q6
  have Q4 := hide q6
  clear q6
  go_wp2_with fail
  refine (ref_texts_yes A3 A4 c3 c4 L _ (Q3.out.ext (by repeat (first | exact Ext.refl _ | exact Ext.pre (by simp) | exact Ext.alloc (by assumption) _ | refine Ext.alloc ?_ _ |  refine Ext.more ?_ _ _ | refine Ext.drew ?_ | refine Ext.drewN ?_ _))) Q4.out (by omega)).mono ?_
  rintro e w1 ⟨rfl, l5, d5, rfl⟩
  clear G2 Q3 Q4
  go_wp2_with fail
  refine (seto_mi (G1.out.ext (by repeat (first | exact Ext.refl _ | exact Ext.pre (by simp) | exact Ext.alloc (by assumption) _ | refine Ext.alloc ?_ _ |  refine Ext.more ?_ _ _ | refine Ext.drew ?_ | refine Ext.drewN ?_ _))) (N.out _) (by omega)).mono ?_
  rw [U2.out]
  rintro e w1 ⟨⟨v6, rfl, g6⟩, l6, d6, rfl⟩
  simp only [more_more, List.append_assoc] at g6
  have G6 := hide g6
  clear g6
  go_wp2_with fail
  refine (seto_strs (G6.out.ext (by repeat (first | exact Ext.refl _ | exact Ext.pre (by simp) | exact Ext.alloc (by assumption) _ | refine Ext.alloc ?_ _ |  refine Ext.more ?_ _ _ | refine Ext.drew ?_ | refine Ext.drewN ?_ _)))).mono ?_
  rintro e w1 ⟨⟨A7, c7, rfl, q7, q8, q9⟩, l7, d7, rfl⟩
  simp only [more_more, List.append_assoc] at q9
  have Q7 := hide q9
  clear q9
  go_wp2_with fail
  refine (seto_strs (G1.out.ext (by repeat (first | exact Ext.refl _ | exact Ext.pre (by simp) | exact Ext.alloc (by assumption) _ | refine Ext.alloc ?_ _ |  refine Ext.more ?_ _ _ | refine Ext.drew ?_ | refine Ext.drewN ?_ _)))).mono ?_
  rintro e w1 ⟨⟨A8, c8, rfl, q10, q11, q12⟩, l8, d8, rfl⟩
  simp only [more_more, List.append_assoc] at q12
  have Q8 := hide q12
  clear q12
  go_wp2_with fail
  refine (ref_texts_yes A7 A8 c7 c8 L _ (Q7.out.ext (by repeat (first | exact Ext.refl _ | exact Ext.pre (by simp) | exact Ext.alloc (by assumption) _ | refine Ext.alloc ?_ _ |  refine Ext.more ?_ _ _ | refine Ext.drew ?_ | refine Ext.drewN ?_ _))) Q8.out (by omega)).mono ?_
  rintro e w1 ⟨rfl, l9, d9, rfl⟩
  clear G6 Q7 Q8
  go_wp2_with fail
  refine (seto_within (N.out _) (G1.out.ext (by repeat (first | exact Ext.refl _ | exact Ext.pre (by simp) | exact Ext.alloc (by assumption) _ | refine Ext.alloc ?_ _ |  refine Ext.more ?_ _ _ | refine Ext.drew ?_ | refine Ext.drewN ?_ _))) (by simp)).mono ?_
  rw [U3.out, decide_eq_true rfl]
  rintro e w1 ⟨rfl, l10, d10, rfl⟩
  have Hw := fun w' h => hide (seto_within (w := w') (G1.out.ext h) (N.out _) (by omega))
  have hR' : ((L.length : Int) == 0) = decide (minusL L [] = []) := by rw [U2.out, Bool.eq_iff_iff]; simp
  have Hr := hide hR'
  have Hw' := hide Hw
  clear hR' Hw U2
  generalize decide (minusL L [] = []) = b at *
  go_wp2_with fail
  refine (Hw'.out _ (by repeat (first | exact Ext.refl _ | exact Ext.pre (by simp) | exact Ext.alloc (by assumption) _ | refine Ext.alloc ?_ _ |  refine Ext.more ?_ _ _ | refine Ext.drew ?_ | refine Ext.drewN ?_ _))).out.mono ?_
  rintro e w7 ⟨rfl, l15, d15, rfl⟩
  go_wp2_with fail
  refine (seto_len (G1.out.ext (by repeat (first | exact Ext.refl _ | exact Ext.pre (by simp) | exact Ext.alloc (by assumption) _ | refine Ext.alloc ?_ _ |  refine Ext.more ?_ _ _ | refine Ext.drew ?_ | refine Ext.drewN ?_ _)))).mono ?_
  rintro e w1 ⟨rfl, rfl⟩
  clear Hw'
  have hr := Hr.out
  cases b
  all_goals
    go_wp2_with fail
    refine (awake12_ok _).mono ?_
    rintro e w7 ⟨rfl, l21, d21, rfl⟩
    go_wp2
    go_ret
    exact ⟨rfl, (by repeat (first | exact Ext.refl _ | exact Ext.pre (by simp) | exact Ext.alloc (by assumption) _ | refine Ext.alloc ?_ _ |  refine Ext.more ?_ _ _ | refine Ext.drew ?_ | refine Ext.drewN ?_ _))⟩

end Go.Proofs.Ytnegamkakdbhfaa
