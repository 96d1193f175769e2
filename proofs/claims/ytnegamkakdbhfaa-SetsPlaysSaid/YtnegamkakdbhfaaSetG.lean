/- Chapter 12's laws on two sets, and on a set that is none. -/
import Derived.Test.YtnegamkakdbhfaaSetF
import Derived.WalkSpells
import Derived.WalkLawsBesides
namespace Go.Proofs.Ytnegamkakdbhfaa
open Go.RowKit Go.Sort Go.Maps

/-! ### Plain facts -/
theorem minusL_nil {L M : List Str} (h : Rising M) (hs : ∀ x ∈ L, x ∈ M) : minusL L M = [] := by
  apply List.eq_nil_iff_forall_not_mem.2
  intro x hx
  have := (minusL_mem L h x).1 hx
  exact this.2 (hs x this.1)
theorem minusL_none (L : List Str) : minusL L [] = L := by
  unfold minusL
  rw [List.filter_eq_self]
  intro x _
  simp [findB]
theorem minusL_of_nil (M : List Str) : minusL [] M = [] := rfl
theorem law_u1 (l m : List Str) : minusL (ofL l) (ofL (ofL l ++ ofL m)) = [] := minusL_nil (ofL_rising _) fun x hx => by rw [ofL_mem]; simp [hx]
theorem law_u2 (l m : List Str) : minusL (ofL m) (ofL (ofL l ++ ofL m)) = [] := minusL_nil (ofL_rising _) fun x hx => by rw [ofL_mem]; simp [hx]
theorem law_u3 (l m : List Str) : minusL (minusL (ofL l) (ofL m)) (ofL l) = [] := minusL_nil (ofL_rising _) fun x hx => ((minusL_mem _ (ofL_rising m) x).1 hx).1
theorem law_u4 (l m : List Str) : minusL (minusL (ofL l) (ofL m)) (ofL m) = minusL (ofL l) (ofL m) := by
  unfold minusL
  rw [List.filter_filter]
  simp
theorem law_u5 (l m : List Str) : ofL (minusL (ofL l) (ofL m) ++ ofL m) = ofL (ofL l ++ ofL m) :=
  (ofL_rising _).ext (ofL_rising _) fun x => by
    rw [ofL_mem, ofL_mem, List.mem_append, List.mem_append, minusL_mem _ (ofL_rising m)]
    constructor
    · rintro (h | h)
      · exact .inl h.1
      · exact .inr h
    · rintro (h | h)
      · by_cases hm : x ∈ ofL m
        · exact .inr hm
        · exact .inl ⟨h, hm⟩
      · exact .inr h
theorem law_u6 (l m : List Str) : (ofL (ofL l ++ ofL m)).length = (minusL (ofL l) (ofL m)).length + (ofL m).length := by
  rw [← List.length_append]
  apply List.Perm.length_eq
  refine (List.perm_ext_iff_of_nodup (ofL_rising _).nodup ?_).2 fun x => ?_
  · refine List.nodup_append.2 ⟨(minusL_rising _ (ofL_rising l)).nodup, (ofL_rising m).nodup, fun a ha b hb e => ?_⟩
    subst e
    exact ((minusL_mem _ (ofL_rising m) a).1 ha).2 hb
  · rw [← law_u5, ofL_mem]

/-! ### Contracts with an open set -/
theorem seto_new (A : Option Addr) (cap : Nat) (l : List Str) (w : World) (h : Strs w A l) (hs : ∀ x ∈ l, x.length ≤ 9223372036854775807) (hn : l.length ≤ 10000) :
    Calls Try.prog 58 #[.slice A l.length cap] w fun e w' => (∃ v, e = .returned v ∧ SetO w' v (ofL l)) ∧ Ext w w' :=
  (setl_new A cap l w h hs hn).mono fun _ _ ⟨⟨s, r, n, h1, _, _, h4, h5⟩, h6⟩ => ⟨⟨_, h1, .inr ⟨s, r, n, rfl, by omega, h5⟩⟩, h6⟩
theorem seto_un {w : World} {v1 v2 : Value} {L M : List Str} (h1 : SetO w v1 L) (h2 : SetO w v2 M) (hl : L.length + M.length ≤ 10000) :
    Calls Try.prog 67 #[v1, v2] w fun e w' => (∃ v, e = .returned v ∧ SetO w' v (ofL (L ++ M))) ∧ Ext w w' :=
  (seto_union h1 h2 hl).mono fun _ _ ⟨⟨s, r, n, h1, _, _, h4, h5⟩, h6⟩ => ⟨⟨_, h1, .inr ⟨s, r, n, rfl, by omega, h5⟩⟩, h6⟩
theorem seto_mi {w : World} {v1 v2 : Value} {L M : List Str} (h1 : SetO w v1 L) (h2 : SetO w v2 M) (hl : L.length ≤ 10000) :
    Calls Try.prog 68 #[v1, v2] w fun e w' => (∃ v, e = .returned v ∧ SetO w' v (minusL L M)) ∧ Ext w w' :=
  (seto_minus h1 h2 hl).mono fun _ _ ⟨⟨s, r, n, h1, _, _, h4, h5⟩, h6⟩ => ⟨⟨_, h1, .inr ⟨s, r, n, rfl, by omega, h5⟩⟩, h6⟩
theorem seto_strs {w : World} {v : Value} {L : List Str} (h : SetO w v L) :
    Calls Try.prog 66 #[v] w fun e w' => (∃ A cap, e = .returned (.slice A L.length cap) ∧ L.length ≤ cap ∧ cap ≤ 9223372036854775807 ∧ Strs w' A L) ∧ Ext w w' :=
  (seto_list h).mono fun _ _ ⟨⟨v, h1, h2⟩, h3⟩ => by
    obtain ⟨A, cap, rfl, g1, g2, g3, _⟩ := Strs.of_own h2
    exact ⟨⟨A, cap, h1, g1, g2, g3⟩, h3⟩

set_option maxRecDepth 10000 in
set_option maxHeartbeats 2000000 in
theorem laws12_in (A B : Option Addr) (cap cap' : Nat) (l m : List Str) (w : World) (h : Strs w A l) (h' : Strs w B m) (hl : l.length ≤ 200) (hm : m.length ≤ 200)
    (hs : ∀ x ∈ l, x.length ≤ 9223372036854775807) (hs' : ∀ x ∈ m, x.length ≤ 9223372036854775807) :
    Calls Try.prog 13 #[.slice A l.length cap, .slice B m.length cap'] w fun e w' => e = .returned (.bool true) ∧ Ext w w' := by
  have hl' : (l.length : Int) ≤ 200 := by omega
  have hm' : (m.length : Int) ≤ 200 := by omega
  have H1 := hide h
  have H2 := hide h'
  have Hs1 := hide hs
  have Hs2 := hide hs'
  have U1 := hide (law_u1 l m)
  have U2 := hide (law_u2 l m)
  have U3 := hide (law_u3 l m)
  have U4 := hide (law_u4 l m)
  have U5 := hide (law_u5 l m)
  have U6 := hide (law_u6 l m)
  have hL := ofL_len l
  have hM := ofL_len m
  have hD := minusL_len (ofL l) (ofL m)
  have hU := ofL_len (ofL l ++ ofL m)
  rw [List.length_append] at hU
  clear h h' hs hs'
  go_enter Try.func13, Try.ntmps13
  go_wp2_with fail
  refine (seto_new A cap l w H1.out Hs1.out (by omega)).mono ?_
  rintro e w1 ⟨⟨v1, rfl, g1⟩, l1, d1, rfl⟩
  have G1 := hide g1
  clear g1
  go_wp2_with fail
  refine (seto_new B cap' m _ (H2.out.ext (by repeat (first | exact Ext.refl _ | exact Ext.pre (by simp) | exact Ext.alloc (by assumption) _ | refine Ext.alloc ?_ _ |  refine Ext.more ?_ _ _ | refine Ext.drew ?_ | refine Ext.drewN ?_ _))) Hs2.out (by omega)).mono ?_
  rintro e w1 ⟨⟨v2, rfl, g2⟩, l2, d2, rfl⟩
  simp only [more_more] at g2
  have G2 := hide g2
  clear g2
  generalize ofL l = L at *
  generalize ofL m = M at *
  go_wp2_with fail
  refine (seto_un (G1.out.ext (by repeat (first | exact Ext.refl _ | exact Ext.pre (by simp) | exact Ext.alloc (by assumption) _ | refine Ext.alloc ?_ _ |  refine Ext.more ?_ _ _ | refine Ext.drew ?_ | refine Ext.drewN ?_ _))) (G2.out.ext (by repeat (first | exact Ext.refl _ | exact Ext.pre (by simp) | exact Ext.alloc (by assumption) _ | refine Ext.alloc ?_ _ |  refine Ext.more ?_ _ _ | refine Ext.drew ?_ | refine Ext.drewN ?_ _))) (by omega)).mono ?_
  rintro e w1 ⟨⟨v3, rfl, g3⟩, l3, d3, rfl⟩
  simp only [more_more, List.append_assoc] at g3
  have G3 := hide g3
  clear g3
  generalize ofL (L ++ M) = U at *
  go_wp2_with fail
  refine (seto_mi (G1.out.ext (by repeat (first | exact Ext.refl _ | exact Ext.pre (by simp) | exact Ext.alloc (by assumption) _ | refine Ext.alloc ?_ _ |  refine Ext.more ?_ _ _ | refine Ext.drew ?_ | refine Ext.drewN ?_ _))) (G2.out.ext (by repeat (first | exact Ext.refl _ | exact Ext.pre (by simp) | exact Ext.alloc (by assumption) _ | refine Ext.alloc ?_ _ |  refine Ext.more ?_ _ _ | refine Ext.drew ?_ | refine Ext.drewN ?_ _))) (by omega)).mono ?_
  rintro e w1 ⟨⟨v4, rfl, g4⟩, l4, d4, rfl⟩
  simp only [more_more, List.append_assoc] at g4
  have G4 := hide g4
  clear g4
  generalize minusL L M = D at *
  go_wp2_with fail
  refine (seto_within (G1.out.ext (by repeat (first | exact Ext.refl _ | exact Ext.pre (by simp) | exact Ext.alloc (by assumption) _ | refine Ext.alloc ?_ _ |  refine Ext.more ?_ _ _ | refine Ext.drew ?_ | refine Ext.drewN ?_ _))) (G3.out.ext (by repeat (first | exact Ext.refl _ | exact Ext.pre (by simp) | exact Ext.alloc (by assumption) _ | refine Ext.alloc ?_ _ |  refine Ext.more ?_ _ _ | refine Ext.drew ?_ | refine Ext.drewN ?_ _))) (by omega)).mono ?_
  rintro e w1 ⟨rfl, l5, d5, rfl⟩
  rw [U1.out, decide_eq_true rfl]
  go_wp2_with fail
  refine (seto_within (G2.out.ext (by repeat (first | exact Ext.refl _ | exact Ext.pre (by simp) | exact Ext.alloc (by assumption) _ | refine Ext.alloc ?_ _ |  refine Ext.more ?_ _ _ | refine Ext.drew ?_ | refine Ext.drewN ?_ _))) (G3.out.ext (by repeat (first | exact Ext.refl _ | exact Ext.pre (by simp) | exact Ext.alloc (by assumption) _ | refine Ext.alloc ?_ _ |  refine Ext.more ?_ _ _ | refine Ext.drew ?_ | refine Ext.drewN ?_ _))) (by omega)).mono ?_
  rintro e w1 ⟨rfl, l6, d6, rfl⟩
  rw [U2.out, decide_eq_true rfl]
  go_wp2_with fail
  refine (seto_within (G4.out.ext (by repeat (first | exact Ext.refl _ | exact Ext.pre (by simp) | exact Ext.alloc (by assumption) _ | refine Ext.alloc ?_ _ |  refine Ext.more ?_ _ _ | refine Ext.drew ?_ | refine Ext.drewN ?_ _))) (G1.out.ext (by repeat (first | exact Ext.refl _ | exact Ext.pre (by simp) | exact Ext.alloc (by assumption) _ | refine Ext.alloc ?_ _ |  refine Ext.more ?_ _ _ | refine Ext.drew ?_ | refine Ext.drewN ?_ _))) (by omega)).mono ?_
  rintro e w1 ⟨rfl, l7, d7, rfl⟩
  rw [U3.out, decide_eq_true rfl]
  go_wp2_with fail
  refine (seto_mi (G4.out.ext (by repeat (first | exact Ext.refl _ | exact Ext.pre (by simp) | exact Ext.alloc (by assumption) _ | refine Ext.alloc ?_ _ |  refine Ext.more ?_ _ _ | refine Ext.drew ?_ | refine Ext.drewN ?_ _))) (G2.out.ext (by repeat (first | exact Ext.refl _ | exact Ext.pre (by simp) | exact Ext.alloc (by assumption) _ | refine Ext.alloc ?_ _ |  refine Ext.more ?_ _ _ | refine Ext.drew ?_ | refine Ext.drewN ?_ _))) (by omega)).mono ?_
  rw [U4.out]
  rintro e w1 ⟨⟨v5, rfl, g5⟩, l8, d8, rfl⟩
  simp only [more_more, List.append_assoc] at g5
  have G5 := hide g5
  clear g5
  go_wp2_with fail
  refine (seto_len (G5.out.ext (by repeat (first | exact Ext.refl _ | exact Ext.pre (by simp) | exact Ext.alloc (by assumption) _ | refine Ext.alloc ?_ _ |  refine Ext.more ?_ _ _ | refine Ext.drew ?_ | refine Ext.drewN ?_ _)))).mono ?_
  rintro e w1 ⟨rfl, rfl⟩
  go_wp2_with fail
  refine (seto_len (G4.out.ext (by repeat (first | exact Ext.refl _ | exact Ext.pre (by simp) | exact Ext.alloc (by assumption) _ | refine Ext.alloc ?_ _ |  refine Ext.more ?_ _ _ | refine Ext.drew ?_ | refine Ext.drewN ?_ _)))).mono ?_
  rintro e w1 ⟨rfl, rfl⟩
  have htt : ((D.length : Int) == (D.length : Int)) = true := by simp
  go_wp2_with fail
  refine (seto_un (G4.out.ext (by repeat (first | exact Ext.refl _ | exact Ext.pre (by simp) | exact Ext.alloc (by assumption) _ | refine Ext.alloc ?_ _ |  refine Ext.more ?_ _ _ | refine Ext.drew ?_ | refine Ext.drewN ?_ _))) (G2.out.ext (by repeat (first | exact Ext.refl _ | exact Ext.pre (by simp) | exact Ext.alloc (by assumption) _ | refine Ext.alloc ?_ _ |  refine Ext.more ?_ _ _ | refine Ext.drew ?_ | refine Ext.drewN ?_ _))) (by omega)).mono ?_
  rw [U5.out]
  rintro e w1 ⟨⟨v6, rfl, g6⟩, l9, d9, rfl⟩
  simp only [more_more, List.append_assoc] at g6
  have G6 := hide g6
  clear g6
  go_wp2_with fail
  refine (seto_strs (G6.out.ext (by repeat (first | exact Ext.refl _ | exact Ext.pre (by simp) | exact Ext.alloc (by assumption) _ | refine Ext.alloc ?_ _ |  refine Ext.more ?_ _ _ | refine Ext.drew ?_ | refine Ext.drewN ?_ _)))).mono ?_
  rintro e w1 ⟨⟨A7, c7, rfl, q1, q2, q3⟩, l10, d10, rfl⟩
  simp only [more_more, List.append_assoc] at q3
  have Q3 := hide q3
  clear q3
  go_wp2_with fail
  refine (seto_strs (G3.out.ext (by repeat (first | exact Ext.refl _ | exact Ext.pre (by simp) | exact Ext.alloc (by assumption) _ | refine Ext.alloc ?_ _ |  refine Ext.more ?_ _ _ | refine Ext.drew ?_ | refine Ext.drewN ?_ _)))).mono ?_
  rintro e w1 ⟨⟨A8, c8, rfl, q4, q5, q6⟩, l11, d11, rfl⟩
  simp only [more_more, List.append_assoc] at q6
  have Q6 := hide q6
  clear q6
  go_wp2_with fail
  refine (ref_texts_yes A7 A8 c7 c8 U _ (Q3.out.ext (by repeat (first | exact Ext.refl _ | exact Ext.pre (by simp) | exact Ext.alloc (by assumption) _ | refine Ext.alloc ?_ _ |  refine Ext.more ?_ _ _ | refine Ext.drew ?_ | refine Ext.drewN ?_ _))) (Q6.out.ext (by repeat (first | exact Ext.refl _ | exact Ext.pre (by simp) | exact Ext.alloc (by assumption) _ | refine Ext.alloc ?_ _ |  refine Ext.more ?_ _ _ | refine Ext.drew ?_ | refine Ext.drewN ?_ _))) (by omega)).mono ?_
  rintro e w1 ⟨rfl, l12, d12, rfl⟩
  go_wp2_with fail
  refine (seto_len (G3.out.ext (by repeat (first | exact Ext.refl _ | exact Ext.pre (by simp) | exact Ext.alloc (by assumption) _ | refine Ext.alloc ?_ _ |  refine Ext.more ?_ _ _ | refine Ext.drew ?_ | refine Ext.drewN ?_ _)))).mono ?_
  rintro e w1 ⟨rfl, rfl⟩
  go_wp2_with fail
  refine (seto_len (G4.out.ext (by repeat (first | exact Ext.refl _ | exact Ext.pre (by simp) | exact Ext.alloc (by assumption) _ | refine Ext.alloc ?_ _ |  refine Ext.more ?_ _ _ | refine Ext.drew ?_ | refine Ext.drewN ?_ _)))).mono ?_
  rintro e w1 ⟨rfl, rfl⟩
  go_wp2_with fail
  refine (seto_len (G2.out.ext (by repeat (first | exact Ext.refl _ | exact Ext.pre (by simp) | exact Ext.alloc (by assumption) _ | refine Ext.alloc ?_ _ |  refine Ext.more ?_ _ _ | refine Ext.drew ?_ | refine Ext.drewN ?_ _)))).mono ?_
  rintro e w1 ⟨rfl, rfl⟩
  have hU6 : ((U.length : Int) == ((D.length : Int) + (M.length : Int))) = true := by rw [U6.out]; simp
  have hb1 : (D.length : Int) ≤ 400 := by omega
  have hb2 : (M.length : Int) ≤ 400 := by omega
  clear htt
  go_wp2_with fail
  refine (awake12_ok _).mono ?_
  rintro e w1 ⟨rfl, l13, d13, rfl⟩
  go_wp2
  go_ret
  exact ⟨rfl, (by repeat (first | exact Ext.refl _ | exact Ext.pre (by simp) | exact Ext.alloc (by assumption) _ | refine Ext.alloc ?_ _ |  refine Ext.more ?_ _ _ | refine Ext.drew ?_ | refine Ext.drewN ?_ _))⟩

end Go.Proofs.Ytnegamkakdbhfaa
