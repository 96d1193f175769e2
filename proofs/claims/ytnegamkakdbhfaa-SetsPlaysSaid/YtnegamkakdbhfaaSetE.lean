/- The program's sets as rising lists: of both, of one alone, within. -/
import Derived.Test.YtnegamkakdbhfaaSetD
import Derived.WalkSpells
import Derived.WalkLawsBesides
namespace Go.Proofs.Ytnegamkakdbhfaa
open Go.RowKit Go.Sort Go.Maps

theorem SetL.bound {w : World} {s r n : Nat} {L : List Str} (h : SetL w s r n L) : ∀ x ∈ L, x.length ≤ 9223372036854775807 := by
  obtain ⟨D, h, rfl⟩ := h
  intro x hx
  have := strKeys_le h.own Try.underlying9 x ((List.mergeSort_perm (strKeys D) leB).mem_iff.1 hx)
  unfold maxLen at this
  exact this
theorem SetO.bound {w : World} {v : Value} {L : List Str} (h : SetO w v L) : ∀ x ∈ L, x.length ≤ 9223372036854775807 := by
  rcases h with ⟨_, rfl⟩ | ⟨s, r, n, h1, h2, h3⟩
  · simp
  · exact h3.bound

set_option maxRecDepth 10000 in
set_option maxHeartbeats 1000000 in
theorem seto_union {w : World} {v1 v2 : Value} {L M : List Str} (h1 : SetO w v1 L) (h2 : SetO w v2 M) (hl : L.length + M.length ≤ 10000) :
    Calls Try.prog 67 #[v1, v2] w fun e w' => (∃ s r n, e = .returned (.pointer (some ⟨s, 0, none⟩)) ∧ w.heap.size ≤ s ∧ w.heap.size ≤ r ∧ n ≤ 10000 ∧ SetL w' s r n (ofL (L ++ M))) ∧ Ext w w' := by
  have Hb : Hid (∀ x ∈ L ++ M, x.length ≤ 9223372036854775807) := hide (fun x hx => by
    rcases List.mem_append.1 hx with h | h
    · exact h1.bound x h
    · exact h2.bound x h)
  have H1 := hide h1
  have H2 := hide h2
  clear h1 h2
  obtain ⟨i0, hi, hz0, hz1, hz2⟩ := info_parts str_info
  go_enter Try.func67, Try.ntmps67
  go_wp2_with fail
  refine (seto_list H1.out).mono ?_
  rintro e w1 ⟨⟨u1, rfl, ho1⟩, l1, d1, rfl⟩
  have Ho1 := hide ho1
  clear ho1
  go_wp2_with fail
  refine (seto_list (H2.out.ext (Ext.more (Ext.refl _) l1 d1))).mono ?_
  rintro e w2 ⟨⟨u2, rfl, ho2⟩, l2, d2, rfl⟩
  obtain ⟨A2, c2, rfl, hc1, hc2, hs2, _⟩ := Strs.of_own ho2
  have Hs2 := hide hs2
  clear ho2 hs2
  have Hown := hide (own_ext Ho1.out (Ext.more (Ext.refl _) l2 d2))
  clear Ho1
  go_wp2_with (at_builtin; refine wpList_append_row _ rfl _ _ 65 rfl w.heap.size 9 i0 _ 1 16 Try.underlying65 hi hz0 hz1 hz2 rfl (by decide) u1 L.length (L.map encStr) rfl (by simpa using Hown.out) A2 M.length c2 (M.map encStr) rfl ?c2 ?c3 ?c4 ?c5 ?c6 ?_)
  case c2 => have := Hs2.out; unfold Strs at this; simpa using this
  case c3 => exact one_strs _
  case c4 => unfold maxLen; omega
  case c5 => omega
  case c6 => simp
  intro v3 w4 hown3 hg3 hat3
  have He3 : Hid (Ext w w4) := hide (Ext.app (by repeat (first | exact Ext.refl _ | exact Ext.pre (by simp) | exact Ext.alloc (by assumption) _ | refine Ext.alloc ?_ _ |  refine Ext.more ?_ _ _ | refine Ext.drew ?_ | refine Ext.drewN ?_ _)) hg3 (by simpa using Hown.out) (Nat.le_refl _))
  rw [← List.map_append, ← List.length_append] at hown3
  have hLM : (L ++ M).length ≤ 10000 := by simpa using hl
  have hLMe : ∃ X, X = L ++ M := ⟨_, rfl⟩
  obtain ⟨LM, hLMe⟩ := hLMe
  rw [← hLMe] at hown3 hLM Hb
  have HLMe := hide hLMe
  clear hLMe
  obtain ⟨A3, c3, rfl, hc3, hc4, hs3, _⟩ := Strs.of_own hown3
  have Hs3 := hide hs3
  clear hown3 hs3 hg3 hat3 Hs2 Hown
  go_wp2_with fail
  refine (setl_new A3 c3 LM w4 Hs3.out Hb.out hLM).mono ?_
  rintro e w5 ⟨⟨s, r, n, rfl, g1, g2, g3, g4⟩, l5, d5, rfl⟩
  have Hg4 := hide g4
  clear g4
  have hsz := He3.out.size
  go_wp2
  go_ret
  exact ⟨⟨s, r, n, rfl, by omega, by omega, g3, by rw [← HLMe.out]; exact Hg4.out⟩, He3.out.more _ _⟩

set_option maxRecDepth 10000 in
set_option maxHeartbeats 1000000 in
theorem seto_minus {w : World} {v1 v2 : Value} {L M : List Str} (h1 : SetO w v1 L) (h2 : SetO w v2 M) (hl : L.length ≤ 10000) :
    Calls Try.prog 68 #[v1, v2] w fun e w' => (∃ s r n, e = .returned (.pointer (some ⟨s, 0, none⟩)) ∧ w.heap.size ≤ s ∧ w.heap.size ≤ r ∧ n ≤ 20000 ∧ SetL w' s r n (minusL L M)) ∧ Ext w w' := by
  have Hb := hide h1.bound
  have Hr1 := hide h1.rising
  have H1 := hide h1
  have H2 := hide h2
  clear h1 h2
  go_enter Try.func68, Try.ntmps68
  go_wp2_with fail
  refine (setl_new none 0 [] w (Strs.nil _) (by simp) (by simp)).mono ?_
  rintro e w1 ⟨⟨s, r, n, rfl, g1, g2, g3, g4⟩, l1, d1, rfl⟩
  have Hg4 : Hid (SetL (more w l1 d1) s r n []) := hide g4
  clear g4
  go_wp2_with fail
  refine (seto_list (H1.out.ext (Ext.more (Ext.refl _) l1 d1))).mono ?_
  rintro e w2 ⟨⟨u2, rfl, ho2⟩, l2, d2, rfl⟩
  obtain ⟨A2, c2, rfl, hc1, hc2, hs2, _⟩ := Strs.of_own ho2
  have Hs2 := hide hs2
  have Hset := hide (Hg4.out.ext (Ext.more (Ext.refl _) l2 d2))
  clear ho2 hs2 Hg4
  go_wp2
  go_loopw [12] (fun i wr => ∃ k : Nat, k ≤ L.length ∧ i = .int .i64 (k : Nat) ∧ Hid (SetL wr s r (n + k) (minusL (L.take k) M)) ∧ Hid (Ext w wr) ∧ Hid (Strs wr A2 L)) (fun i _ => L.length - (intOf i).toNat)
  case atStart => exact ⟨0, Nat.zero_le _, rfl, hide (by have := Hset.out; simpa [minusL] using this), hide (by repeat (first | exact Ext.refl _ | exact Ext.pre (by simp) | exact Ext.alloc (by assumption) _ | refine Ext.alloc ?_ _ |  refine Ext.more ?_ _ _ | refine Ext.drew ?_ | refine Ext.drewN ?_ _)), hide (by simpa using Hs2.out)⟩
  case round =>
    obtain ⟨k, hk, rfl, HS, HX, HR⟩ := hrel
    by_cases hlt : k < L.length
    · obtain ⟨b, o, rfl, hb, q0⟩ := HR.out.at_ hlt
      have hlt' : (k : Int) < (L.length : Int) := by omega
      have Hbx : Hid ((L.getD k []).length ≤ 9223372036854775807) := hide (Hb.out _ (by simp [hlt]))
      have hnk : n + k < 100000 := by omega
      have Htk := hide (take_snoc L [] hlt)
      have Hnew : Hid (minusL (L.take (k + 1)) M = if findB M (L.getD k []) then minusL (L.take k) M else addL (minusL (L.take k) M) (L.getD k [])) := hide (by
        rw [Htk.out, minusL_snoc]
        cases hf : findB M (L.getD k [])
        · simp only [Bool.false_eq_true, ↓reduceIte]
          have h3 : Rising (L.take (k + 1)) := Hr1.out.sublist (List.take_sublist _ _)
          have h4 : Rising (minusL (L.take (k + 1)) M) := minusL_rising M h3
          have h5 : minusL (L.take (k + 1)) M = minusL (L.take k) M ++ [L.getD k []] := by rw [Htk.out, minusL_snoc, hf]; simp
          have h6 : Rising (minusL (L.take k) M) := minusL_rising M (Hr1.out.sublist (List.take_sublist _ _))
          rw [← h5]
          exact h4.ext (addL_rising h6 _) fun y => by rw [h5, addL_mem h6]; simp
        · simp)
      clear Htk
      have Hh := hide (seto_has (H2.out.ext HX.out) (L.getD k []) Hbx.out)
      generalize L.getD k [] = x at *
      cases hf : findB M x
      · rw [hf] at Hh Hnew
        go_wp2_with fail
        refine Hh.out.mono ?_
        rintro e w3 ⟨rfl, rfl⟩
        clear Hh
        go_wp2_with fail
        refine (setl_add HS.out x Hbx.out hnk).mono ?_
        rintro e w4 ⟨rfl, hs4, hg4⟩
        have HS4 := hide hs4
        have HX4 := hide (HX.out.grown hg4 (fun j hj => by injection hj with hj; omega))
        have HR4 := hide (HS.out.row hg4 (by decide) HR.out)
        clear hs4 hg4 HS HX HR
        go_wp2
        go_roundw
        case rel => exact ⟨k + 1, hlt, by go_num, hide (by rw [Hnew.out]; exact HS4.out), HX4, HR4⟩
        case measure => simp [intOf]; omega
      · rw [hf] at Hh Hnew
        go_wp2_with fail
        refine Hh.out.mono ?_
        rintro e w3 ⟨rfl, rfl⟩
        clear Hh
        go_wp2
        go_roundw
        case rel => exact ⟨k + 1, hlt, by go_num, hide (by rw [Hnew.out]; obtain ⟨D, hD, e⟩ := HS.out; exact ⟨D, ⟨hD.box, hD.own.mono (by omega), hD.one⟩, e⟩), HX, HR⟩
        case measure => simp [intOf]; omega
    · have hge : (L.length : Int) ≤ (k : Int) := by omega
      have hkt : L.take k = L := List.take_of_length_le (by omega)
      rw [hkt] at HS
      go_wp2
      go_ret
      exact ⟨⟨s, r, _, rfl, by simpa using g1, by simpa using g2, by omega, HS.out⟩, HX.out⟩

set_option maxRecDepth 10000 in
set_option maxHeartbeats 1000000 in
theorem seto_within {w : World} {v1 v2 : Value} {L M : List Str} (h1 : SetO w v1 L) (h2 : SetO w v2 M) (hl : L.length ≤ 10000) :
    Calls Try.prog 70 #[v1, v2] w fun e w' => e = .returned (.bool (decide (minusL L M = []))) ∧ Ext w w' := by
  have Hm := hide (seto_minus h1 h2 hl)
  clear h1 h2
  generalize minusL L M = R at *
  by_cases hR : R = []
  all_goals
    have hR' : ((R.length : Int) == 0) = decide (R = []) := by rw [Bool.eq_iff_iff]; simp
    simp only [hR, decide_true, decide_false] at hR' ⊢
    go_enter Try.func70, Try.ntmps70
    go_wp2_with fail
    refine Hm.out.mono ?_
    rintro e w1 ⟨⟨s, r, n, rfl, g1, g2, g3, g4⟩, l1, d1, rfl⟩
    have Hg4 := hide g4
    clear g4
    go_wp2_with fail
    refine (setl_len Hg4.out).mono ?_
    rintro e w3 ⟨rfl, rfl⟩
    first | subst hR | skip
    go_wp2
    go_ret
    exact ⟨rfl, (by repeat (first | exact Ext.refl _ | exact Ext.pre (by simp) | exact Ext.alloc (by assumption) _ | refine Ext.alloc ?_ _ |  refine Ext.more ?_ _ _ | refine Ext.drew ?_ | refine Ext.drewN ?_ _))⟩

end Go.Proofs.Ytnegamkakdbhfaa
