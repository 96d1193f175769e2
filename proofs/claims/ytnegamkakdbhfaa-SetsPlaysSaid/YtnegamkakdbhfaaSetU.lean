/- The reference's sets: all of a list; those that another one does not have. -/
import Derived.Test.YtnegamkakdbhfaaSetP
import Derived.WalkSpells
import Derived.WalkLawsBesides
import Derived.IntWalk
namespace Go.Proofs.Ytnegamkakdbhfaa
open Go.RowKit Go.Sort

theorem own_ext {w w' : World} {base : Nat} {e : TypeId} {size : Nat} {v : Value} {n : Nat} {xs : List Value} (h : w.ownsRow base e size v n xs) (k : Ext w w') : w'.ownsRow base e size v n xs := by
  have hb := k.below
  cases hv : v.ownBlock with
  | none => exact h.kept (row := none) ⟨hb.os, hb.tape, hb.output, k.size, fun j hj _ => k.heap hj⟩ (.inl hv)
  | some g => exact h.kept (row := none) ⟨hb.os, hb.tape, hb.output, k.size, fun j hj _ => k.heap hj⟩ (.inr (by rw [hv]; simp))
theorem take_snoc {α : Type} (l : List α) (d : α) {k : Nat} (h : k < l.length) : l.take (k + 1) = l.take k ++ [l.getD k d] := by
  rw [List.take_succ_eq_append_getElem h]; simp [h]

set_option maxRecDepth 10000 in
set_option maxHeartbeats 2000000 in
theorem ref_of (A : Option Addr) (cap : Nat) (l : List Str) (w : World) (h : Strs w A l) (hl : l.length ≤ 1000) :
    Calls Try.prog 59 #[.slice A l.length cap] w fun e w' => (∃ A' cap', e = .returned (.slice A' (ofL l).length cap') ∧ (ofL l).length ≤ cap' ∧ cap' ≤ 9223372036854775807 ∧ Strs w' A' (ofL l)) ∧ Ext w w' := by
  have Hr := hide h
  clear h
  go_enter Try.func59, Try.ntmps59
  go_wp2
  go_loopw [3, 4] (fun v i wr => ∃ k A' cap', k ≤ l.length ∧ i = .int .i64 (k : Nat) ∧ v = .slice A' (ofL (l.take k)).length cap' ∧ (ofL (l.take k)).length ≤ cap' ∧ cap' ≤ 9223372036854775807 ∧ Hid (Strs wr A' (ofL (l.take k))) ∧ Hid (Ext w wr)) (fun _ i _ => l.length - (intOf i).toNat)
  case atStart => exact ⟨0, none, 0, Nat.zero_le _, rfl, rfl, Nat.le_refl _, by omega, hide (Strs.nil _), hide (by repeat (first | exact Ext.refl _ | exact Ext.pre (by simp) | exact Ext.alloc (by assumption) _ | refine Ext.alloc ?_ _ |  refine Ext.more ?_ _ _ | refine Ext.drew ?_ | refine Ext.drewN ?_ _))⟩
  case round =>
    obtain ⟨k, A', cap', hk, rfl, rfl, hc1, hc2, HS, HX⟩ := hrel
    by_cases hlt : k < l.length
    · obtain ⟨b, o, rfl, hb, q0⟩ := (Hr.out.ext HX.out).at_ hlt
      have hlt' : (k : Int) < (l.length : Int) := by omega
      have hol : (ofL (l.take k)).length ≤ 1000 := by have := ofL_len (l.take k); have := List.length_take_le k l; omega
      have Htk := hide (take_snoc l [] hlt)
      generalize l.getD k [] = x at *
      have Hsn : Hid (ofL (l.take (k + 1)) = addL (ofL (l.take k)) x) := hide (by rw [Htk.out, ofL_snoc])
      clear Htk
      generalize ofL (l.take k) = a at *
      have Hadd := hide (ref_add A' cap' a x wr HS.out hol hc1 hc2)
      go_wp2_with fail
      refine Hadd.out.mono ?_
      rintro e w2 ⟨⟨A2, cap2, rfl, hd1, hd2, hs2⟩, l2, d2, rfl⟩
      have Hs2 := hide hs2
      clear hs2 Hadd
      go_wp2
      go_roundw
      case rel => exact ⟨k + 1, A2, cap2, hlt, by go_num, by rw [Hsn.out], by rw [Hsn.out]; exact hd1, hd2, hide (by rw [Hsn.out]; exact Hs2.out), hide (HX.out.more _ _)⟩
      case measure => simp [intOf]; omega
    · have hge : (l.length : Int) ≤ (k : Int) := by omega
      have hkl : k = l.length := by omega
      have hkt : l.take k = l := List.take_of_length_le (by omega)
      rw [hkt] at HS hc1
      rw [hkt]
      go_wp2
      go_ret
      exact ⟨⟨A', cap', rfl, hc1, hc2, HS.out⟩, HX.out⟩

set_option maxRecDepth 10000 in
set_option maxHeartbeats 2000000 in
theorem ref_minus (A B : Option Addr) (cap cap' : Nat) (l m : List Str) (w : World) (h : Strs w A l) (h' : Strs w B m) (hl : l.length ≤ 1000) (hm : m.length ≤ 9223372036854775807) :
    Calls Try.prog 69 #[.slice A l.length cap, .slice B m.length cap'] w fun e w' => (∃ A' cap', e = .returned (.slice A' (minusL l m).length cap') ∧ (minusL l m).length ≤ cap' ∧ cap' ≤ 9223372036854775807 ∧ Strs w' A' (minusL l m)) ∧ Ext w w' := by
  have Hr := hide h
  have Hr' := hide h'
  clear h h'
  obtain ⟨i0, hi, hz0, hz1, hz2⟩ := info_parts str_info
  go_enter Try.func69, Try.ntmps69
  go_wp2
  go_loopw [5, 6] (fun v i wr => ∃ k : Nat, k ≤ l.length ∧ i = .int .i64 (k : Nat) ∧ Hid (wr.ownsRow w.heap.size 9 1 v (minusL (l.take k) m).length ((minusL (l.take k) m).map encStr)) ∧ Hid (Ext w wr)) (fun _ i _ => l.length - (intOf i).toNat)
  case atStart => exact ⟨0, Nat.zero_le _, rfl, hide (World.ownsRow_nil _ _ _ _), hide (by repeat (first | exact Ext.refl _ | exact Ext.pre (by simp) | exact Ext.alloc (by assumption) _ | refine Ext.alloc ?_ _ |  refine Ext.more ?_ _ _ | refine Ext.drew ?_ | refine Ext.drewN ?_ _))⟩
  case round =>
    obtain ⟨k, hk, rfl, HS, HX⟩ := hrel
    by_cases hlt : k < l.length
    · obtain ⟨b, o, rfl, hb, q0⟩ := (Hr.out.ext HX.out).at_ hlt
      have hlt' : (k : Int) < (l.length : Int) := by omega
      have hol : (minusL (l.take k) m).length ≤ 1000 := by have := minusL_len (l.take k) m; have := List.length_take_le k l; omega
      have Htk := hide (take_snoc l [] hlt)
      generalize l.getD k [] = x at *
      have Hsn : Hid (minusL (l.take (k + 1)) m = minusL (l.take k) m ++ if findB m x then [] else [x]) := hide (by rw [Htk.out, minusL_snoc])
      clear Htk
      generalize minusL (l.take k) m = a at *
      have Hf := hide (ref_find B cap' m x _ (Hr'.out.ext HX.out) hm)
      cases hB : findB m x
      · rw [hB] at Hf Hsn
        go_wp2_with fail
        refine Hf.out.mono ?_
        rintro e w2 ⟨rfl, l2, d2, rfl⟩
        clear Hf
        have hbr : b < wr.heap.size := hb
        have Hown := hide (own_ext HS.out (Ext.more (Ext.refl _) l2 d2))
        have HXm := hide (HX.out.more l2 d2)
        go_wp2_with (at_builtin; refine wpList_append_row _ rfl _ _ 65 rfl w.heap.size 9 i0 _ 1 16 Try.underlying65 hi hz0 hz1 hz2 rfl (by decide) u5 a.length (a.map encStr) rfl (Hown.out.alloc _) _ 1 1 [encStr x] rfl ?c2 ?c3 ?c4 ?c5 ?c6 ?_)
        case c2 => exact Row.box _ (at_new _ _ _ (by simp))
        case c3 => intro y hy; simp at hy; subst hy; rfl
        case c4 => unfold maxLen; omega
        case c5 => omega
        case c6 => exact Ext.size (HXm.out.alloc _)
        intro v3 w4 hown3 hg3 hat3
        have He3 := hide (Ext.app (HXm.out.alloc _) hg3 (Hown.out.alloc _) (Nat.le_refl _))
        have Hown3 := hide hown3
        clear hown3 hg3 hat3 HS HX
        go_wp2
        go_roundw
        case rel => exact ⟨k + 1, hlt, by go_num, hide (by rw [Hsn.out]; simpa using Hown3.out), He3⟩
        case measure => simp [intOf]; omega
      · rw [hB] at Hf Hsn
        go_wp2_with fail
        refine Hf.out.mono ?_
        rintro e w2 ⟨rfl, l2, d2, rfl⟩
        clear Hf
        go_wp2
        go_roundw
        case rel => exact ⟨k + 1, hlt, by go_num, hide (by rw [Hsn.out]; simpa using own_ext HS.out (Ext.more (Ext.refl _) l2 d2)), hide (HX.out.more _ _)⟩
        case measure => simp [intOf]; omega
    · have hge : (l.length : Int) ≤ (k : Int) := by omega
      have hkl : k = l.length := by omega
      have hkt : l.take k = l := List.take_of_length_le (by omega)
      rw [hkt] at HS
      obtain ⟨A', cap', rfl, hc1, hc2, hs, _⟩ := Strs.of_own HS.out
      have Hs := hide hs
      clear hs
      go_wp2
      go_ret
      exact ⟨⟨A', cap', rfl, hc1, hc2, Hs.out⟩, HX.out⟩

end Go.Proofs.Ytnegamkakdbhfaa
