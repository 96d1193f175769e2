/- The program's sets: all in order. -/
import Derived.Test.YtbfggmeppakcgaaGreatJA12
import Derived.WalkSpells
import Derived.WalkLawsBesides
import Derived.BigFrameIn
import Derived.OwnWalkIn
/- The program's sets: all in order. -/
namespace Go.Proofs.YtbfggmeppakcgaaGreat
open Go.RowKit Go.Sort Go.Maps

/-- All of a set, rising. -/
def sortedD (D : SD) : List Str := (strKeys D).mergeSort leB

theorem own_monoS {w : World} {base base' : Nat} {e : TypeId} {size : Nat} {v : Value} {n : Nat} {xs : List Value} (h : w.ownsRow base e size v n xs) (hb : base' ≤ base) : w.ownsRow base' e size v n xs := by
  rcases h with ⟨h1, h2 | ⟨g, cap, cur, he, hg, h3⟩⟩
  · exact ⟨h1, .inl h2⟩
  · exact ⟨h1, .inr ⟨g, cap, cur, he, Nat.le_trans hb hg, h3⟩⟩
theorem SetAt.size_le {w : World} {s r n : Nat} {D : SD} (h : SetAt w s r n D) : Maps.size D ≤ n := by
  obtain ⟨es, clock, _, _, hn, rfl⟩ := h.own
  rw [size_eq, length_sorted]
  simpa using hn
theorem SetAt.keys_len {w : World} {s r n : Nat} {D : SD} (h : SetAt w s r n D) : (strKeys D).length = Maps.size D := by
  obtain ⟨es, e, _⟩ := h.tidy
  subst e
  simp [strKeys, size_eq]
theorem sorted_len {w : World} {s r n : Nat} {D : SD} (h : SetAt w s r n D) : (sortedD D).length = Maps.size D := by
  unfold sortedD
  rw [List.length_mergeSort]
  exact h.keys_len

set_option maxHeartbeats 1000000 in
theorem set_list_own {w : World} {s r n : Nat} {D : SD} (h : SetAt w s r n D) (hn : n ≤ 100000) :
    Calls Tryz.prog 31 #[.pointer (some ⟨s, 0, none⟩)] w fun e w' => (∃ v, e = .returned v ∧ w'.ownsRow w.heap.size 9 1 v (sortedD D).length ((sortedD D).map encStr)) ∧ Ext w w' := by
  have hsz := h.size_le
  have Hl := hide (set_len h)
  have hc := h.cell
  have Hh := hide h
  have Hsl := hide (sorted_len h)
  clear h
  by_cases h0 : Maps.size D = 0
  · have h0' : ((Maps.size D : Int) == 0) = true := by simp [h0]
    have he : sortedD D = [] := List.eq_nil_of_length_eq_zero (by rw [Hsl.out, h0])
    rw [he]
    clear he h0
    go_enter Tryz.func31, Tryz.ntmps31
    go_wp2_with fail
    refine Hl.out.mono ?_
    rintro e w1 ⟨rfl, rfl⟩
    go_wp2
    go_ret
    exact ⟨⟨_, rfl, World.ownsRow_nil _ _ _ _⟩, (by repeat (first | exact Ext.refl _ | exact Ext.pre (by simp) | exact Ext.alloc (by assumption) _ | refine Ext.alloc ?_ _ |  refine Ext.more ?_ _ _ | refine Ext.drew ?_ | refine Ext.drewN ?_ _))⟩
  · have h0' : ((Maps.size D : Int) == 0) = false := by simp; omega
    refine (callsIn_wide (n := 6)).1 ?_
    have hfK : Fence.wide.fn 42 := trivial
    have hfS : Fence.wide.fn 41 := trivial
    have hfL : Fence.wide.fn 40 := trivial
    refine callsIn_of_wp Tryz.func31 rfl trivial ?_ rfl
    simp only [Tryz.ntmps31, List.size_toArray, List.length_cons, List.length_nil, Nat.reduceAdd, Nat.reduceSub, Array.replicate_succ, Array.replicate_zero, List.push_toArray, List.append_toArray, List.nil_append, List.cons_append]
    gi_wp2_with (first
      | (gi_at_call 40; refine (callsIn_wide.2 Hl.out).mono ?_; rintro e w' ⟨rfl, rfl⟩)
      | (gi_at_call 42; refine (Tryz.maps_Keys_42 _ _).mono ?_; rintro e w' ⟨rfl, rfl⟩)
      | (gi_at_call 41; refine (Tryz.slices_Sorted_keys_41_42 r n D (plainElem Tryz.prog 3) _ Hh.out.own (by unfold maxLen; omega) (by omega)).mono ?_; rintro e w' ⟨v, ss, rfl, hS, hrow, hnil, hb⟩))
    go_ret
    have e1 : ss.mergeSort leB = sortedD D := mergeSort_of_perm hS
    have e2 : ss.length = (sortedD D).length := by rw [← e1, List.length_mergeSort]
    have hrow' : _ := hrow
    rw [show (ss.mergeSort fun x y => decide (x ≤ y)) = sortedD D from e1, e2] at hrow'
    exact ⟨⟨v, rfl, own_monoS hrow' (by simp)⟩, ((Ext.refl _).alloc _).trans (Ext.of_below hb (Nat.le_refl _))⟩

theorem none_list (w : World) : Calls Tryz.prog 31 #[.pointer none] w fun e w' => e = .returned (.slice none 0 0) ∧ w' = w := by
  go_enter Tryz.func31, Tryz.ntmps31
  go_wp2_with (go_at_call 40; refine (none_len _).mono ?_; rintro e w1 ⟨rfl, rfl⟩)
  go_ret
  exact ⟨rfl, rfl⟩

end Go.Proofs.YtbfggmeppakcgaaGreat
