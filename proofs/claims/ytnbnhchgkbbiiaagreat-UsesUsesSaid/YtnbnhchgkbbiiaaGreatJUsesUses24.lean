/- The reference's sets: with a text. -/
import Derived.Test.YtnbnhchgkbbiiaaGreatJUsesUses23
/- The reference's sets: with a text. -/
namespace Go.Proofs.YtnbnhchgkbbiiaaGreat
open Go.RowKit Go.Sort

set_option maxRecDepth 10000 in
set_option maxHeartbeats 4000000 in
theorem ref_add (A : Option Addr) (cap : Nat) (l : List Str) (x : Str) (w : World) (h : Strs w A l) (hl : l.length ≤ 100000) (hle : l.length ≤ cap) (hcap : cap ≤ 9223372036854775807) :
    Calls Tryz.prog 45 #[.slice A l.length cap, encStr x] w fun e w' => (∃ A' cap', e = .returned (.tuple #[.slice A' (addL l x).length cap', .bool (!findB l x)]) ∧ (addL l x).length ≤ cap' ∧ cap' ≤ 9223372036854775807 ∧ Strs w' A' (addL l x)) ∧ Ext w w' := by
  have Hf := hide (ref_find A cap l x w h (by omega))
  have hN := findN_le l x
  cases hB : findB l x
  · have he : addL l x = l.take (findN l x) ++ [x] ++ l.drop (findN l x) := by simp [addL, hB]
    have hf := Hf.out
    rw [hB] at hf
    clear Hf
    by_cases hck : cap = findN l x
    · exact ref_add_end A cap l _ x w _ h hl hcap (by omega) (by omega) (by rw [he, List.take_of_length_le (by omega), List.drop_eq_nil_of_le (by omega)]; simp) hf
    · exact ref_add_in A cap l _ x w _ h hl hle hcap hN hck he hf
  · have he : addL l x = l := by simp [addL, hB]
    rw [hB] at Hf
    rw [he]
    have Hr := hide h
    clear he h hB
    generalize findN l x = N at *
    have hN3 : (l.length : Int) ≤ (cap : Int) := by omega
    go_enter Tryz.func45, Tryz.ntmps45
    go_wp2_with fail
    refine Hf.out.mono ?_
    rintro e w1 ⟨rfl, l1, d1, rfl⟩
    go_wp2
    exact bodyPost_ret (v := .tuple #[.slice A l.length cap, .bool false]) (by simp [results, Tryz.results45, go_sem]) rfl ⟨⟨A, cap, rfl, hle, hcap, Hr.out.ext (by repeat (first | exact Ext.refl _ | exact Ext.pre (by simp) | exact Ext.alloc (by assumption) _ | refine Ext.alloc ?_ _ |  refine Ext.more ?_ _ _ | refine Ext.drew ?_ | refine Ext.drewN ?_ _))⟩, (by repeat (first | exact Ext.refl _ | exact Ext.pre (by simp) | exact Ext.alloc (by assumption) _ | refine Ext.alloc ?_ _ |  refine Ext.more ?_ _ _ | refine Ext.drew ?_ | refine Ext.drewN ?_ _))⟩

end Go.Proofs.YtnbnhchgkbbiiaaGreat
