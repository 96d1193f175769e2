/- The reference's sets: without a text. -/
import Derived.Test.YtnegamkakdbhfaaSetS3
import Derived.IntWalk
namespace Go.Proofs.Ytnegamkakdbhfaa
open Go.RowKit Go.Sort

theorem findB_lt {l : List Str} {x : Str} (h : findB l x = true) : findN l x < l.length := by
  unfold findB at h
  simp at h
  exact h.1

set_option maxRecDepth 10000 in
set_option maxHeartbeats 4000000 in
theorem ref_remove_in (A : Option Addr) (cap : Nat) (l L : List Str) (x : Str) (w : World) (N : Nat) (h : Strs w A l) (hl : l.length ≤ 1000) (hle : l.length ≤ cap) (hcap : cap ≤ 9223372036854775807) (hN : N < l.length)
    (hck : ¬ cap = N + 1) (he : L = l.take N ++ l.drop (N + 1)) (hf : Calls Try.prog 86 #[.slice A l.length cap, encStr x] w fun e w' => e = .returned (.tuple #[.int .i64 N, .bool true]) ∧ Ext w w') :
    Calls Try.prog 62 #[.slice A l.length cap, encStr x] w fun e w' => (∃ A' cap', e = .returned (.tuple #[.slice A' L.length cap', .bool true]) ∧ L.length ≤ cap' ∧ cap' ≤ 9223372036854775807 ∧ Strs w' A' L) ∧ Ext w w' := by
  have hN1 : (N : Int) ≤ (l.length : Int) := by omega
  have hN2 : (N : Int) ≤ (cap : Int) := by omega
  have hN3 : (l.length : Int) ≤ (cap : Int) := by omega
  have hN4 : (N : Int) + 1 ≤ (l.length : Int) := by omega
  have hN5 : N + 1 ≤ l.length := by omega
  have hN6 : N + 1 ≤ cap := by omega
  have Htake := hide (h.takeR (Nat.le_of_lt hN))
  have Hcut := hide (h.cutR hN5 hle hck)
  obtain ⟨i0, hi, hz0, hz1, hz2⟩ := info_parts str_info
  have hlen : L.length + 1 = l.length := by rw [he]; simp; omega
  have Hlen := hide hlen
  have HE := hide he
  have Hf := hide hf
  clear h he hf hlen
  have hs1 : IntKind.i64.wrap ((N : Int) + 1) = (N : Int) + 1 := IntWalk.i64_in _ (by omega)
  have hs2 : (0 : Int) ≤ (N : Int) + 1 := by omega
  have hs3 : ((N : Int) + 1).toNat = N + 1 := by omega
  go_enter Try.func62, Try.ntmps62
  go_wp2_with fail
  refine Hf.out.mono ?_
  rintro e w1 ⟨rfl, l1, d1, rfl⟩
  go_wp2
  go_region_law (first
    | (refine step_append_row _ rfl (.const (.slice none 0 0)) (.tmp 19) 65 rfl w.heap.size 9 i0 _ 1 16 Try.underlying65 hi hz0 hz1 hz2 rfl (by decide) (.slice none 0 0) 0 [] rfl (World.ownsRow_nil _ _ _ _) A N cap ((l.take N).map encStr) rfl (Htake.out.ext (by repeat (first | exact Ext.refl _ | exact Ext.pre (by simp) | exact Ext.alloc (by assumption) _ | refine Ext.alloc ?_ _ |  refine Ext.more ?_ _ _ | refine Ext.drew ?_ | refine Ext.drewN ?_ _))) (one_strs _) (by unfold maxLen; omega) (by omega) (Ext.size (by repeat (first | exact Ext.refl _ | exact Ext.pre (by simp) | exact Ext.alloc (by assumption) _ | refine Ext.alloc ?_ _ |  refine Ext.more ?_ _ _ | refine Ext.drew ?_ | refine Ext.drewN ?_ _))) ?_
       intro v1 w2 hown1 hg1 hat1
       have He1 := hide (Ext.app (by repeat (first | exact Ext.refl _ | exact Ext.pre (by simp) | exact Ext.alloc (by assumption) _ | refine Ext.alloc ?_ _ |  refine Ext.more ?_ _ _ | refine Ext.drew ?_ | refine Ext.drewN ?_ _)) hg1 (World.ownsRow_nil _ w.heap.size 9 1) (Nat.le_refl _))
       rw [Nat.zero_add, List.nil_append] at hown1
       have Hown1 := hide hown1
       clear hown1 hg1 hat1)
    | (refine step_append_row _ rfl (.tmp 20) (.tmp 24) 65 rfl w.heap.size 9 i0 _ 1 16 Try.underlying65 hi hz0 hz1 hz2 rfl (by decide) v1 N ((l.take N).map encStr) rfl Hown1.out (A.map (·.add (N + 1))) (l.length - (N + 1)) (cap - (N + 1)) ((l.drop (N + 1)).map encStr) rfl (Hcut.out.ext He1.out) (one_strs _) (by unfold maxLen; omega) (by omega) (Ext.size He1.out) ?_
       intro v3 w4 hown3 hg3 hat3
       have He3 := hide (Ext.app He1.out hg3 Hown1.out (Nat.le_refl _))
       have Hown3 := hide hown3
       clear hown3 hg3 hat3))
  all_goals
    have h3 := Hown3.out
    rw [show N + (l.length - (N + 1)) = L.length by have := Hlen.out; omega, show List.map encStr (List.take N l) ++ List.map encStr (List.drop (N + 1) l) = L.map encStr by rw [HE.out]; simp] at h3
    obtain ⟨A', cap', rfl, hc1, hc2, hs, _⟩ := Strs.of_own h3
    have Hs := hide hs
    clear h3 hs Hown3
    go_wp2
    exact bodyPost_ret (v := .tuple #[.slice A' L.length cap', .bool true]) (by simp [results, Try.results62, go_sem]) rfl ⟨⟨A', cap', rfl, hc1, hc2, Hs.out⟩, He3.out⟩

set_option maxRecDepth 10000 in
set_option maxHeartbeats 4000000 in
theorem ref_remove_end (A : Option Addr) (cap : Nat) (l L : List Str) (x : Str) (w : World) (N : Nat) (h : Strs w A l) (hl : l.length ≤ 1000) (hle : l.length ≤ cap) (hN : N < l.length)
    (hck : cap = N + 1) (he : L = l.take N ++ l.drop (N + 1)) (hf : Calls Try.prog 86 #[.slice A l.length cap, encStr x] w fun e w' => e = .returned (.tuple #[.int .i64 N, .bool true]) ∧ Ext w w') :
    Calls Try.prog 62 #[.slice A l.length cap, encStr x] w fun e w' => (∃ A' cap', e = .returned (.tuple #[.slice A' L.length cap', .bool true]) ∧ L.length ≤ cap' ∧ cap' ≤ 9223372036854775807 ∧ Strs w' A' L) ∧ Ext w w' := by
  have hN1 : (N : Int) ≤ (l.length : Int) := by omega
  have hN2 : (N : Int) ≤ (cap : Int) := by omega
  have hN3 : (l.length : Int) ≤ (cap : Int) := by omega
  have hN4 : (N : Int) + 1 ≤ (l.length : Int) := by omega
  have hN5 : N + 1 ≤ l.length := by omega
  have hN6 : N + 1 ≤ cap := by omega
  have Htake := hide (h.takeR (Nat.le_of_lt hN))
  obtain ⟨i0, hi, hz0, hz1, hz2⟩ := info_parts str_info
  have hlen : L.length + 1 = l.length := by rw [he]; simp; omega
  have Hlen := hide hlen
  have HE := hide he
  have Hf := hide hf
  have hlN : l.length = N + 1 := by omega
  have hd : l.drop (N + 1) = [] := List.drop_eq_nil_of_le (by omega)
  have HD := hide hd
  rw [hlN, hck] at Hf
  rw [hlN, hck]
  rw [hlN] at Hlen
  clear h he hf hlen hd hle hck hlN hN5 hN6 hN1 hN2 hN3 hN4
  have hN4 : (N : Int) + 1 ≤ 9223372036854775807 := by omega
  have hN1 : (N : Int) ≤ (N : Int) + 1 := by omega
  have hs1 : IntKind.i64.wrap ((N : Int) + 1) = (N : Int) + 1 := IntWalk.i64_in _ (by omega)
  have hs2 : (0 : Int) ≤ (N : Int) + 1 := by omega
  have hs3 : ((N : Int) + 1).toNat = N + 1 := by omega
  go_enter Try.func62, Try.ntmps62
  go_wp2_with fail
  refine Hf.out.mono ?_
  rintro e w1 ⟨rfl, l1, d1, rfl⟩
  go_wp2
  go_region_law (first
    | (refine step_append_row _ rfl (.const (.slice none 0 0)) (.tmp 19) 65 rfl w.heap.size 9 i0 _ 1 16 Try.underlying65 hi hz0 hz1 hz2 rfl (by decide) (.slice none 0 0) 0 [] rfl (World.ownsRow_nil _ _ _ _) A N (N + 1) ((l.take N).map encStr) rfl (Htake.out.ext (by repeat (first | exact Ext.refl _ | exact Ext.pre (by simp) | exact Ext.alloc (by assumption) _ | refine Ext.alloc ?_ _ |  refine Ext.more ?_ _ _ | refine Ext.drew ?_ | refine Ext.drewN ?_ _))) (one_strs _) (by unfold maxLen; omega) (by omega) (Ext.size (by repeat (first | exact Ext.refl _ | exact Ext.pre (by simp) | exact Ext.alloc (by assumption) _ | refine Ext.alloc ?_ _ |  refine Ext.more ?_ _ _ | refine Ext.drew ?_ | refine Ext.drewN ?_ _))) ?_
       intro v1 w2 hown1 hg1 hat1
       have He1 := hide (Ext.app (by repeat (first | exact Ext.refl _ | exact Ext.pre (by simp) | exact Ext.alloc (by assumption) _ | refine Ext.alloc ?_ _ |  refine Ext.more ?_ _ _ | refine Ext.drew ?_ | refine Ext.drewN ?_ _)) hg1 (World.ownsRow_nil _ w.heap.size 9 1) (Nat.le_refl _))
       rw [Nat.zero_add, List.nil_append] at hown1
       have Hown1 := hide hown1
       clear hown1 hg1 hat1)
    | (refine step_append_row _ rfl (.tmp 20) (.tmp 24) 65 rfl w.heap.size 9 i0 _ 1 16 Try.underlying65 hi hz0 hz1 hz2 rfl (by decide) v1 N ((l.take N).map encStr) rfl Hown1.out A 0 0 [] rfl (Row.nil A 1) (by simp) (by unfold maxLen; omega) (by omega) (Ext.size He1.out) ?_
       intro v3 w4 hown3 hg3 hat3
       have He3 := hide (Ext.app He1.out hg3 Hown1.out (Nat.le_refl _))
       have Hown3 := hide hown3
       clear hown3 hg3 hat3))
  all_goals
    have h3 := Hown3.out
    rw [show N + 0 = L.length by have := Hlen.out; omega, show List.map encStr (List.take N l) ++ [] = L.map encStr by rw [HE.out, HD.out]; simp] at h3
    obtain ⟨A', cap', rfl, hc1, hc2, hs, _⟩ := Strs.of_own h3
    have Hs := hide hs
    clear h3 hs Hown3
    go_wp2
    exact bodyPost_ret (v := .tuple #[.slice A' L.length cap', .bool true]) (by simp [results, Try.results62, go_sem]) rfl ⟨⟨A', cap', rfl, hc1, hc2, Hs.out⟩, He3.out⟩

set_option maxRecDepth 10000 in
set_option maxHeartbeats 10000000 in
theorem ref_remove (A : Option Addr) (cap : Nat) (l : List Str) (x : Str) (w : World) (h : Strs w A l) (hl : l.length ≤ 1000) (hle : l.length ≤ cap) (hcap : cap ≤ 9223372036854775807) :
    Calls Try.prog 62 #[.slice A l.length cap, encStr x] w fun e w' => (∃ A' cap', e = .returned (.tuple #[.slice A' (remL l x).length cap', .bool (findB l x)]) ∧ (remL l x).length ≤ cap' ∧ cap' ≤ 9223372036854775807 ∧ Strs w' A' (remL l x)) ∧ Ext w w' := by
  have Hf := hide (ref_find A cap l x w h (by omega))
  cases hB : findB l x
  · have he : remL l x = l := by simp [remL, hB]
    rw [hB] at Hf
    rw [he]
    have Hr := hide h
    clear he h hB
    generalize findN l x = N at *
    go_enter Try.func62, Try.ntmps62
    go_wp2_with fail
    refine Hf.out.mono ?_
    rintro e w1 ⟨rfl, l1, d1, rfl⟩
    go_wp2
    exact bodyPost_ret (v := .tuple #[.slice A l.length cap, .bool false]) (by simp [results, Try.results62, go_sem]) rfl ⟨⟨A, cap, rfl, hle, hcap, Hr.out.ext (by repeat (first | exact Ext.refl _ | exact Ext.pre (by simp) | exact Ext.alloc (by assumption) _ | refine Ext.alloc ?_ _ |  refine Ext.more ?_ _ _ | refine Ext.drew ?_ | refine Ext.drewN ?_ _))⟩, (by repeat (first | exact Ext.refl _ | exact Ext.pre (by simp) | exact Ext.alloc (by assumption) _ | refine Ext.alloc ?_ _ |  refine Ext.more ?_ _ _ | refine Ext.drew ?_ | refine Ext.drewN ?_ _))⟩
  · have hN := findB_lt hB
    have he : remL l x = l.take (findN l x) ++ l.drop (findN l x + 1) := by simp [remL, hB]
    have hf := Hf.out
    rw [hB] at hf
    by_cases hck : cap = findN l x + 1
    · exact ref_remove_end A cap l _ x w _ h hl hle hN hck he hf
    · exact ref_remove_in A cap l _ x w _ h hl hle hcap hN hck he hf

end Go.Proofs.Ytnegamkakdbhfaa
