/- The reference's sets: with a text, at the very end. -/
import Derived.Test.YtnegamkakdbhfaaSetS
namespace Go.Proofs.Ytnegamkakdbhfaa
open Go.RowKit Go.Sort

set_option maxRecDepth 10000 in
set_option maxHeartbeats 4000000 in
theorem ref_add_end (A : Option Addr) (cap : Nat) (l L : List Str) (x : Str) (w : World) (N : Nat) (h : Strs w A l) (hl : l.length ≤ 1000) (hcap : cap ≤ 9223372036854775807) (hN : N = l.length)
    (hck : cap = l.length) (he : L = l ++ [x]) (hf : Calls Try.prog 86 #[.slice A l.length cap, encStr x] w fun e w' => e = .returned (.tuple #[.int .i64 N, .bool false]) ∧ Ext w w') :
    Calls Try.prog 60 #[.slice A l.length cap, encStr x] w fun e w' => (∃ A' cap', e = .returned (.tuple #[.slice A' L.length cap', .bool true]) ∧ L.length ≤ cap' ∧ cap' ≤ 9223372036854775807 ∧ Strs w' A' L) ∧ Ext w w' := by
  subst hN
  subst hck
  have hlen : L.length = l.length + 1 := by rw [he]; simp
  have Hlen := hide hlen
  obtain ⟨i0, hi, hz0, hz1, hz2⟩ := info_parts str_info
  have HE := hide he
  have Hf := hide hf
  have Htake : Hid (Row w A 1 l.length (l.map encStr)) := hide h
  clear h he hf hlen
  generalize l.length = M at *
  go_enter Try.func60, Try.ntmps60
  go_wp2_with fail
  refine Hf.out.mono ?_
  rintro e w1 ⟨rfl, l1, d1, rfl⟩
  go_wp2
  go_region_law (first
    | (refine step_append_row _ rfl (.const (.slice none 0 0)) (.tmp 18) 65 rfl w.heap.size 9 i0 _ 1 16 Try.underlying65 hi hz0 hz1 hz2 rfl (by decide) (.slice none 0 0) 0 [] rfl (World.ownsRow_nil _ _ _ _) A M M (l.map encStr) rfl (Htake.out.ext (by repeat (first | exact Ext.refl _ | exact Ext.pre (by simp) | exact Ext.alloc (by assumption) _ | refine Ext.alloc ?_ _ |  refine Ext.more ?_ _ _ | refine Ext.drew ?_ | refine Ext.drewN ?_ _))) (one_strs _) (by unfold maxLen; omega) (by omega) (Ext.size (by repeat (first | exact Ext.refl _ | exact Ext.pre (by simp) | exact Ext.alloc (by assumption) _ | refine Ext.alloc ?_ _ |  refine Ext.more ?_ _ _ | refine Ext.drew ?_ | refine Ext.drewN ?_ _))) ?_
       intro v1 w2 hown1 hg1 hat1
       have He1 := hide (Ext.app (by repeat (first | exact Ext.refl _ | exact Ext.pre (by simp) | exact Ext.alloc (by assumption) _ | refine Ext.alloc ?_ _ |  refine Ext.more ?_ _ _ | refine Ext.drew ?_ | refine Ext.drewN ?_ _)) hg1 (World.ownsRow_nil _ w.heap.size 9 1) (Nat.le_refl _))
       have Hg1 := hide hg1
       rw [Nat.zero_add, List.nil_append] at hown1
       have Hown1 := hide hown1
       clear hown1 hg1 hat1)
    | (refine step_append_row _ rfl (.tmp 22) (.tmp 25) 65 rfl w.heap.size 9 i0 _ 1 16 Try.underlying65 hi hz0 hz1 hz2 rfl (by decide) v2 (M + 1) (l.map encStr ++ [encStr x]) rfl Hown2.out A 0 0 [] rfl (Row.nil A 1) (by simp) (by unfold maxLen; omega) (by omega) (by have := He2.out.size; omega) ?_
       intro v3 w4 hown3 hg3 hat3
       have He3 := hide (Ext.app He2.out hg3 Hown2.out (Nat.le_refl _))
       have Hown3 := hide hown3
       clear hown3 hg3 hat3)
    | (refine step_append_row _ rfl (.tmp 19) (.tmp 21) 65 rfl w.heap.size 9 i0 _ 1 16 Try.underlying65 hi hz0 hz1 hz2 rfl (by decide) v1 M (l.map encStr) rfl (by first | exact Hown1.out.alloc _ | exact Hown1.out) (some ⟨_, 0, none⟩) 1 1 [encStr x] rfl
         (by first | exact Row.box _ (heap_alloc_new _ _) | exact Row.box _ ((Hg1.out.block _ (by simp) (by simp [Value.ownBlock])).trans (at_new _ _ _ (by simp))))
         (by intro u hu; simp at hu; subst hu; rfl) (by unfold maxLen; omega) (by omega) (Ext.size (by first | exact He1.out.alloc _ | exact He1.out)) ?_
       intro v2 w3 hown2 hg2 hat2
       have He2 := hide (Ext.app (by first | exact He1.out.alloc _ | exact He1.out) hg2 (by first | exact Hown1.out.alloc _ | exact Hown1.out) (Nat.le_refl _))
       have Hown2 := hide hown2
       clear hown2 hg2 hat2))
  all_goals
    have h3 := Hown3.out
    rw [show M + 1 + 0 = L.length by have := Hlen.out; omega, show List.map encStr l ++ [encStr x] ++ [] = L.map encStr by rw [HE.out]; simp] at h3
    obtain ⟨A', cap', rfl, hc1, hc2, hs, _⟩ := Strs.of_own h3
    have Hs := hide hs
    clear h3 hs Hown3
    go_wp2
    exact bodyPost_ret (v := .tuple #[.slice A' L.length cap', .bool true]) (by simp [results, Try.results60, go_sem]) rfl ⟨⟨A', cap', rfl, hc1, hc2, Hs.out⟩, He3.out⟩


end Go.Proofs.Ytnegamkakdbhfaa
