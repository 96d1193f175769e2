/- Contracts on lists of texts: is one in a list; are two lists alike. -/
import Derived.Test.YtnbnhchgkbbiiaaProg
import Derived.Test.YtnbnhchgkbbiiaaStr
import Derived.WalkSpells
import Derived.WalkLawsBesides
import Derived.Deep.QuietTactic
import Derived.BigQuiet
namespace Go.Proofs.Ytnbnhchgkbbiiaa
open Go.RowKit Go.Sort

set_option maxHeartbeats 1000000 in
theorem ref_has (A : Option Addr) (cap : Nat) (l : List Str) (x : Str) (w : World) (h : Strs w A l) (hle : l.length ≤ 9223372036854775807) :
    Calls Try.prog 36 #[.slice A l.length cap, encStr x] w fun e w' => e = .returned (.bool (l.any (· == x))) ∧ w' = w := by
  have Hany : Hid (∀ j, j < l.length → (l.getD j [] == x) = true → l.any (· == x) = true) := hide (by
    intro j hj hb
    rw [List.any_eq_true]
    exact ⟨l.getD j [], by simp [hj], hb⟩)
  have Hnone : Hid ((∀ j, j < l.length → (l.getD j [] == x) = false) → l.any (· == x) = false) := hide (by
    intro hall
    rw [List.any_eq_false]
    intro s hs
    obtain ⟨j, hj, rfl⟩ := List.getElem_of_mem hs
    have := hall j hj
    simpa [hj] using this)
  have Hr := hide h
  clear h
  generalize l.any (· == x) = R at *
  go_enter Try.func36, Try.ntmps36
  go_wp2
  go_loop [5] (fun i => ∃ j : Nat, j ≤ l.length ∧ i = .int .i64 j ∧ Hid (∀ i, i < j → (l.getD i [] == x) = false)) (fun i => l.length - (intOf i).toNat)
  case atStart => exact ⟨0, Nat.zero_le _, rfl, hide (fun i hi => absurd hi (by omega))⟩
  case round =>
    obtain ⟨j, hj, rfl, Hj⟩ := hrel
    by_cases hlt : j < l.length
    · obtain ⟨b, o, rfl, hb, hc⟩ := Hr.out.at_ hlt
      have hlt' : (j : Int) < (l.length : Int) := by omega
      generalize hy : l.getD j [] = y at hc
      have Hy := hide hy
      clear hy
      cases hs : (y == x)
      · go_wp2
        go_round
        case rel =>
          refine ⟨j + 1, hlt, by go_num, hide (fun i hi => ?_)⟩
          by_cases hij : i = j
          · rw [hij, Hy.out]; exact hs
          · exact Hj.out i (by omega)
        case measure => simp [intOf]; omega
      · have hR := Hany.out j hlt (by rw [Hy.out]; exact hs)
        subst hR
        go_wp2
        go_ret
        exact ⟨rfl, rfl⟩
    · have hge : (l.length : Int) ≤ (j : Int) := by omega
      have hR := Hnone.out (fun i hi => Hj.out i (by omega))
      subst hR
      go_wp2
      go_ret
      exact ⟨rfl, rfl⟩

theorem alike_of {l m : List Str} (hlen : l.length = m.length) (h : ∀ i, i < l.length → l.getD i [] = m.getD i []) : l = m := by
  apply List.ext_getElem hlen
  intro i h1 h2
  have := h i h1
  simpa [h1, h2] using this

set_option maxHeartbeats 1000000 in
theorem ref_texts (A B : Option Addr) (cap cap' : Nat) (l m : List Str) (w : World) (h : Strs w A l) (h' : Strs w B m) (hle : l.length ≤ 9223372036854775807) :
    Calls Try.prog 29 #[.slice A l.length cap, .slice B m.length cap'] w fun e w' => e = .returned (.bool (decide (l = m))) ∧ Ext w w' := by
  by_cases hlen : l.length = m.length
  · have Hall : Hid ((∀ j, j < l.length → l.getD j [] = m.getD j []) → decide (l = m) = true) := hide (fun hall => decide_eq_true (alike_of hlen hall))
    have Hne : Hid (∀ j, l.getD j [] ≠ m.getD j [] → decide (l = m) = false) := hide (fun j hj => decide_eq_false (fun e => hj (by rw [e])))
    have Hl := hide h
    have Hm := hide h'
    have Hlen := hide hlen
    clear h h'
    generalize decide (l = m) = R at *
    rw [← hlen]
    clear hlen
    go_enter Try.func29, Try.ntmps29
    go_wp2
    go_loopw [5] (fun i wr => ∃ j : Nat, j ≤ l.length ∧ i = .int .i64 j ∧ Hid (∀ i, i < j → l.getD i [] = m.getD i []) ∧ ∃ n, wr = w.drewN n) (fun i _ => l.length - (intOf i).toNat)
    case atStart => exact ⟨0, Nat.zero_le _, rfl, hide (fun i hi => absurd hi (by omega)), 0, rfl⟩
    case round =>
      obtain ⟨j, hj, rfl, Hj, n, rfl⟩ := hrel
      by_cases hlt : j < l.length
      · obtain ⟨b, o, rfl, hb, hc⟩ := Hl.out.at_ hlt
        obtain ⟨b', o', rfl, hb', hc'⟩ := Hm.out.at_ (by rw [← Hlen.out]; exact hlt)
        have hlt' : (j : Int) < (l.length : Int) := by omega
        have hj0 : (0 : Int) ≤ (j : Int) := by omega
        generalize hy : l.getD j [] = y at hc
        generalize hz : m.getD j [] = z at hc'
        have Hy := hide hy
        have Hz := hide hz
        clear hy hz
        cases hs : (y == z)
        · have hs' : (y != z) = true := by simp [bne, hs]
          have hR := Hne.out j (by rw [Hy.out, Hz.out]; simpa using hs)
          subst hR
          go_wp2
          go_quiet (fail)
          go_wp2
          go_ret
          exact ⟨rfl, (by repeat (first | exact Ext.refl _ | exact Ext.pre (by simp) | exact Ext.alloc (by assumption) _ | refine Ext.alloc ?_ _ |  refine Ext.more ?_ _ _ | refine Ext.drew ?_ | refine Ext.drewN ?_ _))⟩
        · have hs' : (y != z) = false := by simp [bne, hs]
          go_wp2
          go_quiet (fail)
          go_wp2
          go_roundw
          case rel =>
            refine ⟨j + 1, hlt, by go_num, hide (fun i hi => ?_), _, rfl⟩
            by_cases hij : i = j
            · rw [hij, Hy.out, Hz.out]; simpa using hs
            · exact Hj.out i (by omega)
          case measure => simp [intOf]; omega
      · have hge : (l.length : Int) ≤ (j : Int) := by omega
        have hR := Hall.out (fun i hi => Hj.out i (by omega))
        subst hR
        go_wp2
        go_ret
        exact ⟨rfl, (by repeat (first | exact Ext.refl _ | exact Ext.pre (by simp) | exact Ext.alloc (by assumption) _ | refine Ext.alloc ?_ _ |  refine Ext.more ?_ _ _ | refine Ext.drew ?_ | refine Ext.drewN ?_ _))⟩
  · have hne : ((l.length : Int) != (m.length : Int)) = true := by rw [bne_iff_ne]; omega
    have hR : decide (l = m) = false := decide_eq_false (fun e => hlen (by rw [e]))
    rw [hR]
    clear h h' hR
    go_enter Try.func29, Try.ntmps29
    go_wp2
    go_ret
    exact ⟨rfl, (by repeat (first | exact Ext.refl _ | exact Ext.pre (by simp) | exact Ext.alloc (by assumption) _ | refine Ext.alloc ?_ _ |  refine Ext.more ?_ _ _ | refine Ext.drew ?_ | refine Ext.drewN ?_ _))⟩

end Go.Proofs.Ytnbnhchgkbbiiaa
