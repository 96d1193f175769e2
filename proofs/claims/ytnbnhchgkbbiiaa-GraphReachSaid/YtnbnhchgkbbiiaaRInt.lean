/- Contract: rows of numbers alike. -/
import Derived.Test.YtnbnhchgkbbiiaaSeek
import Derived.WalkSpells
import Derived.WalkLawsBesides
import Derived.Deep.QuietTactic
import Derived.BigQuiet
namespace Go.Proofs.Ytnbnhchgkbbiiaa
open Go.RowKit

theorem alike_ofI {l m : List Int} (hlen : l.length = m.length) (h : ∀ i, i < l.length → l.getD i 0 = m.getD i 0) : l = m := by
  apply List.ext_getElem hlen
  intro i h1 h2
  have := h i h1
  simpa [h1, h2] using this

set_option maxHeartbeats 1000000 in
theorem ref_ints (A B : Option Addr) (cap cap' : Nat) (l m : List Int) (w : World) (h : Ints w A l) (h' : Ints w B m) (hle : l.length ≤ 9223372036854775807) :
    Calls Try.prog 19 #[.slice A l.length cap, .slice B m.length cap'] w fun e w' => e = .returned (.bool (decide (l = m))) ∧ Ext w w' := by
  by_cases hlen : l.length = m.length
  · have Hall : Hid ((∀ j, j < l.length → l.getD j 0 = m.getD j 0) → decide (l = m) = true) := hide (fun hall => decide_eq_true (alike_ofI hlen hall))
    have Hne : Hid (∀ j, l.getD j 0 ≠ m.getD j 0 → decide (l = m) = false) := hide (fun j hj => decide_eq_false (fun e => hj (by rw [e])))
    have Hl := hide h
    have Hm := hide h'
    have Hlen := hide hlen
    clear h h'
    generalize decide (l = m) = R at *
    rw [← hlen]
    clear hlen
    go_enter Try.func19, Try.ntmps19
    go_wp2
    go_loopw [5] (fun i wr => ∃ j : Nat, j ≤ l.length ∧ i = .int .i64 j ∧ Hid (∀ i, i < j → l.getD i 0 = m.getD i 0) ∧ ∃ n, wr = w.drewN n) (fun i _ => l.length - (intOf i).toNat)
    case atStart => exact ⟨0, Nat.zero_le _, rfl, hide (fun i hi => absurd hi (by omega)), 0, rfl⟩
    case round =>
      obtain ⟨j, hj, rfl, Hj, n, rfl⟩ := hrel
      by_cases hlt : j < l.length
      · obtain ⟨b, o, rfl, hb, hc⟩ := Hl.out.at_ hlt
        obtain ⟨b', o', rfl, hb', hc'⟩ := Hm.out.at_ (by rw [← Hlen.out]; exact hlt)
        have hlt' : (j : Int) < (l.length : Int) := by omega
        have hj0 : (0 : Int) ≤ (j : Int) := by omega
        have Hy : Hid (l.getD j 0 = l[j]'hlt) := hide (by simp [hlt])
        have hltm : j < m.length := by rw [← Hlen.out]; exact hlt
        have Hz : Hid (m.getD j 0 = m[j]'hltm) := hide (by simp [hltm])
        generalize l[j]'hlt = y at *
        generalize m[j]'_ = z at *
        cases hs : (y != z)
        · go_wp2
          go_quiet (fail)
          go_wp2
          go_roundw
          case rel =>
            refine ⟨j + 1, hlt, by go_num, hide (fun i hi => ?_), _, rfl⟩
            by_cases hij : i = j
            · subst hij; rw [Hy.out, Hz.out]; simpa using hs
            · exact Hj.out i (by omega)
          case measure => simp [intOf]; omega
        · have hR := Hne.out j (by rw [Hy.out, Hz.out]; simpa using hs)
          subst hR
          go_wp2
          go_quiet (fail)
          go_wp2
          go_ret
          exact ⟨rfl, (by repeat (first | exact Ext.refl _ | exact Ext.pre (by simp) | exact Ext.alloc (by assumption) _ | refine Ext.alloc ?_ _ |  refine Ext.more ?_ _ _ | refine Ext.drew ?_ | refine Ext.drewN ?_ _))⟩
      · have hge : (l.length : Int) ≤ (j : Int) := by omega
        have hR := Hall.out (fun i hi => Hj.out i (by omega))
        subst hR
        go_wp2
        go_ret
        exact ⟨rfl, (by repeat (first | exact Ext.refl _ | exact Ext.pre (by simp) | exact Ext.alloc (by assumption) _ | refine Ext.alloc ?_ _ |  refine Ext.more ?_ _ _ | refine Ext.drew ?_ | refine Ext.drewN ?_ _))⟩
  · have hne : ((l.length : Int) != (m.length : Int)) = true := by rw [bne_iff_ne]; omega
    have hR : decide (l = m) = false := decide_eq_false (fun e => hlen (by rw [e]))
    rw [hR]
    clear h h' hR
    go_enter Try.func19, Try.ntmps19
    go_wp2
    go_ret
    exact ⟨rfl, (by repeat (first | exact Ext.refl _ | exact Ext.pre (by simp) | exact Ext.alloc (by assumption) _ | refine Ext.alloc ?_ _ |  refine Ext.more ?_ _ _ | refine Ext.drew ?_ | refine Ext.drewN ?_ _))⟩

end Go.Proofs.Ytnbnhchgkbbiiaa
