/- The reference's sets: sorted lists. Finding a place. -/
import Derived.Test.YtnegamkakdbhfaaStrP
import Derived.WalkSpells
import Derived.WalkLawsBesides
import Derived.Deep.QuietTactic
import Derived.BigQuiet
namespace Go.Proofs.Ytnegamkakdbhfaa
open Go.RowKit Go.Sort

def lessB (a b : Str) : Bool := Op.bytesLess a b
/-- How many texts stand ahead of `x`. -/
def findN (l : List Str) (x : Str) : Nat := (l.takeWhile (lessB · x)).length
def findB (l : List Str) (x : Str) : Bool := decide (findN l x < l.length) && (l.getD (findN l x) [] == x)

theorem findN_le (l : List Str) (x : Str) : findN l x ≤ l.length := (List.takeWhile_sublist _).length_le
theorem findN_at : ∀ (l : List Str) (x : Str) (k : Nat), k ≤ l.length → (∀ i, i < k → lessB (l.getD i []) x = true) → (k < l.length → lessB (l.getD k []) x = false) → findN l x = k
  | [], x, k, hk, _, _ => by simp at hk; subst hk; rfl
  | y :: l, x, 0, _, _, h => by
    have : lessB y x = false := by simpa using h (by simp)
    simp [findN, this]
  | y :: l, x, k + 1, hk, h1, h2 => by
    have h0 : lessB y x = true := by simpa using h1 0 (by omega)
    have := findN_at l x k (by simpa using hk) (fun i hi => by simpa using h1 (i + 1) (by omega)) (fun hl => by simpa using h2 (by simpa using hl))
    unfold findN at this ⊢
    simp [h0, this]

set_option maxHeartbeats 1000000 in
theorem ref_find (A : Option Addr) (cap : Nat) (l : List Str) (x : Str) (w : World) (h : Strs w A l) (hle : l.length ≤ 9223372036854775807) :
    Calls Try.prog 86 #[.slice A l.length cap, encStr x] w fun e w' => e = .returned (.tuple #[.int .i64 (findN l x), .bool (findB l x)]) ∧ Ext w w' := by
  have Hr := hide h
  have Hat := hide (findN_at l x)
  have HB : Hid (findB l x = (decide (findN l x < l.length) && (l.getD (findN l x) [] == x))) := hide rfl
  clear h
  generalize findB l x = B at *
  generalize findN l x = N at *
  go_enter Try.func86, Try.ntmps86
  go_wp2
  go_loop [6] (fun i => ∃ j : Nat, j ≤ l.length ∧ i = .int .i64 j ∧ Hid (∀ i, i < j → lessB (l.getD i []) x = true)) (fun i => l.length - (intOf i).toNat)
  case atStart => exact ⟨0, Nat.zero_le _, rfl, hide (fun i hi => absurd hi (by omega))⟩
  case round =>
    obtain ⟨j, hj, rfl, Hj⟩ := hrel
    by_cases hlt : j < l.length
    · obtain ⟨b, o, rfl, hb, hc⟩ := Hr.out.at_ hlt
      have hlt' : (j : Int) < (l.length : Int) := by omega
      have hj0 : (0 : Int) ≤ (j : Int) := by omega
      generalize hy : l.getD j [] = y at hc
      have Hy := hide hy
      clear hy
      cases hs : (Op.bytesLess y x)
      · have hN := Hat.out j hj Hj.out (fun _ => by rw [Hy.out]; exact hs)
        subst hN
        cases he : (y == x)
        · have hB : B = false := by rw [HB.out, Hy.out]; simp only [hlt, he]; rfl
          subst hB
          go_wp2
          go_quiet (fail)
          go_wp2
          go_ret2
          exact ⟨rfl, (by repeat (first | exact Ext.refl _ | exact Ext.pre (by simp) | exact Ext.alloc (by assumption) _ | refine Ext.alloc ?_ _ |  refine Ext.more ?_ _ _ | refine Ext.drew ?_ | refine Ext.drewN ?_ _))⟩
        · have hB : B = true := by rw [HB.out, Hy.out]; simp only [hlt, he]; rfl
          subst hB
          go_wp2
          go_quiet (fail)
          go_wp2
          go_ret2
          exact ⟨rfl, (by repeat (first | exact Ext.refl _ | exact Ext.pre (by simp) | exact Ext.alloc (by assumption) _ | refine Ext.alloc ?_ _ |  refine Ext.more ?_ _ _ | refine Ext.drew ?_ | refine Ext.drewN ?_ _))⟩
      · go_wp2
        go_round
        case rel =>
          refine ⟨j + 1, hlt, by go_num, hide (fun i hi => ?_)⟩
          by_cases hij : i = j
          · rw [hij, Hy.out]; exact hs
          · exact Hj.out i (by omega)
        case measure => simp [intOf]; omega
    · have hge : (l.length : Int) ≤ (j : Int) := by omega
      have hd : decide ((j : Int) < (l.length : Int)) = false := by simp; omega
      have hN := Hat.out j hj Hj.out (fun hh => absurd hh hlt)
      subst hN
      have hB : B = false := by rw [HB.out]; simp [hlt]
      subst hB
      go_wp2
      go_quiet (fail)
      go_wp2
      go_ret2
      exact ⟨rfl, (by repeat (first | exact Ext.refl _ | exact Ext.pre (by simp) | exact Ext.alloc (by assumption) _ | refine Ext.alloc ?_ _ |  refine Ext.more ?_ _ _ | refine Ext.drew ?_ | refine Ext.drewN ?_ _))⟩

end Go.Proofs.Ytnegamkakdbhfaa
