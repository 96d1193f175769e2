/- Contracts on looking for a text in a row. -/
import Derived.Test.YtbfggmeppakcgaaGreatJA2
import Derived.Test.YtbfggmeppakcgaaGreatProg
import Derived.WalkSpells
import Derived.WalkLawsBesides
import Derived.Deep.QuietTactic
import Derived.BigQuiet
/- Contracts on looking for a text in a row. -/
namespace Go.Proofs.YtbfggmeppakcgaaGreat
open Go.RowKit

/-- Where a thing stands first; -1: nowhere. -/
def idxI {α : Type} [BEq α] (l : List α) (x : α) : Int := if l.any (· == x) then (l.findIdx (· == x) : Nat) else -1
section
variable {α : Type} [BEq α] (l : List α) (x d : α)
theorem idxI_at {k : Nat} (hk : k < l.length) (h : ∀ j, j < k → (l.getD j d == x) = false) (hx : (l.getD k d == x) = true) : idxI l x = k := by
  have h1 : l.any (· == x) = true := List.any_eq_true.2 ⟨l.getD k d, by simp [hk], hx⟩
  unfold idxI
  rw [if_pos h1]
  congr 1
  have h2 : l.findIdx (· == x) ≤ k := by
    rcases Nat.lt_or_ge k (l.findIdx (· == x)) with h3 | h3
    · have := List.not_of_lt_findIdx h3
      simp [hk] at hx
      simp [hx] at this
    · exact h3
  rcases Nat.lt_or_ge (l.findIdx (· == x)) k with h3 | h3
  · have h4 := h _ h3
    have h5 : l.findIdx (· == x) < l.length := by omega
    have h6 := List.findIdx_getElem (w := h5)
    simp [h5] at h4
    simp [h4] at h6
  · omega
theorem idxI_no (h : ∀ j, j < l.length → (l.getD j d == x) = false) : idxI l x = -1 := by
  unfold idxI
  rw [if_neg]
  intro h1
  obtain ⟨y, hy, e⟩ := List.any_eq_true.1 h1
  obtain ⟨j, hj, rfl⟩ := List.getElem_of_mem hy
  have := h j hj
  simp [hj, e] at this
theorem idxI_ge : decide ((0 : Int) ≤ idxI l x) = l.any (· == x) := by
  unfold idxI
  split
  · rename_i h; simp [h]
  · rename_i h; simp only [Bool.not_eq_true] at h; rw [h]; decide
theorem idxI_lt : idxI l x < (l.length : Int) := by
  unfold idxI
  split
  · rename_i h
    obtain ⟨y, hy, e⟩ := List.any_eq_true.1 h
    have := List.findIdx_lt_length_of_exists (xs := l) (p := (· == x)) ⟨y, hy, e⟩
    omega
  · omega
theorem idxI_lo : -1 ≤ idxI l x := by
  unfold idxI
  split <;> omega
end

set_option maxHeartbeats 1000000 in
theorem index_s (A : Option Addr) (cap : Nat) (l : List Str) (x : Str) (w : World) (h : Strs w A l) (hle : l.length ≤ 9223372036854775807) :
    Calls Tryz.prog 28 #[.slice A l.length cap, encStr x] w fun e w' => e = .returned (.int .i64 (idxI l x)) ∧ w' = w := by
  have Hat := hide (fun k => @idxI_at _ _ l x [] k)
  have Hno := hide (idxI_no l x [])
  have Hr := hide h
  clear h
  generalize idxI l x = R at *
  go_enter Tryz.func28, Tryz.ntmps28
  go_wp2
  go_loop [8] (fun i => ∃ j : Nat, j ≤ l.length ∧ i = .int .i64 j ∧ Hid (∀ i, i < j → (l.getD i [] == x) = false)) (fun i => l.length - (intOf i).toNat)
  case atStart => exact ⟨0, Nat.zero_le _, rfl, hide (fun i hi => absurd hi (by omega))⟩
  case round =>
    obtain ⟨j, hj, rfl, Hj⟩ := hrel
    by_cases hlt : j < l.length
    · obtain ⟨b, o, rfl, hb, hc⟩ := Hr.out.at_ hlt
      have hlt' : (j : Int) < (l.length : Int) := by omega
      generalize hy : l.getD j [] = y at hc
      have Hy := hide hy
      clear hy
      cases hs : (x == y)
      · go_wp2
        go_round
        case rel =>
          refine ⟨j + 1, hlt, by go_num, hide (fun i hi => ?_)⟩
          by_cases hij : i = j
          · rw [hij, Hy.out]; rw [Bool.eq_false_iff] at hs ⊢; simp at hs ⊢; exact fun e => hs e.symm
          · exact Hj.out i (by omega)
        case measure => simp [intOf]; omega
      · have hR := Hat.out j hlt Hj.out (by rw [Hy.out]; simp at hs ⊢; exact hs.symm)
        subst hR
        go_wp2
        go_ret
        exact ⟨rfl, rfl⟩
    · have hge : (l.length : Int) ≤ (j : Int) := by omega
      have hR := Hno.out (fun i hi => Hj.out i (by omega))
      subst hR
      go_wp2
      go_ret
      exact ⟨rfl, rfl⟩

set_option maxHeartbeats 1000000 in
theorem has_s (A : Option Addr) (cap : Nat) (l : List Str) (x : Str) (w : World) (h : Strs w A l) (hle : l.length ≤ 9223372036854775807) :
    Calls Tryz.prog 19 #[.slice A l.length cap, encStr x] w fun e w' => e = .returned (.bool (l.any (· == x))) ∧ w' = w := by
  have Hi := hide (index_s A cap l x w h hle)
  rw [← idxI_ge]
  clear h
  generalize idxI l x = R at *
  go_enter Tryz.func19, Tryz.ntmps19
  go_wp2_with fail
  refine Hi.out.mono ?_
  rintro e w1 ⟨rfl, rfl⟩
  go_wp2
  go_ret
  exact ⟨rfl, rfl⟩

end Go.Proofs.YtbfggmeppakcgaaGreat
