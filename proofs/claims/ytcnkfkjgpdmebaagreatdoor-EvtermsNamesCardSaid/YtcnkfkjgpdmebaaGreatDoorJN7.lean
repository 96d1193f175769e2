/- Contracts on names: bytes, and which texts may be names. -/
import Derived.Test.YtcnkfkjgpdmebaaGreatDoorJN6
import Derived.WalkMore
/- Contracts on names: bytes, and which texts may be names. -/
namespace Go.Proofs.YtcnkfkjgpdmebaaGreatDoor
open Go.RowKit

def smallI (z : Int) : Bool := (decide (z ≥ 97) && decide (z ≤ 122)) || z == 95
def greatI (z : Int) : Bool := decide (z ≥ 65) && decide (z ≤ 90)

theorem n_small (z : Int) (w : World) : Calls Tryz.prog 221 #[.int .u8 z] w fun e w' => e = .returned (.bool (smallI z)) ∧ w' = w := by
  have HR : Hid (smallI z = ((decide (z ≥ 97) && decide (z ≤ 122)) || z == 95)) := hide rfl
  generalize smallI z = R at *
  by_cases h1 : z ≥ 97
  · by_cases h2 : z ≤ 122
    · go_enter Tryz.func221, Tryz.ntmps221
      go_wp2
      go_ret
      exact ⟨by rw [HR.out]; simp [h1, h2], rfl⟩
    · by_cases h3 : z = 95
      · omega
      · go_enter Tryz.func221, Tryz.ntmps221
        go_wp2
        go_ret
        exact ⟨by rw [HR.out]; simp [h2, h3], rfl⟩
  · by_cases h3 : z = 95
    · go_enter Tryz.func221, Tryz.ntmps221
      go_wp2
      go_ret
      exact ⟨by rw [HR.out]; simp [h3]; try omega, rfl⟩
    · go_enter Tryz.func221, Tryz.ntmps221
      go_wp2
      go_ret
      exact ⟨by rw [HR.out]; simp [h3]; try omega, rfl⟩
theorem n_great (z : Int) (w : World) : Calls Tryz.prog 188 #[.int .u8 z] w fun e w' => e = .returned (.bool (greatI z)) ∧ w' = w := by
  have HR : Hid (greatI z = (decide (z ≥ 65) && decide (z ≤ 90))) := hide rfl
  generalize greatI z = R at *
  by_cases h1 : z ≥ 65
  · go_enter Tryz.func188, Tryz.ntmps188
    go_wp2
    go_ret
    exact ⟨by rw [HR.out]; simp [h1], rfl⟩
  · go_enter Tryz.func188, Tryz.ntmps188
    go_wp2
    go_ret
    exact ⟨by rw [HR.out]; simp; omega, rfl⟩
/-- May a name go on with a byte? -/
def onI (z : Int) : Bool := smallI z || greatI z || (decide (48 ≤ z) && decide (z ≤ 57)) || z == 39
def goesB (s : Str) : Bool := s.all fun b => onI (b.toNat : Nat)

@[go_sem] theorem ba_get (s : List UInt8) (k : Nat) (h : k < ByteArray.size ⟨s.toArray⟩) : (({ data := s.toArray } : ByteArray)[k]'h) = s[k]'(by simpa [ByteArray.size] using h) := rfl

set_option maxRecDepth 10000 in
set_option maxHeartbeats 1000000 in
theorem n_goes (s : Str) (w : World) (hl : s.length ≤ 9223372036854775807) : Calls Tryz.prog 189 #[encStr s] w fun e w' => e = .returned (.bool (goesB s)) ∧ w' = w := by
  have HR : Hid ((s.drop 0).all (fun b => onI (b.toNat : Nat)) = goesB s) := hide rfl
  generalize goesB s = R at *
  go_enter Tryz.func189, Tryz.ntmps189
  go_wp2
  go_loop [7] (fun i => ∃ k : Nat, k ≤ s.length ∧ i = .int .i64 k ∧ Hid ((s.drop k).all (fun b => onI (b.toNat : Nat)) = R)) (fun i => s.length - (intOf i).toNat)
  case atStart => exact ⟨0, Nat.zero_le _, rfl, HR⟩
  case round =>
    obtain ⟨k, hk, rfl, HK⟩ := hrel
    by_cases hlt : k < s.length
    · have hlt' : (k : Int) < (s.length : Int) := by omega
      have hk0 : (0 : Int) ≤ (k : Int) := by omega
      have Hb : Hid (s.drop k = s[k]'hlt :: s.drop (k + 1)) := hide (List.drop_eq_getElem_cons hlt)
      have hb : s[k]'hlt = s[k]'hlt := rfl
      generalize hb2 : s[k]'hlt = b at *
      clear hb
      rw [Hb.out, List.all_cons] at HK
      have hz0 : (0 : Int) ≤ ((b.toNat : Nat) : Int) := by omega
      have HN := hide (fun w' => n_small (b.toNat : Nat) w')
      have HG := hide (fun w' => n_great (b.toNat : Nat) w')
      have HO : Hid (onI (b.toNat : Nat) = (smallI (b.toNat : Nat) || greatI (b.toNat : Nat) || (decide (48 ≤ ((b.toNat : Nat) : Int)) && decide (((b.toNat : Nat) : Int) ≤ 57)) || ((b.toNat : Nat) : Int) == 39)) := hide rfl
      generalize smallI (b.toNat : Nat) = B1 at *
      generalize greatI (b.toNat : Nat) = B2 at *
      generalize onI (b.toNat : Nat) = B3 at *
      cases B1
      · cases B2
        · by_cases h48 : ((b.toNat : Nat) : Int) < 48
          · by_cases h39 : ((b.toNat : Nat) : Int) = 39
            · have hB : B3 = true := by rw [HO.out]; simp [h39]
              have hq : (((b.toNat : Nat) : Int) != 39) = false := by simp [h39]
              clear h39
              rw [hB] at HK
              go_wp2_with fail
              refine (HN.out _).mono ?_
              rintro e w1 ⟨rfl, rfl⟩
              go_wp2_with fail
              refine (HG.out _).mono ?_
              rintro e w1 ⟨rfl, rfl⟩
              go_wp2
              go_round
              case rel => exact ⟨k + 1, hlt, by go_num, hide (by simpa using HK.out)⟩
              case measure => simp [intOf]; omega
            · have hB : B3 = false := by rw [HO.out]; simp [h39]; omega
              rw [hB] at HK
              have hG : R = false := by have := HK.out; simpa using this.symm
              clear HK HR
              subst hG
              go_wp2_with fail
              refine (HN.out _).mono ?_
              rintro e w1 ⟨rfl, rfl⟩
              go_wp2_with fail
              refine (HG.out _).mono ?_
              rintro e w1 ⟨rfl, rfl⟩
              go_wp2
              go_ret
              exact ⟨rfl, rfl⟩
          · by_cases h57 : ((b.toNat : Nat) : Int) > 57
            · have h39 : ¬ ((b.toNat : Nat) : Int) = 39 := by omega
              have hB : B3 = false := by rw [HO.out]; simp [h39]; omega
              rw [hB] at HK
              have hG : R = false := by have := HK.out; simpa using this.symm
              clear HK HR
              subst hG
              go_wp2_with fail
              refine (HN.out _).mono ?_
              rintro e w1 ⟨rfl, rfl⟩
              go_wp2_with fail
              refine (HG.out _).mono ?_
              rintro e w1 ⟨rfl, rfl⟩
              go_wp2
              go_ret
              exact ⟨rfl, rfl⟩
            · have hB : B3 = true := by rw [HO.out]; simp; omega
              rw [hB] at HK
              go_wp2_with fail
              refine (HN.out _).mono ?_
              rintro e w1 ⟨rfl, rfl⟩
              go_wp2_with fail
              refine (HG.out _).mono ?_
              rintro e w1 ⟨rfl, rfl⟩
              go_wp2
              go_round
              case rel => exact ⟨k + 1, hlt, by go_num, hide (by simpa using HK.out)⟩
              case measure => simp [intOf]; omega
        · have hB : B3 = true := by rw [HO.out]; rfl
          rw [hB] at HK
          go_wp2_with fail
          refine (HN.out _).mono ?_
          rintro e w1 ⟨rfl, rfl⟩
          go_wp2_with fail
          refine (HG.out _).mono ?_
          rintro e w1 ⟨rfl, rfl⟩
          go_wp2
          go_round
          case rel => exact ⟨k + 1, hlt, by go_num, hide (by simpa using HK.out)⟩
          case measure => simp [intOf]; omega
      · have hB : B3 = true := by rw [HO.out]; simp
        rw [hB] at HK
        go_wp2_with fail
        refine (HN.out _).mono ?_
        rintro e w1 ⟨rfl, rfl⟩
        go_wp2
        go_round
        case rel => exact ⟨k + 1, hlt, by go_num, hide (by simpa using HK.out)⟩
        case measure => simp [intOf]; omega
    · have hge : (s.length : Int) ≤ (k : Int) := by omega
      have hG : R = true := by have := HK.out; rw [List.drop_eq_nil_of_le (by omega)] at this; exact this.symm
      clear HK HR
      subst hG
      go_wp2
      go_ret
      exact ⟨rfl, rfl⟩

end Go.Proofs.YtcnkfkjgpdmebaaGreatDoor
