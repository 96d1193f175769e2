/- Contracts on names: bytes, and which texts may be names. -/
import Derived.Test.YtbfggmeppakcgaaGreatJA4
import Derived.WalkMore
import Derived.Test.YtbfggmeppakcgaaGreatProg
import Derived.WalkSpells
import Derived.WalkLawsBesides
import Derived.Deep.QuietTactic
import Derived.BigQuiet
/- Contracts on names: bytes, and which texts may be names. -/
namespace Go.Proofs.YtbfggmeppakcgaaGreat
open Go.RowKit

def smallI (z : Int) : Bool := (decide (z ≥ 97) && decide (z ≤ 122)) || z == 95
def greatI (z : Int) : Bool := decide (z ≥ 65) && decide (z ≤ 90)

theorem n_small (z : Int) (w : World) : Calls Tryz.prog 82 #[.int .u8 z] w fun e w' => e = .returned (.bool (smallI z)) ∧ w' = w := by
  have HR : Hid (smallI z = ((decide (z ≥ 97) && decide (z ≤ 122)) || z == 95)) := hide rfl
  generalize smallI z = R at *
  by_cases h1 : z ≥ 97
  · by_cases h2 : z ≤ 122
    · go_enter Tryz.func82, Tryz.ntmps82
      go_wp2
      go_ret
      exact ⟨by rw [HR.out]; simp [h1, h2], rfl⟩
    · by_cases h3 : z = 95
      · omega
      · go_enter Tryz.func82, Tryz.ntmps82
        go_wp2
        go_ret
        exact ⟨by rw [HR.out]; simp [h2, h3], rfl⟩
  · by_cases h3 : z = 95
    · go_enter Tryz.func82, Tryz.ntmps82
      go_wp2
      go_ret
      exact ⟨by rw [HR.out]; simp [h3]; try omega, rfl⟩
    · go_enter Tryz.func82, Tryz.ntmps82
      go_wp2
      go_ret
      exact ⟨by rw [HR.out]; simp [h3]; try omega, rfl⟩
theorem n_great (z : Int) (w : World) : Calls Tryz.prog 85 #[.int .u8 z] w fun e w' => e = .returned (.bool (greatI z)) ∧ w' = w := by
  have HR : Hid (greatI z = (decide (z ≥ 65) && decide (z ≤ 90))) := hide rfl
  generalize greatI z = R at *
  by_cases h1 : z ≥ 65
  · go_enter Tryz.func85, Tryz.ntmps85
    go_wp2
    go_ret
    exact ⟨by rw [HR.out]; simp [h1], rfl⟩
  · go_enter Tryz.func85, Tryz.ntmps85
    go_wp2
    go_ret
    exact ⟨by rw [HR.out]; simp; omega, rfl⟩
/-- May a name go on with a byte? -/
def onI (z : Int) : Bool := smallI z || greatI z || (decide (48 ≤ z) && decide (z ≤ 57)) || z == 39
def goesB (s : Str) : Bool := s.all fun b => onI (b.toNat : Nat)

@[go_sem] theorem ba_get (s : List UInt8) (k : Nat) (h : k < ByteArray.size ⟨s.toArray⟩) : (({ data := s.toArray } : ByteArray)[k]'h) = s[k]'(by simpa [ByteArray.size] using h) := rfl

set_option maxRecDepth 10000 in
set_option maxHeartbeats 1000000 in
theorem n_goes (s : Str) (w : World) (hl : s.length ≤ 9223372036854775807) : Calls Tryz.prog 83 #[encStr s] w fun e w' => e = .returned (.bool (goesB s)) ∧ w' = w := by
  have HR : Hid ((s.drop 0).all (fun b => onI (b.toNat : Nat)) = goesB s) := hide rfl
  generalize goesB s = R at *
  go_enter Tryz.func83, Tryz.ntmps83
  go_wp2
  go_loop [7] (fun i => ∃ k : Nat, k ≤ s.length ∧ i = .int .i64 k ∧ Hid ((s.drop k).all (fun b => onI (b.toNat : Nat)) = R)) (fun i => s.length - (intOf i).toNat)
  case atStart => exact ⟨0, Nat.zero_le _, rfl, HR⟩
  case round =>
    obtain ⟨k, hk, rfl, HK⟩ := hrel
    by_cases hlt : k < s.length
    · have hlt' : (k : Int) < (s.length : Int) := by omega
      have hk0 : (0 : Int) ≤ (k : Int) := by omega
      have Hb : Hid (s.drop k = s[k]'hlt :: s.drop (k + 1)) := hide (List.drop_eq_getElem_cons hlt)
      have hb : s[k]'hlt = s[k]'hlt := rfl
      generalize hb2 : s[k]'hlt = b at *
      clear hb
      rw [Hb.out, List.all_cons] at HK
      have hz0 : (0 : Int) ≤ ((b.toNat : Nat) : Int) := by omega
      have HN := hide (fun w' => n_small (b.toNat : Nat) w')
      have HG := hide (fun w' => n_great (b.toNat : Nat) w')
      have HO : Hid (onI (b.toNat : Nat) = (smallI (b.toNat : Nat) || greatI (b.toNat : Nat) || (decide (48 ≤ ((b.toNat : Nat) : Int)) && decide (((b.toNat : Nat) : Int) ≤ 57)) || ((b.toNat : Nat) : Int) == 39)) := hide rfl
      generalize smallI (b.toNat : Nat) = B1 at *
      generalize greatI (b.toNat : Nat) = B2 at *
      generalize onI (b.toNat : Nat) = B3 at *
      cases B1
      · cases B2
        · by_cases h48 : ((b.toNat : Nat) : Int) < 48
          · by_cases h39 : ((b.toNat : Nat) : Int) = 39
            · have hB : B3 = true := by rw [HO.out]; simp [h39]
              have hq : (((b.toNat : Nat) : Int) != 39) = false := by simp [h39]
              clear h39
              rw [hB] at HK
              go_wp2_with fail
              refine (HN.out _).mono ?_
              rintro e w1 ⟨rfl, rfl⟩
              go_wp2_with fail
              refine (HG.out _).mono ?_
              rintro e w1 ⟨rfl, rfl⟩
              go_wp2
              go_round
              case rel => exact ⟨k + 1, hlt, by go_num, hide (by simpa using HK.out)⟩
              case measure => simp [intOf]; omega
            · have hB : B3 = false := by rw [HO.out]; simp [h39]; omega
              rw [hB] at HK
              have hG : R = false := by have := HK.out; simpa using this.symm
              clear HK HR
              subst hG
              go_wp2_with fail
              refine (HN.out _).mono ?_
              rintro e w1 ⟨rfl, rfl⟩
              go_wp2_with fail
              refine (HG.out _).mono ?_
              rintro e w1 ⟨rfl, rfl⟩
              go_wp2
              go_ret
              exact ⟨rfl, rfl⟩
          · by_cases h57 : ((b.toNat : Nat) : Int) > 57
            · have h39 : ¬ ((b.toNat : Nat) : Int) = 39 := by omega
              have hB : B3 = false := by rw [HO.out]; simp [h39]; omega
              rw [hB] at HK
              have hG : R = false := by have := HK.out; simpa using this.symm
              clear HK HR
              subst hG
              go_wp2_with fail
              refine (HN.out _).mono ?_
              rintro e w1 ⟨rfl, rfl⟩
              go_wp2_with fail
              refine (HG.out _).mono ?_
              rintro e w1 ⟨rfl, rfl⟩
              go_wp2
              go_ret
              exact ⟨rfl, rfl⟩
            · have hB : B3 = true := by rw [HO.out]; simp; omega
              rw [hB] at HK
              go_wp2_with fail
              refine (HN.out _).mono ?_
              rintro e w1 ⟨rfl, rfl⟩
              go_wp2_with fail
              refine (HG.out _).mono ?_
              rintro e w1 ⟨rfl, rfl⟩
              go_wp2
              go_round
              case rel => exact ⟨k + 1, hlt, by go_num, hide (by simpa using HK.out)⟩
              case measure => simp [intOf]; omega
        · have hB : B3 = true := by rw [HO.out]; rfl
          rw [hB] at HK
          go_wp2_with fail
          refine (HN.out _).mono ?_
          rintro e w1 ⟨rfl, rfl⟩
          go_wp2_with fail
          refine (HG.out _).mono ?_
          rintro e w1 ⟨rfl, rfl⟩
          go_wp2
          go_round
          case rel => exact ⟨k + 1, hlt, by go_num, hide (by simpa using HK.out)⟩
          case measure => simp [intOf]; omega
      · have hB : B3 = true := by rw [HO.out]; simp
        rw [hB] at HK
        go_wp2_with fail
        refine (HN.out _).mono ?_
        rintro e w1 ⟨rfl, rfl⟩
        go_wp2
        go_round
        case rel => exact ⟨k + 1, hlt, by go_num, hide (by simpa using HK.out)⟩
        case measure => simp [intOf]; omega
    · have hge : (s.length : Int) ≤ (k : Int) := by omega
      have hG : R = true := by have := HK.out; rw [List.drop_eq_nil_of_le (by omega)] at this; exact this.symm
      clear HK HR
      subst hG
      go_wp2
      go_ret
      exact ⟨rfl, rfl⟩

end Go.Proofs.YtbfggmeppakcgaaGreat

/- Contracts on names: whether a text is reserved, and which may be names. -/
namespace Go.Proofs.YtbfggmeppakcgaaGreat
open Go.RowKit

def resW : List Str := [[100, 97, 116, 97], [99, 108, 97, 115, 115], [105, 110, 115, 116, 97, 110, 99, 101], [119, 104, 101, 114, 101], [108, 101, 116], [105, 110], [99, 97, 115, 101], [111, 102], [105, 102], [116, 104, 101, 110], [101, 108, 115, 101]]
def resB (s : Str) : Bool := resW.any (· == s)

set_option maxRecDepth 10000 in
set_option maxHeartbeats 1000000 in
theorem n_reserved (s : Str) (w : World) : Calls Tryz.prog 84 #[encStr s] w fun e w' => e = .returned (.bool (resB s)) ∧ w' = w := by
  have HR : Hid ((resW.drop 0).any (· == s) = resB s) := hide rfl
  generalize resB s = R at *
  go_enter Tryz.func84, Tryz.ntmps84
  go_wp2
  go_step3
  go_wp2
  go_step3
  go_wp2
  go_loop [7, 3] (fun i f => ∃ k : Nat, k ≤ 11 ∧ i = .int .i64 k ∧ f = .bool false ∧ Hid ((resW.drop k).any (· == s) = R)) (fun i _ => 11 - (intOf i).toNat)
  case atStart => exact ⟨0, Nat.zero_le _, rfl, rfl, HR⟩
  case round =>
    obtain ⟨k, hk, rfl, rfl, HK⟩ := hrel
    by_cases hlt : k < 11
    · have hk11 : k = 0 ∨ k = 1 ∨ k = 2 ∨ k = 3 ∨ k = 4 ∨ k = 5 ∨ k = 6 ∨ k = 7 ∨ k = 8 ∨ k = 9 ∨ k = 10 := by omega
      rcases hk11 with rfl | rfl | rfl | rfl | rfl | rfl | rfl | rfl | rfl | rfl | rfl
      · have hi : (Instr.index 126 (.agg #[.string { data := #[100, 97, 116, 97] }, .string { data := #[99, 108, 97, 115, 115] }, .string { data := #[105, 110, 115, 116, 97, 110, 99, 101] }, .string { data := #[119, 104, 101, 114, 101] }, .string { data := #[108, 101, 116] }, .string { data := #[105, 110] }, .string { data := #[99, 97, 115, 101] }, .string { data := #[111, 102] }, .string { data := #[105, 102] }, .string { data := #[116, 104, 101, 110] }, .string { data := #[101, 108, 115, 101] }]) (.int .i64 0)).run Tryz.prog w = .ok (.string { data := #[100, 97, 116, 97] }) w := by kernel_rfl
        have h2 : ((([100, 97, 116, 97] : Str) == s) || ((resW.drop 1).any (· == s))) = R := HK.out
        cases hs : (([100, 97, 116, 97] : Str) == s)
        · rw [hs, Bool.false_or] at h2
          have H2 := hide h2
          clear h2 HK HR
          go_wp2
          exact ⟨⟨1, by decide, rfl, rfl, H2⟩, by simp [intOf]⟩
        · rw [hs, Bool.true_or] at h2
          clear HK HR
          subst h2
          go_wp2
          go_ret
          exact ⟨rfl, rfl⟩
      · have hi : (Instr.index 126 (.agg #[.string { data := #[100, 97, 116, 97] }, .string { data := #[99, 108, 97, 115, 115] }, .string { data := #[105, 110, 115, 116, 97, 110, 99, 101] }, .string { data := #[119, 104, 101, 114, 101] }, .string { data := #[108, 101, 116] }, .string { data := #[105, 110] }, .string { data := #[99, 97, 115, 101] }, .string { data := #[111, 102] }, .string { data := #[105, 102] }, .string { data := #[116, 104, 101, 110] }, .string { data := #[101, 108, 115, 101] }]) (.int .i64 1)).run Tryz.prog w = .ok (.string { data := #[99, 108, 97, 115, 115] }) w := by kernel_rfl
        have h2 : ((([99, 108, 97, 115, 115] : Str) == s) || ((resW.drop 2).any (· == s))) = R := HK.out
        cases hs : (([99, 108, 97, 115, 115] : Str) == s)
        · rw [hs, Bool.false_or] at h2
          have H2 := hide h2
          clear h2 HK HR
          go_wp2
          exact ⟨⟨2, by decide, rfl, rfl, H2⟩, by simp [intOf]⟩
        · rw [hs, Bool.true_or] at h2
          clear HK HR
          subst h2
          go_wp2
          go_ret
          exact ⟨rfl, rfl⟩
      · have hi : (Instr.index 126 (.agg #[.string { data := #[100, 97, 116, 97] }, .string { data := #[99, 108, 97, 115, 115] }, .string { data := #[105, 110, 115, 116, 97, 110, 99, 101] }, .string { data := #[119, 104, 101, 114, 101] }, .string { data := #[108, 101, 116] }, .string { data := #[105, 110] }, .string { data := #[99, 97, 115, 101] }, .string { data := #[111, 102] }, .string { data := #[105, 102] }, .string { data := #[116, 104, 101, 110] }, .string { data := #[101, 108, 115, 101] }]) (.int .i64 2)).run Tryz.prog w = .ok (.string { data := #[105, 110, 115, 116, 97, 110, 99, 101] }) w := by kernel_rfl
        have h2 : ((([105, 110, 115, 116, 97, 110, 99, 101] : Str) == s) || ((resW.drop 3).any (· == s))) = R := HK.out
        cases hs : (([105, 110, 115, 116, 97, 110, 99, 101] : Str) == s)
        · rw [hs, Bool.false_or] at h2
          have H2 := hide h2
          clear h2 HK HR
          go_wp2
          exact ⟨⟨3, by decide, rfl, rfl, H2⟩, by simp [intOf]⟩
        · rw [hs, Bool.true_or] at h2
          clear HK HR
          subst h2
          go_wp2
          go_ret
          exact ⟨rfl, rfl⟩
      · have hi : (Instr.index 126 (.agg #[.string { data := #[100, 97, 116, 97] }, .string { data := #[99, 108, 97, 115, 115] }, .string { data := #[105, 110, 115, 116, 97, 110, 99, 101] }, .string { data := #[119, 104, 101, 114, 101] }, .string { data := #[108, 101, 116] }, .string { data := #[105, 110] }, .string { data := #[99, 97, 115, 101] }, .string { data := #[111, 102] }, .string { data := #[105, 102] }, .string { data := #[116, 104, 101, 110] }, .string { data := #[101, 108, 115, 101] }]) (.int .i64 3)).run Tryz.prog w = .ok (.string { data := #[119, 104, 101, 114, 101] }) w := by kernel_rfl
        have h2 : ((([119, 104, 101, 114, 101] : Str) == s) || ((resW.drop 4).any (· == s))) = R := HK.out
        cases hs : (([119, 104, 101, 114, 101] : Str) == s)
        · rw [hs, Bool.false_or] at h2
          have H2 := hide h2
          clear h2 HK HR
          go_wp2
          exact ⟨⟨4, by decide, rfl, rfl, H2⟩, by simp [intOf]⟩
        · rw [hs, Bool.true_or] at h2
          clear HK HR
          subst h2
          go_wp2
          go_ret
          exact ⟨rfl, rfl⟩
      · have hi : (Instr.index 126 (.agg #[.string { data := #[100, 97, 116, 97] }, .string { data := #[99, 108, 97, 115, 115] }, .string { data := #[105, 110, 115, 116, 97, 110, 99, 101] }, .string { data := #[119, 104, 101, 114, 101] }, .string { data := #[108, 101, 116] }, .string { data := #[105, 110] }, .string { data := #[99, 97, 115, 101] }, .string { data := #[111, 102] }, .string { data := #[105, 102] }, .string { data := #[116, 104, 101, 110] }, .string { data := #[101, 108, 115, 101] }]) (.int .i64 4)).run Tryz.prog w = .ok (.string { data := #[108, 101, 116] }) w := by kernel_rfl
        have h2 : ((([108, 101, 116] : Str) == s) || ((resW.drop 5).any (· == s))) = R := HK.out
        cases hs : (([108, 101, 116] : Str) == s)
        · rw [hs, Bool.false_or] at h2
          have H2 := hide h2
          clear h2 HK HR
          go_wp2
          exact ⟨⟨5, by decide, rfl, rfl, H2⟩, by simp [intOf]⟩
        · rw [hs, Bool.true_or] at h2
          clear HK HR
          subst h2
          go_wp2
          go_ret
          exact ⟨rfl, rfl⟩
      · have hi : (Instr.index 126 (.agg #[.string { data := #[100, 97, 116, 97] }, .string { data := #[99, 108, 97, 115, 115] }, .string { data := #[105, 110, 115, 116, 97, 110, 99, 101] }, .string { data := #[119, 104, 101, 114, 101] }, .string { data := #[108, 101, 116] }, .string { data := #[105, 110] }, .string { data := #[99, 97, 115, 101] }, .string { data := #[111, 102] }, .string { data := #[105, 102] }, .string { data := #[116, 104, 101, 110] }, .string { data := #[101, 108, 115, 101] }]) (.int .i64 5)).run Tryz.prog w = .ok (.string { data := #[105, 110] }) w := by kernel_rfl
        have h2 : ((([105, 110] : Str) == s) || ((resW.drop 6).any (· == s))) = R := HK.out
        cases hs : (([105, 110] : Str) == s)
        · rw [hs, Bool.false_or] at h2
          have H2 := hide h2
          clear h2 HK HR
          go_wp2
          exact ⟨⟨6, by decide, rfl, rfl, H2⟩, by simp [intOf]⟩
        · rw [hs, Bool.true_or] at h2
          clear HK HR
          subst h2
          go_wp2
          go_ret
          exact ⟨rfl, rfl⟩
      · have hi : (Instr.index 126 (.agg #[.string { data := #[100, 97, 116, 97] }, .string { data := #[99, 108, 97, 115, 115] }, .string { data := #[105, 110, 115, 116, 97, 110, 99, 101] }, .string { data := #[119, 104, 101, 114, 101] }, .string { data := #[108, 101, 116] }, .string { data := #[105, 110] }, .string { data := #[99, 97, 115, 101] }, .string { data := #[111, 102] }, .string { data := #[105, 102] }, .string { data := #[116, 104, 101, 110] }, .string { data := #[101, 108, 115, 101] }]) (.int .i64 6)).run Tryz.prog w = .ok (.string { data := #[99, 97, 115, 101] }) w := by kernel_rfl
        have h2 : ((([99, 97, 115, 101] : Str) == s) || ((resW.drop 7).any (· == s))) = R := HK.out
        cases hs : (([99, 97, 115, 101] : Str) == s)
        · rw [hs, Bool.false_or] at h2
          have H2 := hide h2
          clear h2 HK HR
          go_wp2
          exact ⟨⟨7, by decide, rfl, rfl, H2⟩, by simp [intOf]⟩
        · rw [hs, Bool.true_or] at h2
          clear HK HR
          subst h2
          go_wp2
          go_ret
          exact ⟨rfl, rfl⟩
      · have hi : (Instr.index 126 (.agg #[.string { data := #[100, 97, 116, 97] }, .string { data := #[99, 108, 97, 115, 115] }, .string { data := #[105, 110, 115, 116, 97, 110, 99, 101] }, .string { data := #[119, 104, 101, 114, 101] }, .string { data := #[108, 101, 116] }, .string { data := #[105, 110] }, .string { data := #[99, 97, 115, 101] }, .string { data := #[111, 102] }, .string { data := #[105, 102] }, .string { data := #[116, 104, 101, 110] }, .string { data := #[101, 108, 115, 101] }]) (.int .i64 7)).run Tryz.prog w = .ok (.string { data := #[111, 102] }) w := by kernel_rfl
        have h2 : ((([111, 102] : Str) == s) || ((resW.drop 8).any (· == s))) = R := HK.out
        cases hs : (([111, 102] : Str) == s)
        · rw [hs, Bool.false_or] at h2
          have H2 := hide h2
          clear h2 HK HR
          go_wp2
          exact ⟨⟨8, by decide, rfl, rfl, H2⟩, by simp [intOf]⟩
        · rw [hs, Bool.true_or] at h2
          clear HK HR
          subst h2
          go_wp2
          go_ret
          exact ⟨rfl, rfl⟩
      · have hi : (Instr.index 126 (.agg #[.string { data := #[100, 97, 116, 97] }, .string { data := #[99, 108, 97, 115, 115] }, .string { data := #[105, 110, 115, 116, 97, 110, 99, 101] }, .string { data := #[119, 104, 101, 114, 101] }, .string { data := #[108, 101, 116] }, .string { data := #[105, 110] }, .string { data := #[99, 97, 115, 101] }, .string { data := #[111, 102] }, .string { data := #[105, 102] }, .string { data := #[116, 104, 101, 110] }, .string { data := #[101, 108, 115, 101] }]) (.int .i64 8)).run Tryz.prog w = .ok (.string { data := #[105, 102] }) w := by kernel_rfl
        have h2 : ((([105, 102] : Str) == s) || ((resW.drop 9).any (· == s))) = R := HK.out
        cases hs : (([105, 102] : Str) == s)
        · rw [hs, Bool.false_or] at h2
          have H2 := hide h2
          clear h2 HK HR
          go_wp2
          exact ⟨⟨9, by decide, rfl, rfl, H2⟩, by simp [intOf]⟩
        · rw [hs, Bool.true_or] at h2
          clear HK HR
          subst h2
          go_wp2
          go_ret
          exact ⟨rfl, rfl⟩
      · have hi : (Instr.index 126 (.agg #[.string { data := #[100, 97, 116, 97] }, .string { data := #[99, 108, 97, 115, 115] }, .string { data := #[105, 110, 115, 116, 97, 110, 99, 101] }, .string { data := #[119, 104, 101, 114, 101] }, .string { data := #[108, 101, 116] }, .string { data := #[105, 110] }, .string { data := #[99, 97, 115, 101] }, .string { data := #[111, 102] }, .string { data := #[105, 102] }, .string { data := #[116, 104, 101, 110] }, .string { data := #[101, 108, 115, 101] }]) (.int .i64 9)).run Tryz.prog w = .ok (.string { data := #[116, 104, 101, 110] }) w := by kernel_rfl
        have h2 : ((([116, 104, 101, 110] : Str) == s) || ((resW.drop 10).any (· == s))) = R := HK.out
        cases hs : (([116, 104, 101, 110] : Str) == s)
        · rw [hs, Bool.false_or] at h2
          have H2 := hide h2
          clear h2 HK HR
          go_wp2
          exact ⟨⟨10, by decide, rfl, rfl, H2⟩, by simp [intOf]⟩
        · rw [hs, Bool.true_or] at h2
          clear HK HR
          subst h2
          go_wp2
          go_ret
          exact ⟨rfl, rfl⟩
      · have hi : (Instr.index 126 (.agg #[.string { data := #[100, 97, 116, 97] }, .string { data := #[99, 108, 97, 115, 115] }, .string { data := #[105, 110, 115, 116, 97, 110, 99, 101] }, .string { data := #[119, 104, 101, 114, 101] }, .string { data := #[108, 101, 116] }, .string { data := #[105, 110] }, .string { data := #[99, 97, 115, 101] }, .string { data := #[111, 102] }, .string { data := #[105, 102] }, .string { data := #[116, 104, 101, 110] }, .string { data := #[101, 108, 115, 101] }]) (.int .i64 10)).run Tryz.prog w = .ok (.string { data := #[101, 108, 115, 101] }) w := by kernel_rfl
        have h2 : ((([101, 108, 115, 101] : Str) == s) || ((resW.drop 11).any (· == s))) = R := HK.out
        cases hs : (([101, 108, 115, 101] : Str) == s)
        · rw [hs, Bool.false_or] at h2
          have H2 := hide h2
          clear h2 HK HR
          go_wp2
          exact ⟨⟨11, by decide, rfl, rfl, H2⟩, by simp [intOf]⟩
        · rw [hs, Bool.true_or] at h2
          clear HK HR
          subst h2
          go_wp2
          go_ret
          exact ⟨rfl, rfl⟩
    · have hk11 : k = 11 := by omega
      have h2 : false = R := by have := HK.out; rw [hk11] at this; exact this
      clear HK HR
      subst h2
      have hge : (11 : Int) ≤ (k : Int) := by omega
      go_wp2
      go_ret
      exact ⟨rfl, rfl⟩

def varB (s : Str) : Bool := !(s == []) && !(s == [95]) && smallI ((s.headD 0).toNat : Nat) && goesB s && !resB s
def conB (s : Str) : Bool := !(s == []) && greatI ((s.headD 0).toNat : Nat) && goesB s

set_option maxRecDepth 10000 in
set_option maxHeartbeats 1000000 in
theorem n_con (s : Str) (w : World) (hl : s.length ≤ 9223372036854775807) : Calls Tryz.prog 69 #[encStr s] w fun e w' => e = .returned (.bool (conB s)) ∧ w' = w := by
  cases s with
  | nil =>
    go_enter Tryz.func69, Tryz.ntmps69
    go_wp2
    go_ret
    exact ⟨rfl, rfl⟩
  | cons b s =>
    have HC : Hid (conB (b :: s) = (greatI (b.toNat : Nat) && goesB (b :: s))) := hide rfl
    have HG := hide (fun w' => n_great (b.toNat : Nat) w')
    have HO := hide (fun w' => n_goes (b :: s) w' hl)
    generalize conB (b :: s) = R at *
    generalize greatI (b.toNat : Nat) = B1 at *
    generalize goesB (b :: s) = B2 at *
    cases B1
    · have hR : R = false := by rw [HC.out]; rfl
      clear HC
      subst hR
      go_enter Tryz.func69, Tryz.ntmps69
      go_wp2_with fail
      refine (HG.out _).mono ?_
      rintro e w1 ⟨rfl, rfl⟩
      go_wp2
      go_ret
      exact ⟨rfl, rfl⟩
    · have hR : R = B2 := by rw [HC.out]; rfl
      clear HC
      subst hR
      go_enter Tryz.func69, Tryz.ntmps69
      go_wp2_with fail
      refine (HG.out _).mono ?_
      rintro e w1 ⟨rfl, rfl⟩
      go_wp2_with fail
      refine (HO.out _).mono ?_
      rintro e w1 ⟨rfl, rfl⟩
      go_wp2
      go_ret
      exact ⟨rfl, rfl⟩

set_option maxRecDepth 10000 in
set_option maxHeartbeats 1000000 in
theorem n_var (s : Str) (w : World) (hl : s.length ≤ 9223372036854775807) : Calls Tryz.prog 68 #[encStr s] w fun e w' => e = .returned (.bool (varB s)) ∧ w' = w := by
  cases s with
  | nil =>
    go_enter Tryz.func68, Tryz.ntmps68
    go_wp2
    go_ret
    exact ⟨rfl, rfl⟩
  | cons b s =>
    by_cases h95 : (b :: s) = [95]
    · rw [h95]
      clear hl h95
      go_enter Tryz.func68, Tryz.ntmps68
      go_wp2
      go_ret
      exact ⟨rfl, rfl⟩
    · have HC : Hid (varB (b :: s) = (smallI (b.toNat : Nat) && goesB (b :: s) && !resB (b :: s))) := hide (by
        have e1 : ((b :: s) == ([] : Str)) = false := rfl
        have e2 : ((b :: s) == ([95] : Str)) = false := by simpa using h95
        unfold varB
        rw [e1, e2]
        rfl)
      have HG := hide (fun w' => n_small (b.toNat : Nat) w')
      have HO := hide (fun w' => n_goes (b :: s) w' hl)
      have HV := hide (fun w' => n_reserved (b :: s) w')
      have hne : ¬b = 95 ∨ ¬s = [] := by
        rcases Classical.em (b = 95) with rfl | h
        · exact .inr (fun e => h95 (by rw [e]))
        · exact .inl h
      have hq : (!b == 95 || !s.isEmpty) = true := by
        rcases hne with h | h
        · simp [h]
        · cases s with
          | nil => exact absurd rfl h
          | cons c s => simp
      have Hq := hide hq
      clear h95 hq
      generalize varB (b :: s) = R at *
      generalize smallI (b.toNat : Nat) = B1 at *
      generalize goesB (b :: s) = B2 at *
      generalize resB (b :: s) = B3 at *
      cases B1
      · have hR : R = false := by rw [HC.out]; rfl
        clear HC
        subst hR
        go_enter Tryz.func68, Tryz.ntmps68
        go_wp2_with fail
        refine (HG.out _).mono ?_
        rintro e w1 ⟨rfl, rfl⟩
        go_wp2
        go_ret
        exact ⟨rfl, rfl⟩
      · cases B2
        · have hR : R = false := by rw [HC.out]; rfl
          clear HC
          subst hR
          go_enter Tryz.func68, Tryz.ntmps68
          go_wp2_with fail
          refine (HG.out _).mono ?_
          rintro e w1 ⟨rfl, rfl⟩
          go_wp2_with fail
          refine (HO.out _).mono ?_
          rintro e w1 ⟨rfl, rfl⟩
          go_wp2
          go_ret
          exact ⟨rfl, rfl⟩
        · have hR : R = !B3 := by rw [HC.out]; rfl
          clear HC
          subst hR
          go_enter Tryz.func68, Tryz.ntmps68
          go_wp2_with fail
          refine (HG.out _).mono ?_
          rintro e w1 ⟨rfl, rfl⟩
          go_wp2_with fail
          refine (HO.out _).mono ?_
          rintro e w1 ⟨rfl, rfl⟩
          go_wp2_with fail
          refine (HV.out _).mono ?_
          rintro e w1 ⟨rfl, rfl⟩
          go_wp2
          go_ret
          refine ⟨?_, rfl⟩
          show Ending.returned (Value.bool ((!b == 95 || !s.isEmpty) && !B3)) = _
          rw [Hq.out, Bool.true_and]

end Go.Proofs.YtbfggmeppakcgaaGreat

/- Trees in memory: nodes of five cells, whose kids are a slice of nodes. No program in sight. -/
namespace Go.Proofs.YtbfggmeppakcgaaGreat
open Go.RowKit

inductive Tree where
  | mk (kind pos n : Int) (text : Str) (A : Option Addr) (cap : Nat) (kids : List Tree) : Tree
namespace Tree
def kind : Tree → Int | .mk k _ _ _ _ _ _ => k
def pos : Tree → Int | .mk _ p _ _ _ _ _ => p
def n : Tree → Int | .mk _ _ n _ _ _ _ => n
def text : Tree → Str | .mk _ _ _ s _ _ _ => s
def A : Tree → Option Addr | .mk _ _ _ _ a _ _ => a
def cap : Tree → Nat | .mk _ _ _ _ _ c _ => c
def kids : Tree → List Tree | .mk _ _ _ _ _ _ l => l
/-- Induction on a tree: what holds of all kids holds of it. -/
theorem ind {p : Tree → Prop} (h : ∀ t, (∀ k ∈ t.kids, p k) → p t) (t : Tree) : p t :=
  Tree.rec (motive_1 := p) (motive_2 := fun l => ∀ k ∈ l, p k) (fun _ _ _ _ _ _ l hl => h _ hl) (fun _ hk => by cases hk)
    (fun _ _ hh ht k hk => by rcases List.mem_cons.1 hk with rfl | hk; exact hh; exact ht k hk) t
/-- What is reckoned of a tree out of what is reckoned of its kids. -/
noncomputable def fold {β : Type} (f : Tree → List β → β) (t : Tree) : β :=
  Tree.rec (motive_1 := fun _ => β) (motive_2 := fun _ => List β) (fun k p n s a c l r => f (.mk k p n s a c l) r) [] (fun _ _ h t => h :: t) t
theorem fold_eq {β : Type} (f : Tree → List β → β) (t : Tree) : t.fold f = f t (t.kids.map (fold f)) := by
  cases t with
  | mk k p n s a c l =>
    show f _ _ = f _ _
    congr 1
    show Tree.rec_1 (motive_1 := fun _ => β) (motive_2 := fun _ => List β) _ _ _ l = l.map (fold f)
    induction l with
    | nil => rfl
    | cons x l ih => exact congrArg (x.fold f :: ·) ih
/-- How many nodes. -/
noncomputable def size : Tree → Nat := fold fun _ l => l.sum + 1
theorem size_eq (t : Tree) : t.size = (t.kids.map size).sum + 1 := fold_eq _ t
theorem size_pos (t : Tree) : 0 < t.size := by rw [size_eq]; omega
/-- How many levels. -/
noncomputable def depth : Tree → Nat := fold fun _ l => l.foldr max 0 + 1
theorem depth_eq (t : Tree) : t.depth = (t.kids.map depth).foldr max 0 + 1 := fold_eq _ t
theorem mem_sum {α : Type} (f : α → Nat) : ∀ {l : List α} {x : α}, x ∈ l → f x ≤ (l.map f).sum
  | y :: l, x, h => by
    simp only [List.map_cons, List.sum_cons]
    rcases List.mem_cons.1 h with rfl | h
    · omega
    · have := mem_sum f h; omega
theorem size_kid {t k : Tree} (h : k ∈ t.kids) : k.size < t.size := by rw [size_eq t]; have := mem_sum size h; omega
theorem kids_len (t : Tree) : t.kids.length < t.size := by
  rw [size_eq t]
  have : ∀ l : List Tree, l.length ≤ (l.map size).sum := by
    intro l
    induction l with
    | nil => simp
    | cons x l ih => have := size_pos x; simp only [List.length_cons, List.map_cons, List.sum_cons]; omega
  have := this t.kids
  omega
end Tree

def Tree.cells (t : Tree) : List Value := [.int .i64 t.kind, .int .i64 t.pos, .int .i64 t.n, encStr t.text, .slice t.A t.kids.length t.cap]
def treeC : Coder Tree := ⟨5, Tree.cells, fun _ => rfl, by omega⟩
@[go_sem] def treeV (t : Tree) : Value := .agg #[.int .i64 t.kind, .int .i64 t.pos, .int .i64 t.n, encStr t.text, .slice t.A t.kids.length t.cap]
def Tree.zero : Tree := .mk 0 0 0 [] none 0 []

/-- A tree that stands in memory. -/
inductive NodeIn (w : World) : Tree → Prop
  | mk {t : Tree} (le : t.kids.length ≤ t.cap) (max : t.cap ≤ 9223372036854775807) (txt : t.text.length ≤ 9223372036854775807) (row : RowOf treeC w t.A t.kids) (kids : ∀ k ∈ t.kids, NodeIn w k) : NodeIn w t
/-- Nodes that stand in memory, in a row. -/
structure NodesIn (w : World) (A : Option Addr) (l : List Tree) : Prop where
  row : RowOf treeC w A l
  kids : ∀ k ∈ l, NodeIn w k

section
variable {w w' : World} {t : Tree}
theorem NodeIn.le (h : NodeIn w t) : t.kids.length ≤ t.cap := by cases h; assumption
theorem NodeIn.max (h : NodeIn w t) : t.cap ≤ 9223372036854775807 := by cases h; assumption
theorem NodeIn.txt (h : NodeIn w t) : t.text.length ≤ 9223372036854775807 := by cases h; assumption
theorem NodeIn.nodes (h : NodeIn w t) : NodesIn w t.A t.kids := by cases h with | mk _ _ _ r k => exact ⟨r, k⟩
theorem Row.old {size n : Nat} {A : Option Addr} {xs : List Value} (h : Row w A size n xs) (k : ∀ b, b < w.heap.size → w'.heap[b]? = w.heap[b]?) (hs : w.heap.size ≤ w'.heap.size) : Row w' A size n xs := by
  refine ⟨h.1, fun hn => ?_⟩
  obtain ⟨b, o, rfl, hb, hc⟩ := h.2 hn
  exact ⟨b, o, rfl, by omega, fun j u hu => (World.cell?_of_block (a := ⟨b, o + j, none⟩) (k b hb)).trans (hc j u hu)⟩
/-- What lay lies. -/
theorem NodeIn.old (h : NodeIn w t) (k : Below w.heap.size w w') : NodeIn w' t := by
  induction h with
  | mk h1 h2 h3 h4 _ ih => exact .mk h1 h2 h3 (Row.old h4 k.block k.size) ih
theorem NodeIn.ext (h : NodeIn w t) (k : Ext w w') : NodeIn w' t := h.old k.below
theorem NodesIn.old {A : Option Addr} {l : List Tree} (h : NodesIn w A l) (k : Below w.heap.size w w') : NodesIn w' A l := ⟨Row.old h.row k.block k.size, fun x hx => (h.kids x hx).old k⟩
theorem NodesIn.ext {A : Option Addr} {l : List Tree} (h : NodesIn w A l) (k : Ext w w') : NodesIn w' A l := h.old k.below
theorem NodesIn.nil (w : World) (A : Option Addr) : NodesIn w A [] := ⟨RowOf.nil _ _ _, by simp⟩
theorem NodesIn.at_ {A : Option Addr} {l : List Tree} (h : NodesIn w A l) {i : Nat} (hi : i < l.length) :
    ∃ b o, A = some ⟨b, o, none⟩ ∧ b < w.heap.size ∧ w.cell? ⟨b, o + i * 5, none⟩ = some (.int .i64 (l[i]'hi).kind) ∧ w.cell? ⟨b, o + i * 5 + 1, none⟩ = some (.int .i64 (l[i]'hi).pos) ∧
      w.cell? ⟨b, o + i * 5 + 2, none⟩ = some (.int .i64 (l[i]'hi).n) ∧ w.cell? ⟨b, o + i * 5 + 3, none⟩ = some (.string ⟨(l[i]'hi).text.toArray⟩) ∧
      w.cell? ⟨b, o + i * 5 + 4, none⟩ = some (.slice (l[i]'hi).A (l[i]'hi).kids.length (l[i]'hi).cap) := by
  obtain ⟨b, o, e, hb, hc⟩ := RowOf.at_ treeC h.row hi
  refine ⟨b, o, e, hb, ?_, ?_, ?_, ?_, ?_⟩
  · have := hc 0 (by decide); simpa [treeC, Tree.cells] using this
  · have := hc 1 (by decide); simpa [treeC, Tree.cells] using this
  · have := hc 2 (by decide); simpa [treeC, Tree.cells] using this
  · have := hc 3 (by decide); simpa [treeC, Tree.cells] using this
  · have := hc 4 (by decide); simpa [treeC, Tree.cells] using this
end

end Go.Proofs.YtbfggmeppakcgaaGreat

/- Contracts: how many nodes a tree has, if not too many. -/
namespace Go.Proofs.YtbfggmeppakcgaaGreat
open Go.RowKit

/-- A node in a box. -/
def NBox (w : World) (b : Nat) (t : Tree) : Prop := w.heap[b]? = some (.cells #[.int .i64 t.kind, .int .i64 t.pos, .int .i64 t.n, encStr t.text, .slice t.A t.kids.length t.cap] 28 (0, 0))
section
variable {w w' : World} {b : Nat} {t : Tree}
theorem NBox.lt (h : NBox w b t) : b < w.heap.size := lt_of_obj h
theorem NBox.ext (h : NBox w b t) (e : Ext w w') : NBox w' b t := (e.heap h.lt).trans h
theorem NBox.c0 (h : NBox w b t) : w.cell? ⟨b, 0, none⟩ = some (.int .i64 t.kind) := by unfold NBox at h; simp [World.cell?, h]
theorem NBox.c1 (h : NBox w b t) : w.cell? ⟨b, 1, none⟩ = some (.int .i64 t.pos) := by unfold NBox at h; simp [World.cell?, h]
theorem NBox.c2 (h : NBox w b t) : w.cell? ⟨b, 2, none⟩ = some (.int .i64 t.n) := by unfold NBox at h; simp [World.cell?, h]
theorem NBox.c3 (h : NBox w b t) : w.cell? ⟨b, 3, none⟩ = some (encStr t.text) := by unfold NBox at h; simp [World.cell?, h]
theorem NBox.c4 (h : NBox w b t) : w.cell? ⟨b, 4, none⟩ = some (.slice t.A t.kids.length t.cap) := by unfold NBox at h; simp [World.cell?, h]
theorem NBox.free (h : NBox w b t) (i : Nat) : w.frozen? ⟨b, i, none⟩ = false := by unfold NBox at h; simp [World.frozen?, h]
end
/-- What is left of so many nodes; below 0: there are more. -/
def leftI (L : Int) (s : Nat) : Int := if (s : Int) ≤ L then L - s else -1
theorem leftI_le {L : Int} {s : Nat} (h : (s : Int) ≤ L) : leftI L s = L - s := if_pos h
theorem leftI_gt {L : Int} {s : Nat} (h : ¬ (s : Int) ≤ L) : leftI L s = -1 := if_neg h
theorem leftI_sub {L : Int} {s z : Nat} (_h : ((s + 1 : Nat) : Int) ≤ L) : leftI (L - ((s : Int) + 1)) z = leftI L (s + z + 1) := by
  unfold leftI
  split <;> split <;> omega
noncomputable def sizes (l : List Tree) : Nat := (l.map Tree.size).sum
theorem sizes_snoc (l : List Tree) (t : Tree) : sizes (l ++ [t]) = sizes l + t.size := by simp [sizes]
theorem sizes_take (l : List Tree) {k : Nat} (h : k < l.length) : sizes (l.take (k + 1)) = sizes (l.take k) + (l[k]'h).size := by rw [List.take_succ_eq_append_getElem h, sizes_snoc]
theorem sizes_le (l : List Tree) (k : Nat) : sizes (l.take k) ≤ sizes l := by
  have : sizes l = sizes (l.take k) + sizes (l.drop k) := by unfold sizes; rw [← List.sum_append, ← List.map_append, List.take_append_drop]
  omega

set_option maxRecDepth 10000 in
set_option maxHeartbeats 2000000 in
theorem l_count (t : Tree) : ∀ (L : Int) (w : World), NodeIn w t → 0 ≤ L → L ≤ 1000000 →
    Calls Tryz.prog 18 #[treeV t, .int .i64 L] w fun e w' => e = .returned (.int .i64 (leftI L t.size)) ∧ Ext w w' := by
  induction t using Tree.ind with
  | h t ih =>
  intro L w h h0 hL
  have IH := hide ih
  have Hk := hide h.nodes
  have hle := h.le
  have hmx := h.max
  have HB0 : Hid (NBox (w.alloc (.cells #[.int .i64 t.kind, .int .i64 t.pos, .int .i64 t.n, encStr t.text, .slice t.A t.kids.length t.cap] 28)) w.heap.size t) := hide (at_newB _ _ _ rfl)
  have X0 : Hid (Ext w (w.alloc (.cells #[.int .i64 t.kind, .int .i64 t.pos, .int .i64 t.n, encStr t.text, .slice t.A t.kids.length t.cap] 28))) := hide ((Ext.refl w).alloc _)
  have HS : Hid (t.size = sizes t.kids + 1) := hide (Tree.size_eq t)
  have HSl := hide (fun k => sizes_le t.kids k)
  have HSt := hide (fun k (hk : k < t.kids.length) => sizes_take t.kids hk)
  clear ih h
  have hne : w.heap.size < (w.alloc (.cells #[.int .i64 t.kind, .int .i64 t.pos, .int .i64 t.n, encStr t.text, .slice t.A t.kids.length t.cap] 28)).heap.size := by simp
  unfold treeV
  go_enter Tryz.func18, Tryz.ntmps18
  go_wp2
  generalize (w.alloc (.cells #[.int .i64 t.kind, .int .i64 t.pos, .int .i64 t.n, encStr t.text, .slice t.A t.kids.length t.cap] 28)) = w0 at *
  go_loopw [1, 5] (fun v i wr => ∃ k : Nat, k ≤ t.kids.length ∧ i = .int .i64 k ∧ v = .int .i64 (leftI L (sizes (t.kids.take k) + 1)) ∧ Hid (Ext w0 wr)) (fun _ i _ => t.kids.length - (intOf i).toNat)
  case atStart => exact ⟨0, Nat.zero_le _, rfl, by simp [sizes, leftI]; omega, hide (Ext.refl _)⟩
  case round =>
    obtain ⟨k, hk, rfl, rfl, HX⟩ := hrel
    have HB := hide (HB0.out.ext HX.out)
    have hc4 := HB.out.c4
    by_cases hs : ((sizes (t.kids.take k) + 1 : Nat) : Int) ≤ L
    · rw [leftI_le hs]
      have hs0 : (0 : Int) ≤ L - ((sizes (t.kids.take k) + 1 : Nat) : Int) := by omega
      by_cases hlt : k < t.kids.length
      · have hlt' : (k : Int) < (t.kids.length : Int) := by omega
        have hk0 : (0 : Int) ≤ (k : Int) := by omega
        obtain ⟨b, o, hA, hb, q0, q1, q2, q3, q4⟩ := (Hk.out.ext (X0.out.trans HX.out)).at_ hlt
        have HC := hide (IH.out _ (List.getElem_mem hlt) (L - ((sizes (t.kids.take k) + 1 : Nat) : Int)) wr ((Hk.out.kids _ (List.getElem_mem hlt)).ext (X0.out.trans HX.out)) hs0 (by omega))
        have Hst := hide (HSt.out k hlt)
        rw [hA] at hc4; clear hA
        generalize t.kids[k]'hlt = c at *
        generalize sizes (t.kids.take k) = s at *
        go_wp2_with fail
        refine HC.out.mono ?_
        rintro e w3 ⟨rfl, hx3⟩
        have X3 := hide (HX.out.trans hx3)
        clear hx3
        go_wp2
        go_roundw
        case rel => exact ⟨k + 1, hlt, by go_num, by rw [Hst.out, leftI_sub hs], X3⟩
        case measure => simp [intOf]; omega
      · have hge : ¬ (k : Int) < (t.kids.length : Int) := by omega
        have hS : sizes (t.kids.take k) + 1 = t.size := by rw [HS.out, List.take_of_length_le (by omega)]
        have HS2 := hide hS
        have HL : Hid (L - ((sizes (t.kids.take k) + 1 : Nat) : Int) = leftI L t.size) := hide (by rw [← hS, leftI_le hs])
        clear hS
        generalize sizes (t.kids.take k) = s at *
        go_wp2
        go_ret
        exact ⟨by rw [← HL.out]; rfl, X0.out.trans HX.out⟩
    · have HL : Hid (leftI L t.size = -1) := hide (leftI_gt (by have := HSl.out k; have := HS.out; omega))
      rw [leftI_gt hs]
      have hs0 : ¬ (0 : Int) ≤ -1 := by decide
      by_cases hlt : k < t.kids.length
      · have hlt' : (k : Int) < (t.kids.length : Int) := by omega
        go_wp2
        go_ret
        exact ⟨by rw [HL.out]; rfl, X0.out.trans HX.out⟩
      · have hge : ¬ (k : Int) < (t.kids.length : Int) := by omega
        go_wp2
        go_ret
        exact ⟨by rw [HL.out]; rfl, X0.out.trans HX.out⟩

/-- Not too many? -/
noncomputable def fewB (t : Tree) : Bool := decide (t.size ≤ 3000)
theorem l_few06 (t : Tree) (w : World) (h : NodeIn w t) :
    Calls Tryz.prog 9 #[treeV t] w fun e w' => e = .returned (.int .i64 (if fewB t then 1 else 0)) ∧ Ext w w' := by
  have HC := hide (fun w' (e : Ext w w') => hide (l_count t 3000 w' (h.ext e) (by decide) (by decide)))
  have HB0 : Hid (NBox (w.alloc (.cells #[.int .i64 t.kind, .int .i64 t.pos, .int .i64 t.n, encStr t.text, .slice t.A t.kids.length t.cap] 28)) w.heap.size t) := hide (at_newB _ _ _ rfl)
  have X0 : Hid (Ext w (w.alloc (.cells #[.int .i64 t.kind, .int .i64 t.pos, .int .i64 t.n, encStr t.text, .slice t.A t.kids.length t.cap] 28))) := hide ((Ext.refl w).alloc _)
  clear h
  cases hf : fewB t
  · have hl : leftI 3000 t.size < 0 := by unfold fewB at hf; simp at hf; rw [leftI_gt (by omega)]; decide
    clear hf
    generalize leftI 3000 t.size = v at *
    unfold treeV
    go_enter Tryz.func9, Tryz.ntmps9
    go_wp2_with fail
    refine (HC.out _ X0.out).out.mono ?_
    rintro e w3 ⟨rfl, hx3⟩
    go_wp2
    go_ret
    exact ⟨rfl, X0.out.trans hx3⟩
  · have hl : ¬ leftI 3000 t.size < 0 := by unfold fewB at hf; simp at hf; rw [leftI_le (by omega)]; omega
    clear hf
    generalize leftI 3000 t.size = v at *
    unfold treeV
    go_enter Tryz.func9, Tryz.ntmps9
    go_wp2_with fail
    refine (HC.out _ X0.out).out.mono ?_
    rintro e w3 ⟨rfl, hx3⟩
    go_wp2
    go_ret
    exact ⟨rfl, X0.out.trans hx3⟩

end Go.Proofs.YtbfggmeppakcgaaGreat

/- Worlds in which nothing has turned but one block, and the block of a slice that is appended to. A function that may be entered. -/
namespace Go.Proofs.YtbfggmeppakcgaaGreat
open Go.RowKit

/-- A call of a function's value enters it. -/
def Opens (f : FuncId) : Prop := ∀ args w, (callFunc f args).run Tryz.prog w = .ok (.enter f args) w

/-- From w to w' nothing has turned but block `c` and the block of what is told, which was `v` and is `v'`. -/
structure Tr (c : Nat) (w : World) (v : Value) (w' : World) (v' : Value) : Prop where
  os : w'.os = w.os
  tape : w'.tape = w.tape
  output : w'.output = w.output
  size : w.heap.size ≤ w'.heap.size
  blk : ∀ k, k < w.heap.size → k ≠ c → v.ownBlock ≠ some k → w'.heap[k]? = w.heap[k]?
  own : v'.ownBlock = v.ownBlock ∨ ∀ k, v'.ownBlock = some k → w.heap.size ≤ k
section
variable {c : Nat} {a b d w w' : World} {v v1 v2 v' : Value}
theorem Tr.trans (h : Tr c a v b v1) (k : Tr c b v1 d v2) : Tr c a v d v2 where
  os := k.os.trans h.os
  tape := k.tape.trans h.tape
  output := k.output.trans h.output
  size := Nat.le_trans h.size k.size
  blk i hi hc hv := (k.blk i (Nat.lt_of_lt_of_le hi h.size) hc (fun e => by
    rcases h.own with h1 | h1
    · exact hv (h1 ▸ e)
    · have := h1 i e; omega)).trans (h.blk i hi hc hv)
  own := by
    rcases k.own with k1 | k1
    · rcases h.own with h1 | h1
      · exact .inl (k1.trans h1)
      · exact .inr (fun i hi => h1 i (k1 ▸ hi))
    · exact .inr (fun i hi => Nat.le_trans h.size (k1 i hi))
theorem Tr.of_ext (e : Ext w w') : Tr c w v w' v :=
  ⟨e.below.os, e.below.tape, e.below.output, e.size, fun _ hk _ _ => e.heap hk, .inl rfl⟩
theorem Tr.refl (c : Nat) (w : World) (v : Value) : Tr c w v w v := Tr.of_ext (Ext.refl w)
/-- What lies below is as it was. -/
theorem Tr.below {B : Nat} (h : Tr c w v w' v') (hB : B ≤ w.heap.size) (hc : B ≤ c) (hv : ∀ k, v.ownBlock = some k → B ≤ k) : Below B w w' :=
  ⟨h.os, h.tape, h.output, h.size, fun k hk => h.blk k (by omega) (by omega) (fun e => by have := hv k e; omega)⟩
end

end Go.Proofs.YtbfggmeppakcgaaGreat

/- Contracts on nodes: whether one has no text and no number, a name; whether all nodes of a list are so. -/
namespace Go.Proofs.YtbfggmeppakcgaaGreat
open Go.RowKit

/-- Function number `f` tells of a node whether `p` holds. -/
def Asks (f : FuncId) (p : Tree → Bool) (t : Tree) : Prop := ∀ w, NodeIn w t → Calls Tryz.prog f #[treeV t] w fun e w' => e = .returned (.bool (p t)) ∧ Ext w w'
/-- Function number `f` tells of a text whether `p` holds. -/
def AsksS (f : FuncId) (p : Str → Bool) : Prop := ∀ (s : Str) (w : World), s.length ≤ 9223372036854775807 → Calls Tryz.prog f #[encStr s] w fun e w' => e = .returned (.bool (p s)) ∧ w' = w
abbrev nodeCells (t : Tree) : Obj := .cells #[.int .i64 t.kind, .int .i64 t.pos, .int .i64 t.n, encStr t.text, .slice t.A t.kids.length t.cap] 28
theorem NBox.new (w : World) (t : Tree) : NBox (w.alloc (.cells #[.int .i64 t.kind, .int .i64 t.pos, .int .i64 t.n, encStr t.text, .slice t.A t.kids.length t.cap] 28)) w.heap.size t := at_newB _ _ _ rfl

def bareB (t : Tree) : Bool := (t.text == []) && t.n == 0
def namedB (p : Str → Bool) (t : Tree) : Bool := (t.n == 0) && p t.text

theorem n_bare (t : Tree) : Asks 70 bareB t := by
  intro w h
  have HR : Hid (bareB t = ((t.text == []) && t.n == 0)) := hide rfl
  generalize bareB t = R at *
  unfold treeV
  cases hs : (t.text == [])
  · go_enter Tryz.func70, Tryz.ntmps70
    go_wp2
    go_ret
    exact ⟨by rw [HR.out, hs]; rfl, (by repeat (first | exact Ext.refl _ | exact Ext.pre (by simp) | exact Ext.alloc (by assumption) _ | refine Ext.alloc ?_ _ |  refine Ext.more ?_ _ _ | refine Ext.drew ?_ | refine Ext.drewN ?_ _))⟩
  · have hs2 : t.text = [] := eq_of_beq hs
    by_cases hn : t.n = 0
    · go_enter Tryz.func70, Tryz.ntmps70
      go_wp2
      go_ret
      exact ⟨by rw [HR.out, hs]; simp [hn], (by repeat (first | exact Ext.refl _ | exact Ext.pre (by simp) | exact Ext.alloc (by assumption) _ | refine Ext.alloc ?_ _ |  refine Ext.more ?_ _ _ | refine Ext.drew ?_ | refine Ext.drewN ?_ _))⟩
    · go_enter Tryz.func70, Tryz.ntmps70
      go_wp2
      go_ret
      exact ⟨by rw [HR.out, hs]; simp, (by repeat (first | exact Ext.refl _ | exact Ext.pre (by simp) | exact Ext.alloc (by assumption) _ | refine Ext.alloc ?_ _ |  refine Ext.more ?_ _ _ | refine Ext.drew ?_ | refine Ext.drewN ?_ _))⟩

theorem n_named (f : FuncId) (p : Str → Bool) (hf : AsksS f p) (eg : Opens f) (t : Tree) (w : World) (h : NodeIn w t) :
    Calls Tryz.prog 67 #[treeV t, .func (.func f) #[] #[]] w fun e w' => e = .returned (.bool (namedB p t)) ∧ Ext w w' := by
  have HR : Hid (namedB p t = ((t.n == 0) && p t.text)) := hide rfl
  have HF := hide (fun w' => hf t.text w' h.txt)
  unfold Opens at eg
  generalize namedB p t = R at *
  clear hf
  unfold treeV
  by_cases hn : t.n = 0
  · generalize p t.text = B at *
    go_enter Tryz.func67, Tryz.ntmps67
    go_wp2_with fail
    refine (HF.out _).mono ?_
    rintro e w1 ⟨rfl, rfl⟩
    go_wp2
    go_ret
    exact ⟨by rw [HR.out]; simp [hn], (by repeat (first | exact Ext.refl _ | exact Ext.pre (by simp) | exact Ext.alloc (by assumption) _ | refine Ext.alloc ?_ _ |  refine Ext.more ?_ _ _ | refine Ext.drew ?_ | refine Ext.drewN ?_ _))⟩
  · go_enter Tryz.func67, Tryz.ntmps67
    go_wp2
    go_ret
    exact ⟨by rw [HR.out]; simp [hn], (by repeat (first | exact Ext.refl _ | exact Ext.pre (by simp) | exact Ext.alloc (by assumption) _ | refine Ext.alloc ?_ _ |  refine Ext.more ?_ _ _ | refine Ext.drew ?_ | refine Ext.drewN ?_ _))⟩

set_option maxRecDepth 10000 in
set_option maxHeartbeats 1000000 in
theorem n_each (f : FuncId) (p : Tree → Bool) (eg : Opens f) (A : Option Addr) (cap : Nat) (l : List Tree) (w : World) (h : NodesIn w A l) (hle : l.length ≤ 9223372036854775807) (hf : ∀ k ∈ l, Asks f p k) :
    Calls Tryz.prog 71 #[.slice A l.length cap, .func (.func f) #[] #[]] w fun e w' => e = .returned (.bool (l.all p)) ∧ Ext w w' := by
  have HK := hide h
  have HF := hide hf
  have HR : Hid ((l.drop 0).all p = l.all p) := hide rfl
  generalize l.all p = R at *
  unfold Opens at eg
  clear h hf
  go_enter Tryz.func71, Tryz.ntmps71
  go_wp2
  go_loopw [9] (fun i wr => ∃ k : Nat, k ≤ l.length ∧ i = .int .i64 k ∧ Hid (Ext w wr) ∧ Hid ((l.drop k).all p = R)) (fun i _ => l.length - (intOf i).toNat)
  case atStart => exact ⟨0, Nat.zero_le _, rfl, hide (Ext.refl _), HR⟩
  case round =>
    obtain ⟨k, hk, rfl, HX, HD⟩ := hrel
    by_cases hlt : k < l.length
    · have hlt' : (k : Int) < (l.length : Int) := by omega
      have hk0 : (0 : Int) ≤ (k : Int) := by omega
      obtain ⟨b, o, rfl, hb, q0, q1, q2, q3, q4⟩ := (HK.out.ext HX.out).at_ hlt
      have HC := hide (HF.out _ (List.getElem_mem hlt) (wr.alloc (.cells #[.int .i64 (l[k]'hlt).kind, .int .i64 (l[k]'hlt).pos, .int .i64 (l[k]'hlt).n, encStr (l[k]'hlt).text, .slice (l[k]'hlt).A (l[k]'hlt).kids.length (l[k]'hlt).cap] 28)) ((HK.out.kids _ (List.getElem_mem hlt)).ext (HX.out.alloc _)))
      have HD2 : Hid ((p (l[k]'hlt) && (l.drop (k + 1)).all p) = R) := hide (by have := HD.out; rwa [List.drop_eq_getElem_cons hlt] at this)
      have HX2 : Hid (Ext w (wr.alloc (.cells #[.int .i64 (l[k]'hlt).kind, .int .i64 (l[k]'hlt).pos, .int .i64 (l[k]'hlt).n, encStr (l[k]'hlt).text, .slice (l[k]'hlt).A (l[k]'hlt).kids.length (l[k]'hlt).cap] 28))) := hide (HX.out.alloc _)
      generalize l[k]'hlt = c at *
      cases hp : p c
      · rw [hp] at HD2 HC
        have hR : R = false := HD2.out.symm
        clear HD HD2 HR
        subst hR
        go_wp2_with fail
        refine HC.out.mono ?_
        rintro e w3 ⟨rfl, hx3⟩
        go_wp2
        go_ret
        exact ⟨rfl, HX2.out.trans hx3⟩
      · rw [hp] at HD2 HC
        have HD3 : Hid ((l.drop (k + 1)).all p = R) := hide (by simpa using HD2.out)
        go_wp2_with fail
        refine HC.out.mono ?_
        rintro e w3 ⟨rfl, hx3⟩
        have X3 := hide (HX2.out.trans hx3)
        clear hx3
        go_wp2
        go_roundw
        case rel => exact ⟨k + 1, hlt, by go_num, X3, HD3⟩
        case measure => simp [intOf]; omega
    · have hge : ¬ (k : Int) < (l.length : Int) := by omega
      have hR : R = true := by have := HD.out; rw [List.drop_eq_nil_of_le (by omega)] at this; exact this.symm
      clear HD HR
      subst hR
      go_wp2
      go_ret
      exact ⟨rfl, HX.out⟩

end Go.Proofs.YtbfggmeppakcgaaGreat

/- What is a type, a pattern, an expression: the plain law. No walk here. -/
namespace Go.Proofs.YtbfggmeppakcgaaGreat
open Go.RowKit

def Tree.kid (t : Tree) (i : Nat) : Tree := t.kids.getD i Tree.zero
theorem kid_get {t : Tree} {i : Nat} (h : i < t.kids.length) : t.kid i = t.kids[i]'h := by unfold Tree.kid; simp [h]

noncomputable def typeB : Tree → Bool := Tree.fold fun t l =>
  if t.kind = 1 then namedB varB t && decide (t.kids.length = 0)
  else if t.kind = 2 ∧ t.n = 0 then (if t.text = [45, 62] then decide (t.kids.length = 2) && l.all id else conB t.text && l.all id)
  else false
theorem all_map {f : Tree → Bool} (l : List Tree) : (l.map f).all id = l.all f := by rw [List.all_map]; rfl
theorem typeB_eq (t : Tree) : typeB t = if t.kind = 1 then namedB varB t && decide (t.kids.length = 0)
  else if t.kind = 2 ∧ t.n = 0 then (if t.text = [45, 62] then decide (t.kids.length = 2) && t.kids.all typeB else conB t.text && t.kids.all typeB)
  else false := by
  unfold typeB
  rw [Tree.fold_eq, all_map]
noncomputable def patB : Tree → Bool := Tree.fold fun t l =>
  if t.kind = 11 then namedB varB t && decide (t.kids.length = 0)
  else if t.kind = 12 then bareB t && decide (t.kids.length = 0)
  else if t.kind = 13 then (t.text == []) && decide (0 ≤ t.n) && decide (t.kids.length = 0)
  else if t.kind = 14 then namedB conB t && l.all id
  else false
theorem patB_eq (t : Tree) : patB t = if t.kind = 11 then namedB varB t && decide (t.kids.length = 0)
  else if t.kind = 12 then bareB t && decide (t.kids.length = 0)
  else if t.kind = 13 then (t.text == []) && decide (0 ≤ t.n) && decide (t.kids.length = 0)
  else if t.kind = 14 then namedB conB t && t.kids.all patB
  else false := by
  unfold patB
  rw [Tree.fold_eq, all_map]
noncomputable def predB (t : Tree) : Bool := decide (t.kind = 3) && namedB conB t && decide (t.kids.length = 1) && typeB (t.kid 0)
noncomputable def qualB (t : Tree) : Bool := decide (t.kind = 4) && bareB t && decide (1 ≤ t.kids.length) && (t.kids.take (t.kids.length - 1)).all predB && typeB (t.kid (t.kids.length - 1))
noncomputable def sigB (t : Tree) : Bool := decide (t.kind = 32) && namedB varB t && decide (t.kids.length = 1) && qualB (t.kid 0)

/-- An expression; a binding; an alternative. -/
noncomputable def expF (t : Tree) (l : List (Bool × Bool × Bool)) : Bool × Bool × Bool :=
  (if t.kind = 21 then namedB varB t && decide (t.kids.length = 0)
   else if t.kind = 22 then namedB conB t && decide (t.kids.length = 0)
   else if t.kind = 23 then (t.text == []) && decide (0 ≤ t.n) && decide (t.kids.length = 0)
   else if t.kind = 24 then bareB t && decide (t.kids.length = 2) && (l.map (·.1)).all id
   else if t.kind = 25 then namedB varB t && decide (t.kids.length = 1) && (l.getD 0 (false, false, false)).1
   else if t.kind = 26 then bareB t && decide (2 ≤ t.kids.length) && ((t.kids.zip l).take (t.kids.length - 1)).all (fun x => x.2.2.1 || sigB x.1) && (l.getD (t.kids.length - 1) (false, false, false)).1
   else if t.kind = 27 then bareB t && decide (2 ≤ t.kids.length) && (l.getD 0 (false, false, false)).1 && ((l.drop 1).map (·.2.2)).all id
   else if t.kind = 28 then bareB t && decide (t.kids.length = 3) && (l.map (·.1)).all id
   else false,
   decide (t.kind = 31) && namedB varB t && decide (t.kids.length = 1) && (l.getD 0 (false, false, false)).1,
   decide (t.kind = 15) && bareB t && decide (t.kids.length = 2) && patB (t.kid 0) && (l.getD 1 (false, false, false)).1)
noncomputable def expT : Tree → Bool × Bool × Bool := Tree.fold expF
noncomputable def expB (t : Tree) : Bool := (expT t).1
noncomputable def bindB (t : Tree) : Bool := (expT t).2.1
noncomputable def altB (t : Tree) : Bool := (expT t).2.2
noncomputable def withinB (t : Tree) : Bool := bindB t || sigB t

theorem getD_map1 {t : Tree} {i : Nat} (h : i < t.kids.length) : ((t.kids.map expT).getD i (false, false, false)).1 = expB (t.kid i) := by
  rw [kid_get h]
  simp [h, expB]
theorem map1 (l : List Tree) : ((l.map expT).map (·.1)).all id = l.all expB := by
  rw [List.map_map, List.all_map]; rfl
theorem map3 (l : List Tree) : (((l.map expT).drop 1).map (·.2.2)).all id = (l.drop 1).all altB := by
  rw [← List.map_drop, List.map_map, List.all_map]; rfl
theorem zipE (l : List Tree) (n : Nat) : ((l.zip (l.map expT)).take n).all (fun x => x.2.2.1 || sigB x.1) = (l.take n).all withinB := by
  have : l.zip (l.map expT) = l.map (fun k => (k, expT k)) := by
    induction l with
    | nil => rfl
    | cons x l ih => simp only [List.map_cons, List.zip_cons_cons, ih]
  rw [this, ← List.map_take, List.all_map]
  rfl
section
variable (t : Tree)
theorem exp_eq : expB t = (expF t (t.kids.map expT)).1 := by unfold expB expT; rw [Tree.fold_eq]
theorem exp_var (h : t.kind = 21) : expB t = (namedB varB t && decide (t.kids.length = 0)) := by rw [exp_eq]; simp [expF, h]
theorem exp_con (h : t.kind = 22) : expB t = (namedB conB t && decide (t.kids.length = 0)) := by rw [exp_eq]; simp [expF, h]
theorem exp_int (h : t.kind = 23) : expB t = ((t.text == []) && decide (0 ≤ t.n) && decide (t.kids.length = 0)) := by rw [exp_eq]; simp [expF, h]
theorem exp_app (h : t.kind = 24) : expB t = (bareB t && decide (t.kids.length = 2) && t.kids.all expB) := by rw [exp_eq, ← map1]; simp only [expF, h]; rfl
theorem exp_lam (h : t.kind = 25) : expB t = (namedB varB t && decide (t.kids.length = 1) && expB (t.kid 0)) := by
  rw [exp_eq]
  by_cases hl : t.kids.length = 1
  · rw [← getD_map1 (by omega)]; simp only [expF, h]; rfl
  · simp [expF, h, hl]
theorem exp_let (h : t.kind = 26) : expB t = (bareB t && decide (2 ≤ t.kids.length) && (t.kids.take (t.kids.length - 1)).all withinB && expB (t.kid (t.kids.length - 1))) := by
  rw [exp_eq, ← zipE]
  by_cases hl : 2 ≤ t.kids.length
  · rw [← getD_map1 (by omega)]; simp only [expF, h]; rfl
  · simp [expF, h, hl]
theorem exp_case (h : t.kind = 27) : expB t = (bareB t && decide (2 ≤ t.kids.length) && expB (t.kid 0) && (t.kids.drop 1).all altB) := by
  rw [exp_eq, ← map3]
  by_cases hl : 2 ≤ t.kids.length
  · rw [← getD_map1 (by omega)]; simp only [expF, h]; rfl
  · simp [expF, h, hl]
theorem exp_if (h : t.kind = 28) : expB t = (bareB t && decide (t.kids.length = 3) && t.kids.all expB) := by rw [exp_eq, ← map1]; simp only [expF, h]; rfl
theorem exp_else (h1 : t.kind ≠ 21) (h2 : t.kind ≠ 22) (h3 : t.kind ≠ 23) (h4 : t.kind ≠ 24) (h5 : t.kind ≠ 25) (h6 : t.kind ≠ 26) (h7 : t.kind ≠ 27) (h8 : t.kind ≠ 28) : expB t = false := by
  rw [exp_eq]; simp [expF, h1, h2, h3, h4, h5, h6, h7, h8]
theorem bind_eq : bindB t = (decide (t.kind = 31) && namedB varB t && decide (t.kids.length = 1) && expB (t.kid 0)) := by
  have e : bindB t = (expF t (t.kids.map expT)).2.1 := by unfold bindB expT; rw [Tree.fold_eq]
  rw [e]
  by_cases hl : t.kids.length = 1
  · rw [← getD_map1 (by omega)]; rfl
  · simp [expF, hl]
theorem alt_eq : altB t = (decide (t.kind = 15) && bareB t && decide (t.kids.length = 2) && patB (t.kid 0) && expB (t.kid 1)) := by
  have e : altB t = (expF t (t.kids.map expT)).2.2 := by unfold altB expT; rw [Tree.fold_eq]
  rw [e]
  by_cases hl : t.kids.length = 2
  · rw [← getD_map1 (by omega)]; rfl
  · simp [expF, hl]
end

section
variable {w w' : World} {b o : Nat} {l : List Tree}
/-- The cells of a node in a row. -/
theorem NodesIn.cells (h : NodesIn w (some ⟨b, o, none⟩) l) {i : Nat} (hi : i < l.length) :
    w.cell? ⟨b, o + i * 5, none⟩ = some (.int .i64 (l[i]'hi).kind) ∧ w.cell? ⟨b, o + i * 5 + 1, none⟩ = some (.int .i64 (l[i]'hi).pos) ∧
      w.cell? ⟨b, o + i * 5 + 2, none⟩ = some (.int .i64 (l[i]'hi).n) ∧ w.cell? ⟨b, o + i * 5 + 3, none⟩ = some (.string ⟨(l[i]'hi).text.toArray⟩) ∧
      w.cell? ⟨b, o + i * 5 + 4, none⟩ = some (.slice (l[i]'hi).A (l[i]'hi).kids.length (l[i]'hi).cap) := by
  obtain ⟨b', o', e, _, h1⟩ := h.at_ hi
  cases e
  exact h1
theorem NodesIn.lt (h : NodesIn w (some ⟨b, o, none⟩) l) (hi : 0 < l.length) : b < w.heap.size := by
  obtain ⟨b', o', e, hb, _⟩ := h.at_ hi
  cases e
  exact hb
theorem NodesIn.some_ {A : Option Addr} (h : NodesIn w A l) (hi : 0 < l.length) : ∃ b o, A = some ⟨b, o, none⟩ ∧ b < w.heap.size := by
  obtain ⟨b', o', e, hb, _⟩ := h.at_ hi
  exact ⟨b', o', e, hb⟩
theorem NodesIn.take {A : Option Addr} (h : NodesIn w A l) {k : Nat} (hk : k ≤ l.length) : NodesIn w A (l.take k) := ⟨RowOf.take treeC h.row hk, fun x hx => h.kids x (List.mem_of_mem_take hx)⟩
theorem NodesIn.cut {A : Option Addr} (h : NodesIn w A l) {k cap : Nat} (hk : k ≤ l.length) (hc : l.length ≤ cap) : NodesIn w (if cap = k then A else A.map (·.add (k * 5))) (l.drop k) :=
  ⟨RowOf.cut treeC h.row hk hc, fun x hx => h.kids x (List.mem_of_mem_drop hx)⟩
end

end Go.Proofs.YtbfggmeppakcgaaGreat
