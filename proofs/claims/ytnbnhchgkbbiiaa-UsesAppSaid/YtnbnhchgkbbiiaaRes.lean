/- Contracts on names: whether a text is reserved, and which may be names. -/
import Derived.Test.YtnbnhchgkbbiiaaNam
namespace Go.Proofs.Ytnbnhchgkbbiiaa
open Go.RowKit

def resW : List Str := [[100, 97, 116, 97], [99, 108, 97, 115, 115], [105, 110, 115, 116, 97, 110, 99, 101], [119, 104, 101, 114, 101], [108, 101, 116], [105, 110], [99, 97, 115, 101], [111, 102], [105, 102], [116, 104, 101, 110], [101, 108, 115, 101]]
def resB (s : Str) : Bool := resW.any (· == s)

set_option maxRecDepth 10000 in
set_option maxHeartbeats 1000000 in
theorem n_reserved (s : Str) (w : World) : Calls Try.prog 97 #[encStr s] w fun e w' => e = .returned (.bool (resB s)) ∧ w' = w := by
  have HR : Hid ((resW.drop 0).any (· == s) = resB s) := hide rfl
  generalize resB s = R at *
  go_enter Try.func97, Try.ntmps97
  go_wp2
  go_step3
  go_wp2
  go_step3
  go_wp2
  go_loop [7, 3] (fun i f => ∃ k : Nat, k ≤ 11 ∧ i = .int .i64 k ∧ f = .bool false ∧ Hid ((resW.drop k).any (· == s) = R)) (fun i _ => 11 - (intOf i).toNat)
  case atStart => exact ⟨0, Nat.zero_le _, rfl, rfl, HR⟩
  case round =>
    obtain ⟨k, hk, rfl, rfl, HK⟩ := hrel
    by_cases hlt : k < 11
    · have hk11 : k = 0 ∨ k = 1 ∨ k = 2 ∨ k = 3 ∨ k = 4 ∨ k = 5 ∨ k = 6 ∨ k = 7 ∨ k = 8 ∨ k = 9 ∨ k = 10 := by omega
      rcases hk11 with rfl | rfl | rfl | rfl | rfl | rfl | rfl | rfl | rfl | rfl | rfl
      · have hi : (Instr.index 137 (.agg #[.string { data := #[100, 97, 116, 97] }, .string { data := #[99, 108, 97, 115, 115] }, .string { data := #[105, 110, 115, 116, 97, 110, 99, 101] }, .string { data := #[119, 104, 101, 114, 101] }, .string { data := #[108, 101, 116] }, .string { data := #[105, 110] }, .string { data := #[99, 97, 115, 101] }, .string { data := #[111, 102] }, .string { data := #[105, 102] }, .string { data := #[116, 104, 101, 110] }, .string { data := #[101, 108, 115, 101] }]) (.int .i64 0)).run Try.prog w = .ok (.string { data := #[100, 97, 116, 97] }) w := by kernel_rfl
        have h2 : ((([100, 97, 116, 97] : Str) == s) || ((resW.drop 1).any (· == s))) = R := HK.out
        cases hs : (([100, 97, 116, 97] : Str) == s)
        · rw [hs, Bool.false_or] at h2
          have H2 := hide h2
          clear h2 HK HR
          go_wp2
          exact ⟨⟨1, by decide, rfl, rfl, H2⟩, by simp [intOf]⟩
        · rw [hs, Bool.true_or] at h2
          clear HK HR
          subst h2
          go_wp2
          go_ret
          exact ⟨rfl, rfl⟩
      · have hi : (Instr.index 137 (.agg #[.string { data := #[100, 97, 116, 97] }, .string { data := #[99, 108, 97, 115, 115] }, .string { data := #[105, 110, 115, 116, 97, 110, 99, 101] }, .string { data := #[119, 104, 101, 114, 101] }, .string { data := #[108, 101, 116] }, .string { data := #[105, 110] }, .string { data := #[99, 97, 115, 101] }, .string { data := #[111, 102] }, .string { data := #[105, 102] }, .string { data := #[116, 104, 101, 110] }, .string { data := #[101, 108, 115, 101] }]) (.int .i64 1)).run Try.prog w = .ok (.string { data := #[99, 108, 97, 115, 115] }) w := by kernel_rfl
        have h2 : ((([99, 108, 97, 115, 115] : Str) == s) || ((resW.drop 2).any (· == s))) = R := HK.out
        cases hs : (([99, 108, 97, 115, 115] : Str) == s)
        · rw [hs, Bool.false_or] at h2
          have H2 := hide h2
          clear h2 HK HR
          go_wp2
          exact ⟨⟨2, by decide, rfl, rfl, H2⟩, by simp [intOf]⟩
        · rw [hs, Bool.true_or] at h2
          clear HK HR
          subst h2
          go_wp2
          go_ret
          exact ⟨rfl, rfl⟩
      · have hi : (Instr.index 137 (.agg #[.string { data := #[100, 97, 116, 97] }, .string { data := #[99, 108, 97, 115, 115] }, .string { data := #[105, 110, 115, 116, 97, 110, 99, 101] }, .string { data := #[119, 104, 101, 114, 101] }, .string { data := #[108, 101, 116] }, .string { data := #[105, 110] }, .string { data := #[99, 97, 115, 101] }, .string { data := #[111, 102] }, .string { data := #[105, 102] }, .string { data := #[116, 104, 101, 110] }, .string { data := #[101, 108, 115, 101] }]) (.int .i64 2)).run Try.prog w = .ok (.string { data := #[105, 110, 115, 116, 97, 110, 99, 101] }) w := by kernel_rfl
        have h2 : ((([105, 110, 115, 116, 97, 110, 99, 101] : Str) == s) || ((resW.drop 3).any (· == s))) = R := HK.out
        cases hs : (([105, 110, 115, 116, 97, 110, 99, 101] : Str) == s)
        · rw [hs, Bool.false_or] at h2
          have H2 := hide h2
          clear h2 HK HR
          go_wp2
          exact ⟨⟨3, by decide, rfl, rfl, H2⟩, by simp [intOf]⟩
        · rw [hs, Bool.true_or] at h2
          clear HK HR
          subst h2
          go_wp2
          go_ret
          exact ⟨rfl, rfl⟩
      · have hi : (Instr.index 137 (.agg #[.string { data := #[100, 97, 116, 97] }, .string { data := #[99, 108, 97, 115, 115] }, .string { data := #[105, 110, 115, 116, 97, 110, 99, 101] }, .string { data := #[119, 104, 101, 114, 101] }, .string { data := #[108, 101, 116] }, .string { data := #[105, 110] }, .string { data := #[99, 97, 115, 101] }, .string { data := #[111, 102] }, .string { data := #[105, 102] }, .string { data := #[116, 104, 101, 110] }, .string { data := #[101, 108, 115, 101] }]) (.int .i64 3)).run Try.prog w = .ok (.string { data := #[119, 104, 101, 114, 101] }) w := by kernel_rfl
        have h2 : ((([119, 104, 101, 114, 101] : Str) == s) || ((resW.drop 4).any (· == s))) = R := HK.out
        cases hs : (([119, 104, 101, 114, 101] : Str) == s)
        · rw [hs, Bool.false_or] at h2
          have H2 := hide h2
          clear h2 HK HR
          go_wp2
          exact ⟨⟨4, by decide, rfl, rfl, H2⟩, by simp [intOf]⟩
        · rw [hs, Bool.true_or] at h2
          clear HK HR
          subst h2
          go_wp2
          go_ret
          exact ⟨rfl, rfl⟩
      · have hi : (Instr.index 137 (.agg #[.string { data := #[100, 97, 116, 97] }, .string { data := #[99, 108, 97, 115, 115] }, .string { data := #[105, 110, 115, 116, 97, 110, 99, 101] }, .string { data := #[119, 104, 101, 114, 101] }, .string { data := #[108, 101, 116] }, .string { data := #[105, 110] }, .string { data := #[99, 97, 115, 101] }, .string { data := #[111, 102] }, .string { data := #[105, 102] }, .string { data := #[116, 104, 101, 110] }, .string { data := #[101, 108, 115, 101] }]) (.int .i64 4)).run Try.prog w = .ok (.string { data := #[108, 101, 116] }) w := by kernel_rfl
        have h2 : ((([108, 101, 116] : Str) == s) || ((resW.drop 5).any (· == s))) = R := HK.out
        cases hs : (([108, 101, 116] : Str) == s)
        · rw [hs, Bool.false_or] at h2
          have H2 := hide h2
          clear h2 HK HR
          go_wp2
          exact ⟨⟨5, by decide, rfl, rfl, H2⟩, by simp [intOf]⟩
        · rw [hs, Bool.true_or] at h2
          clear HK HR
          subst h2
          go_wp2
          go_ret
          exact ⟨rfl, rfl⟩
      · have hi : (Instr.index 137 (.agg #[.string { data := #[100, 97, 116, 97] }, .string { data := #[99, 108, 97, 115, 115] }, .string { data := #[105, 110, 115, 116, 97, 110, 99, 101] }, .string { data := #[119, 104, 101, 114, 101] }, .string { data := #[108, 101, 116] }, .string { data := #[105, 110] }, .string { data := #[99, 97, 115, 101] }, .string { data := #[111, 102] }, .string { data := #[105, 102] }, .string { data := #[116, 104, 101, 110] }, .string { data := #[101, 108, 115, 101] }]) (.int .i64 5)).run Try.prog w = .ok (.string { data := #[105, 110] }) w := by kernel_rfl
        have h2 : ((([105, 110] : Str) == s) || ((resW.drop 6).any (· == s))) = R := HK.out
        cases hs : (([105, 110] : Str) == s)
        · rw [hs, Bool.false_or] at h2
          have H2 := hide h2
          clear h2 HK HR
          go_wp2
          exact ⟨⟨6, by decide, rfl, rfl, H2⟩, by simp [intOf]⟩
        · rw [hs, Bool.true_or] at h2
          clear HK HR
          subst h2
          go_wp2
          go_ret
          exact ⟨rfl, rfl⟩
      · have hi : (Instr.index 137 (.agg #[.string { data := #[100, 97, 116, 97] }, .string { data := #[99, 108, 97, 115, 115] }, .string { data := #[105, 110, 115, 116, 97, 110, 99, 101] }, .string { data := #[119, 104, 101, 114, 101] }, .string { data := #[108, 101, 116] }, .string { data := #[105, 110] }, .string { data := #[99, 97, 115, 101] }, .string { data := #[111, 102] }, .string { data := #[105, 102] }, .string { data := #[116, 104, 101, 110] }, .string { data := #[101, 108, 115, 101] }]) (.int .i64 6)).run Try.prog w = .ok (.string { data := #[99, 97, 115, 101] }) w := by kernel_rfl
        have h2 : ((([99, 97, 115, 101] : Str) == s) || ((resW.drop 7).any (· == s))) = R := HK.out
        cases hs : (([99, 97, 115, 101] : Str) == s)
        · rw [hs, Bool.false_or] at h2
          have H2 := hide h2
          clear h2 HK HR
          go_wp2
          exact ⟨⟨7, by decide, rfl, rfl, H2⟩, by simp [intOf]⟩
        · rw [hs, Bool.true_or] at h2
          clear HK HR
          subst h2
          go_wp2
          go_ret
          exact ⟨rfl, rfl⟩
      · have hi : (Instr.index 137 (.agg #[.string { data := #[100, 97, 116, 97] }, .string { data := #[99, 108, 97, 115, 115] }, .string { data := #[105, 110, 115, 116, 97, 110, 99, 101] }, .string { data := #[119, 104, 101, 114, 101] }, .string { data := #[108, 101, 116] }, .string { data := #[105, 110] }, .string { data := #[99, 97, 115, 101] }, .string { data := #[111, 102] }, .string { data := #[105, 102] }, .string { data := #[116, 104, 101, 110] }, .string { data := #[101, 108, 115, 101] }]) (.int .i64 7)).run Try.prog w = .ok (.string { data := #[111, 102] }) w := by kernel_rfl
        have h2 : ((([111, 102] : Str) == s) || ((resW.drop 8).any (· == s))) = R := HK.out
        cases hs : (([111, 102] : Str) == s)
        · rw [hs, Bool.false_or] at h2
          have H2 := hide h2
          clear h2 HK HR
          go_wp2
          exact ⟨⟨8, by decide, rfl, rfl, H2⟩, by simp [intOf]⟩
        · rw [hs, Bool.true_or] at h2
          clear HK HR
          subst h2
          go_wp2
          go_ret
          exact ⟨rfl, rfl⟩
      · have hi : (Instr.index 137 (.agg #[.string { data := #[100, 97, 116, 97] }, .string { data := #[99, 108, 97, 115, 115] }, .string { data := #[105, 110, 115, 116, 97, 110, 99, 101] }, .string { data := #[119, 104, 101, 114, 101] }, .string { data := #[108, 101, 116] }, .string { data := #[105, 110] }, .string { data := #[99, 97, 115, 101] }, .string { data := #[111, 102] }, .string { data := #[105, 102] }, .string { data := #[116, 104, 101, 110] }, .string { data := #[101, 108, 115, 101] }]) (.int .i64 8)).run Try.prog w = .ok (.string { data := #[105, 102] }) w := by kernel_rfl
        have h2 : ((([105, 102] : Str) == s) || ((resW.drop 9).any (· == s))) = R := HK.out
        cases hs : (([105, 102] : Str) == s)
        · rw [hs, Bool.false_or] at h2
          have H2 := hide h2
          clear h2 HK HR
          go_wp2
          exact ⟨⟨9, by decide, rfl, rfl, H2⟩, by simp [intOf]⟩
        · rw [hs, Bool.true_or] at h2
          clear HK HR
          subst h2
          go_wp2
          go_ret
          exact ⟨rfl, rfl⟩
      · have hi : (Instr.index 137 (.agg #[.string { data := #[100, 97, 116, 97] }, .string { data := #[99, 108, 97, 115, 115] }, .string { data := #[105, 110, 115, 116, 97, 110, 99, 101] }, .string { data := #[119, 104, 101, 114, 101] }, .string { data := #[108, 101, 116] }, .string { data := #[105, 110] }, .string { data := #[99, 97, 115, 101] }, .string { data := #[111, 102] }, .string { data := #[105, 102] }, .string { data := #[116, 104, 101, 110] }, .string { data := #[101, 108, 115, 101] }]) (.int .i64 9)).run Try.prog w = .ok (.string { data := #[116, 104, 101, 110] }) w := by kernel_rfl
        have h2 : ((([116, 104, 101, 110] : Str) == s) || ((resW.drop 10).any (· == s))) = R := HK.out
        cases hs : (([116, 104, 101, 110] : Str) == s)
        · rw [hs, Bool.false_or] at h2
          have H2 := hide h2
          clear h2 HK HR
          go_wp2
          exact ⟨⟨10, by decide, rfl, rfl, H2⟩, by simp [intOf]⟩
        · rw [hs, Bool.true_or] at h2
          clear HK HR
          subst h2
          go_wp2
          go_ret
          exact ⟨rfl, rfl⟩
      · have hi : (Instr.index 137 (.agg #[.string { data := #[100, 97, 116, 97] }, .string { data := #[99, 108, 97, 115, 115] }, .string { data := #[105, 110, 115, 116, 97, 110, 99, 101] }, .string { data := #[119, 104, 101, 114, 101] }, .string { data := #[108, 101, 116] }, .string { data := #[105, 110] }, .string { data := #[99, 97, 115, 101] }, .string { data := #[111, 102] }, .string { data := #[105, 102] }, .string { data := #[116, 104, 101, 110] }, .string { data := #[101, 108, 115, 101] }]) (.int .i64 10)).run Try.prog w = .ok (.string { data := #[101, 108, 115, 101] }) w := by kernel_rfl
        have h2 : ((([101, 108, 115, 101] : Str) == s) || ((resW.drop 11).any (· == s))) = R := HK.out
        cases hs : (([101, 108, 115, 101] : Str) == s)
        · rw [hs, Bool.false_or] at h2
          have H2 := hide h2
          clear h2 HK HR
          go_wp2
          exact ⟨⟨11, by decide, rfl, rfl, H2⟩, by simp [intOf]⟩
        · rw [hs, Bool.true_or] at h2
          clear HK HR
          subst h2
          go_wp2
          go_ret
          exact ⟨rfl, rfl⟩
    · have hk11 : k = 11 := by omega
      have h2 : false = R := by have := HK.out; rw [hk11] at this; exact this
      clear HK HR
      subst h2
      have hge : (11 : Int) ≤ (k : Int) := by omega
      go_wp2
      go_ret
      exact ⟨rfl, rfl⟩

def varB (s : Str) : Bool := !(s == []) && !(s == [95]) && smallI ((s.headD 0).toNat : Nat) && goesB s && !resB s
def conB (s : Str) : Bool := !(s == []) && greatI ((s.headD 0).toNat : Nat) && goesB s

set_option maxRecDepth 10000 in
set_option maxHeartbeats 1000000 in
theorem n_con (s : Str) (w : World) (hl : s.length ≤ 9223372036854775807) : Calls Try.prog 68 #[encStr s] w fun e w' => e = .returned (.bool (conB s)) ∧ w' = w := by
  cases s with
  | nil =>
    go_enter Try.func68, Try.ntmps68
    go_wp2
    go_ret
    exact ⟨rfl, rfl⟩
  | cons b s =>
    have HC : Hid (conB (b :: s) = (greatI (b.toNat : Nat) && goesB (b :: s))) := hide rfl
    have HG := hide (fun w' => n_great (b.toNat : Nat) w')
    have HO := hide (fun w' => n_goes (b :: s) w' hl)
    generalize conB (b :: s) = R at *
    generalize greatI (b.toNat : Nat) = B1 at *
    generalize goesB (b :: s) = B2 at *
    cases B1
    · have hR : R = false := by rw [HC.out]; rfl
      clear HC
      subst hR
      go_enter Try.func68, Try.ntmps68
      go_wp2_with fail
      refine (HG.out _).mono ?_
      rintro e w1 ⟨rfl, rfl⟩
      go_wp2
      go_ret
      exact ⟨rfl, rfl⟩
    · have hR : R = B2 := by rw [HC.out]; rfl
      clear HC
      subst hR
      go_enter Try.func68, Try.ntmps68
      go_wp2_with fail
      refine (HG.out _).mono ?_
      rintro e w1 ⟨rfl, rfl⟩
      go_wp2_with fail
      refine (HO.out _).mono ?_
      rintro e w1 ⟨rfl, rfl⟩
      go_wp2
      go_ret
      exact ⟨rfl, rfl⟩

set_option maxRecDepth 10000 in
set_option maxHeartbeats 1000000 in
theorem n_var (s : Str) (w : World) (hl : s.length ≤ 9223372036854775807) : Calls Try.prog 67 #[encStr s] w fun e w' => e = .returned (.bool (varB s)) ∧ w' = w := by
  cases s with
  | nil =>
    go_enter Try.func67, Try.ntmps67
    go_wp2
    go_ret
    exact ⟨rfl, rfl⟩
  | cons b s =>
    by_cases h95 : (b :: s) = [95]
    · rw [h95]
      clear hl h95
      go_enter Try.func67, Try.ntmps67
      go_wp2
      go_ret
      exact ⟨rfl, rfl⟩
    · have HC : Hid (varB (b :: s) = (smallI (b.toNat : Nat) && goesB (b :: s) && !resB (b :: s))) := hide (by
        have e1 : ((b :: s) == ([] : Str)) = false := rfl
        have e2 : ((b :: s) == ([95] : Str)) = false := by simpa using h95
        unfold varB
        rw [e1, e2]
        rfl)
      have HG := hide (fun w' => n_small (b.toNat : Nat) w')
      have HO := hide (fun w' => n_goes (b :: s) w' hl)
      have HV := hide (fun w' => n_reserved (b :: s) w')
      have hne : ¬b = 95 ∨ ¬s = [] := by
        rcases Classical.em (b = 95) with rfl | h
        · exact .inr (fun e => h95 (by rw [e]))
        · exact .inl h
      have hq : (!b == 95 || !s.isEmpty) = true := by
        rcases hne with h | h
        · simp [h]
        · cases s with
          | nil => exact absurd rfl h
          | cons c s => simp
      have Hq := hide hq
      clear h95 hq
      generalize varB (b :: s) = R at *
      generalize smallI (b.toNat : Nat) = B1 at *
      generalize goesB (b :: s) = B2 at *
      generalize resB (b :: s) = B3 at *
      cases B1
      · have hR : R = false := by rw [HC.out]; rfl
        clear HC
        subst hR
        go_enter Try.func67, Try.ntmps67
        go_wp2_with fail
        refine (HG.out _).mono ?_
        rintro e w1 ⟨rfl, rfl⟩
        go_wp2
        go_ret
        exact ⟨rfl, rfl⟩
      · cases B2
        · have hR : R = false := by rw [HC.out]; rfl
          clear HC
          subst hR
          go_enter Try.func67, Try.ntmps67
          go_wp2_with fail
          refine (HG.out _).mono ?_
          rintro e w1 ⟨rfl, rfl⟩
          go_wp2_with fail
          refine (HO.out _).mono ?_
          rintro e w1 ⟨rfl, rfl⟩
          go_wp2
          go_ret
          exact ⟨rfl, rfl⟩
        · have hR : R = !B3 := by rw [HC.out]; rfl
          clear HC
          subst hR
          go_enter Try.func67, Try.ntmps67
          go_wp2_with fail
          refine (HG.out _).mono ?_
          rintro e w1 ⟨rfl, rfl⟩
          go_wp2_with fail
          refine (HO.out _).mono ?_
          rintro e w1 ⟨rfl, rfl⟩
          go_wp2_with fail
          refine (HV.out _).mono ?_
          rintro e w1 ⟨rfl, rfl⟩
          go_wp2
          go_ret
          refine ⟨?_, rfl⟩
          show Ending.returned (Value.bool ((!b == 95 || !s.isEmpty) && !B3)) = _
          rw [Hq.out, Bool.true_and]

end Go.Proofs.Ytnbnhchgkbbiiaa
