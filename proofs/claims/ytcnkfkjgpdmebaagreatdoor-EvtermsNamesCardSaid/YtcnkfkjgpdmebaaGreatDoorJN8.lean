/- Contracts on the library: whether a text begins, or ends, with one byte; what is left without it. -/
import Derived.Test.YtcnkfkjgpdmebaaGreatDoorJN7
import Derived.Laws.Strings3
import Derived.Laws.DeepStrings4
/- Contracts on the library: whether a text begins, or ends, with one byte; what is left without it. -/
namespace Go.Proofs.YtcnkfkjgpdmebaaGreatDoor
open Go.RowKit

theorem sl_to (l : Str) (j : Nat) (i : Int) (hj : j ≤ l.length) (hi : i = j) (w : World) : (Instr.slice 9 (.string ⟨l.toArray⟩) none (some (.int .i64 i)) none).run Tryz.prog w = .ok (.string ⟨(l.take j).toArray⟩) w := by
  subst hi
  rw [run_slice_string_to_if w 9 _ _ _ Tryz.underlying9, if_pos ⟨by omega, by rw [ba_size]; omega⟩, ByteArray.extract_mk]
  simp
theorem sl_from (l : Str) (j : Nat) (i : Int) (hj : j ≤ l.length) (hi : i = j) (w : World) : (Instr.slice 9 (.string ⟨l.toArray⟩) (some (.int .i64 i)) none none).run Tryz.prog w = .ok (.string ⟨(l.drop j).toArray⟩) w := by
  subst hi
  rw [run_slice_string_from_if w 9 _ _ _ Tryz.underlying9, if_pos ⟨by omega, by rw [ba_size]; omega⟩, ByteArray.extract_mk, ba_size]
  have : (l.drop j).take (l.length - j) = l.drop j := List.take_of_length_le (by simp)
  simp [this]
theorem drop_last (l : Str) (h : l ≠ []) : l.drop (l.length - 1) = [l.getLast h] := by
  have h1 : l.length - 1 < l.length := by have := List.length_pos_iff.2 h; omega
  rw [List.drop_eq_getElem_cons h1, List.drop_of_length_le (by omega), List.getLast_eq_getElem]
/-- Does a text begin with a byte? -/
def preB (c : UInt8) : Str → Bool
  | [] => false
  | b :: _ => b == c
/-- Does it end with it? -/
def sufB (c : UInt8) (s : Str) : Bool := !(s == []) && ((s.getLastD 0) == c)

set_option maxRecDepth 10000 in
set_option maxHeartbeats 1000000 in
theorem s_prefixI (s : Str) (c : UInt8) (w : World) (hl : s.length ≤ 9223372036854775807) : Calls Tryz.prog 231 #[encStr s, encStr [c]] w fun e w' => e = .returned (.bool (preB c s)) ∧ w' = w := by
  cases s with
  | nil =>
    go_enter Tryz.func231, Tryz.ntmps231
    go_wp2
    go_ret
    exact ⟨rfl, rfl⟩
  | cons b d =>
    have hg : ((d.length : Int) + 1) ≥ 1 := by omega
    have hsl := fun w' => sl_to (b :: d) 1 1 (by simp) rfl w'
    have HP : Hid (preB c (b :: d) = (b == c)) := hide rfl
    generalize hL : b :: d = L at *
    have hl1 : ((L.length : Nat) : Int) ≥ 1 := by rw [← hL]; simp; omega
    have ht : L.take 1 = [b] := by rw [← hL]; rfl
    rw [ht] at hsl
    clear hL ht hg
    generalize preB c L = R at *
    cases hb : (b == c)
    · have hR : R = false := by rw [HP.out, hb]
      subst hR
      have hq : ([b] == [c]) = false := by simpa using hb
      go_enter Tryz.func231, Tryz.ntmps231
      go_wp2
      go_ret
      exact ⟨rfl, rfl⟩
    · have hR : R = true := by rw [HP.out, hb]
      subst hR
      have hq : ([b] == [c]) = true := by simpa using hb
      go_enter Tryz.func231, Tryz.ntmps231
      go_wp2
      go_ret
      exact ⟨rfl, rfl⟩

set_option maxRecDepth 10000 in
set_option maxHeartbeats 1000000 in
theorem s_suffixI (s : Str) (c : UInt8) (w : World) (hl : s.length ≤ 9223372036854775807) : Calls Tryz.prog 232 #[encStr s, encStr [c]] w fun e w' => e = .returned (.bool (sufB c s)) ∧ w' = w := by
  cases s with
  | nil =>
    go_enter Tryz.func232, Tryz.ntmps232
    go_wp2
    go_ret
    exact ⟨rfl, rfl⟩
  | cons b d =>
    have HP : Hid (sufB c (b :: d) = ((b :: d).getLast (by simp) == c)) := hide (by unfold sufB; rw [List.getLastD_eq_getLast?, List.getLast?_eq_some_getLast (by simp)]; rfl)
    have hsl := fun w' => sl_from (b :: d) ((b :: d).length - 1) (((b :: d).length : Int) - 1) (by omega) (by simp) w'
    have ht : (b :: d).drop ((b :: d).length - 1) = [(b :: d).getLast (by simp)] := drop_last _ (by simp)
    rw [ht] at hsl
    generalize (b :: d).getLast (by simp) = x at *
    generalize hL : b :: d = L at *
    have hl1 : ((L.length : Nat) : Int) ≥ 1 := by rw [← hL]; simp; omega
    clear hL ht
    generalize sufB c L = R at *
    cases hb : (x == c)
    · have hR : R = false := by rw [HP.out, hb]
      subst hR
      have hq : ([x] == [c]) = false := by simpa using hb
      go_enter Tryz.func232, Tryz.ntmps232
      go_wp2
      go_ret
      exact ⟨rfl, rfl⟩
    · have hR : R = true := by rw [HP.out, hb]
      subst hR
      have hq : ([x] == [c]) = true := by simpa using hb
      go_enter Tryz.func232, Tryz.ntmps232
      go_wp2
      go_ret
      exact ⟨rfl, rfl⟩
theorem s_prefix (s : Str) (c : UInt8) (w : World) (hl : s.length ≤ 9223372036854775807) : Calls Tryz.prog 233 #[encStr s, encStr [c]] w fun e w' => e = .returned (.bool (preB c s)) ∧ w' = w := by
  have H := hide (s_prefixI s c w hl)
  generalize preB c s = R at *
  go_enter Tryz.func233, Tryz.ntmps233
  go_wp2_with fail
  refine H.out.mono ?_
  rintro e w2 ⟨rfl, rfl⟩
  go_wp2
  go_ret
  exact ⟨rfl, rfl⟩
/-- What is left without a byte ahead, or behind. -/
def cutP (c : UInt8) (s : Str) : Str := if preB c s then s.drop 1 else s
def cutQ (c : UInt8) (s : Str) : Str := if sufB c s then s.take (s.length - 1) else s
theorem preB_len {c : UInt8} {s : Str} (h : preB c s = true) : 1 ≤ s.length := by cases s with | nil => cases h | cons b d => simp
theorem sufB_len {c : UInt8} {s : Str} (h : sufB c s = true) : 1 ≤ s.length := by cases s with | nil => cases h | cons b d => simp

set_option maxRecDepth 10000 in
set_option maxHeartbeats 1000000 in
theorem s_cutprefixI (s : Str) (c : UInt8) (w : World) (hl : s.length ≤ 9223372036854775807) : Calls Tryz.prog 206 #[encStr s, encStr [c]] w fun e w' => e = .returned (.tuple #[encStr (cutP c s), .bool (preB c s)]) ∧ w' = w := by
  have H := hide (s_prefixI s c w hl)
  cases hp : preB c s
  · have hc : cutP c s = s := by unfold cutP; rw [hp]; rfl
    rw [hc]
    rw [hp] at H
    clear hc
    go_enter Tryz.func206, Tryz.ntmps206
    go_wp2_with fail
    refine H.out.mono ?_
    rintro e w2 ⟨rfl, rfl⟩
    go_wp2
    go_ret2
    exact ⟨rfl, rfl⟩
  · have hc : cutP c s = s.drop 1 := by unfold cutP; rw [hp]; rfl
    have hsl := fun w' => sl_from s 1 1 (preB_len hp) rfl w'
    rw [hc]
    rw [hp] at H
    clear hc
    generalize s.drop 1 = d at *
    go_enter Tryz.func206, Tryz.ntmps206
    go_wp2_with fail
    refine H.out.mono ?_
    rintro e w2 ⟨rfl, rfl⟩
    go_wp2
    go_ret2
    exact ⟨rfl, rfl⟩
set_option maxRecDepth 10000 in
set_option maxHeartbeats 1000000 in
theorem s_cutsuffixI (s : Str) (c : UInt8) (w : World) (hl : s.length ≤ 9223372036854775807) : Calls Tryz.prog 207 #[encStr s, encStr [c]] w fun e w' => e = .returned (.tuple #[encStr (cutQ c s), .bool (sufB c s)]) ∧ w' = w := by
  have H := hide (s_suffixI s c w hl)
  cases hp : sufB c s
  · have hc : cutQ c s = s := by unfold cutQ; rw [hp]; rfl
    rw [hc]
    rw [hp] at H
    clear hc
    go_enter Tryz.func207, Tryz.ntmps207
    go_wp2_with fail
    refine H.out.mono ?_
    rintro e w2 ⟨rfl, rfl⟩
    go_wp2
    go_ret2
    exact ⟨rfl, rfl⟩
  · have hc : cutQ c s = s.take (s.length - 1) := by unfold cutQ; rw [hp]; rfl
    have h1 := sufB_len hp
    have hsl := fun w' => sl_to s (s.length - 1) ((s.length : Int) - 1) (by omega) (by omega) w'
    rw [hc]
    rw [hp] at H
    clear hc
    generalize s.take (s.length - 1) = d at *
    go_enter Tryz.func207, Tryz.ntmps207
    go_wp2_with fail
    refine H.out.mono ?_
    rintro e w2 ⟨rfl, rfl⟩
    go_wp2
    go_ret2
    exact ⟨rfl, rfl⟩
theorem s_cutprefix (s : Str) (c : UInt8) (w : World) (hl : s.length ≤ 9223372036854775807) : Calls Tryz.prog 167 #[encStr s, encStr [c]] w fun e w' => e = .returned (.tuple #[encStr (cutP c s), .bool (preB c s)]) ∧ w' = w := by
  have H := hide (s_cutprefixI s c w hl)
  generalize cutP c s = d at *
  generalize preB c s = R at *
  go_enter Tryz.func167, Tryz.ntmps167
  go_wp2_with fail
  refine H.out.mono ?_
  rintro e w2 ⟨rfl, rfl⟩
  go_wp2
  go_ret2
  exact ⟨rfl, rfl⟩
theorem s_cutsuffix (s : Str) (c : UInt8) (w : World) (hl : s.length ≤ 9223372036854775807) : Calls Tryz.prog 168 #[encStr s, encStr [c]] w fun e w' => e = .returned (.tuple #[encStr (cutQ c s), .bool (sufB c s)]) ∧ w' = w := by
  have H := hide (s_cutsuffixI s c w hl)
  generalize cutQ c s = d at *
  generalize sufB c s = R at *
  go_enter Tryz.func168, Tryz.ntmps168
  go_wp2_with fail
  refine H.out.mono ?_
  rintro e w2 ⟨rfl, rfl⟩
  go_wp2
  go_ret2
  exact ⟨rfl, rfl⟩

end Go.Proofs.YtcnkfkjgpdmebaaGreatDoor
