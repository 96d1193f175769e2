/- Contracts: numbers as digits; letters; of the program, and of the reference. -/
import Derived.Test.YtcnkfkjgpdmebaaGreatDoorJN5
import Derived.Laws.IdiomStrings
import Derived.Laws.Concat
/- Contracts: numbers as digits; letters; of the program, and of the reference. -/
namespace Go.Proofs.YtcnkfkjgpdmebaaGreatDoor
open Go.RowKit

theorem r_size02 (n : Int) (h0 : 0 ≤ n) (h1 : n ≤ 9223372036854775807) (w : World) : Calls Tryz.prog 68 #[.int .i64 n] w fun e w' => e = .returned (.int .u64 n) ∧ w' = w := by
  have hn : ¬ n < 0 := by omega
  have hw : IntKind.u64.wrap n = n := by simp [IntKind.wrap, IntKind.bits, IntKind.signed]; omega
  go_enter Tryz.func68, Tryz.ntmps68
  go_wp2
  go_ret
  exact ⟨rfl, rfl⟩

theorem ba_size (l : Str) : (⟨l.toArray⟩ : ByteArray).size = l.length := by simp [ByteArray.size]
theorem cell0_of {W : World} {B : Nat} {v : Value} {t : TypeId} (h : W.heap[B]? = some (.cells #[v] t (0, 0))) : W.cell? ⟨B, 0, none⟩ = some v := by simp [World.cell?, h]
theorem Word_new (w : World) (c : Int) : (w.alloc (.cells #[.int .u8 c] 5)).cell? ⟨w.heap.size, 0, none⟩ = some (.int .u8 c) := cell0_of (at_newB _ _ _ rfl)
/-- A new slice of one byte, as a text. -/
theorem conv_one (w : World) (m : Nat) (c : Int) (hm : m < 256) (hc : c = m) : (convert 126 9 (.slice (some ⟨w.heap.size, 0, none⟩) 1 1)).run Tryz.prog (w.alloc (.cells #[.int .u8 c] 5)) = .ok (.string ⟨[chr m].toArray⟩) (w.alloc (.cells #[.int .u8 c] 5)) := by
  have h0 : (w.alloc (.cells #[.int .u8 c] 5)).cell? ⟨w.heap.size, 0, none⟩ = some (.int .u8 c) := (Word_new w c)
  have := run_convert_bytes_back (P := Tryz.prog) (w.alloc (.cells #[.int .u8 c] 5)) 126 9 5 ⟨w.heap.size, 0, none⟩ 1 [chr m] Tryz.underlying126 Tryz.underlying5 Tryz.underlying9 (fun j hj => by
    have hj0 : j = 0 := by have : j < 1 := hj; omega
    subst hj0
    show (w.alloc (.cells #[.int .u8 c] 5)).cell? ⟨w.heap.size, 0, none⟩ = _
    rw [h0]
    have : (chr m).toNat = m := by unfold chr; simp; omega
    show some (Value.int .u8 c) = some (Value.int .u8 ((chr m).toNat : Int))
    rw [this, hc])
  exact this

set_option maxRecDepth 10000 in
set_option maxHeartbeats 1000000 in
theorem r_text02 (n : Nat) (h1 : n ≤ 9223372036854775807) (w : World) : Calls Tryz.prog 40 #[.int .i64 n] w fun e w' => e = .returned (encStr (digs n)) ∧ Ext w w' := by
  have hn : ¬ (n : Int) < 0 := by omega
  have H20 : Hid ((digs n).length ≤ 20) := hide (digs_len 19 n (Nat.lt_of_le_of_lt h1 (by decide)))
  have HS := hide (r_size02 n (by omega) (by omega) w)
  go_enter Tryz.func40, Tryz.ntmps40
  go_wp2_with fail
  refine HS.out.mono ?_
  rintro e w2 ⟨rfl, rfl⟩
  go_wp2
  go_loopw [3, 4] (fun u s wr => ∃ (k : Nat) (l : Str), k ≤ n ∧ u = .int .u64 k ∧ s = encStr l ∧ l.length ≤ 100 ∧ Hid (digs n = digs k ++ l) ∧ Hid (Ext w2 wr)) (fun u _ _ => (intOf u).toNat)
  case atStart => exact ⟨n, [], Nat.le_refl _, rfl, rfl, by simp, hide (by simp), hide (Ext.refl _)⟩
  case round =>
    obtain ⟨k, l, hk, rfl, rfl, hll, HD, HX⟩ := hrel
    by_cases hgt : (k : Int) > 9
    · have hcv := conv_one wr (48 + k % 10) (48 + (k : Int) % 10) (by omega) (by omega)
      have hsz : ¬ ((⟨[chr (48 + k % 10)].toArray⟩ : ByteArray).size + (⟨l.toArray⟩ : ByteArray).size > 9223372036854775807) := by rw [ba_size, ba_size]; simp; omega
      have hd := digs_hi (show ¬ k < 10 by omega)
      have HD2 : Hid (digs n = digs (k / 10) ++ ([chr (48 + k % 10)] ++ l)) := hide (by rw [HD.out, hd, List.append_assoc])
      clear hd HD
      go_wp2
      go_roundw
      case rel => exact ⟨k / 10, [chr (48 + k % 10)] ++ l, by omega, by go_num, congrArg Value.string (ByteArray.mk_append_mk [chr (48 + k % 10)] l), by have e := congrArg List.length HD2.out; have := H20.out; simp only [List.length_append] at e ⊢; omega, HD2, hide (HX.out.alloc _)⟩
      case measure => simp [intOf]; omega
    · have hcv := conv_one wr (48 + k) (48 + (k : Int)) (by omega) (by omega)
      have hsz : ¬ ((⟨[chr (48 + k)].toArray⟩ : ByteArray).size + (⟨l.toArray⟩ : ByteArray).size > 9223372036854775807) := by rw [ba_size, ba_size]; simp; omega
      have hd := digs_lo (show k < 10 by omega)
      have HD2 : Hid (digs n = [chr (48 + k)] ++ l) := hide (by rw [HD.out, hd])
      have hnn : decide ((n : Int) < 0) = false := by simp
      clear hd HD
      go_wp2
      go_ret
      refine ⟨?_, HX.out.alloc _⟩
      rw [HD2.out]
      exact congrArg (fun b => Ending.returned (Value.string b)) (ByteArray.mk_append_mk [chr (48 + k)] l)

theorem bytes_block {W : World} {B : Nat} {C : Array Value} {t : TypeId} (h : W.heap[B]? = some (.cells C t (0, 0))) (j : Nat) : W.cell? ⟨B, j, none⟩ = C[j]? := by simp [World.cell?, h]
theorem free_block {W : World} {B : Nat} {C : Array Value} {t : TypeId} (h : W.heap[B]? = some (.cells C t (0, 0))) (j : Nat) : W.frozen? ⟨B, j, none⟩ = false := by simp [World.frozen?, h]

/-- Twenty bytes, filled from behind. -/
def arr20 (l : Str) : Array Value := (List.replicate (20 - l.length) (Value.int .u8 0) ++ l.map fun b => Value.int .u8 (b.toNat : Int)).toArray
theorem arr20_size (l : Str) (h : l.length ≤ 20) : (arr20 l).size = 20 := by simp [arr20]; omega
theorem arr20_get (l : Str) (_h : l.length ≤ 20) (j : Nat) (hj : j < l.length) : (arr20 l)[20 - l.length + j]? = some (.int .u8 ((l[j]'hj).toNat : Int)) := by
  unfold arr20
  rw [List.getElem?_toArray, List.getElem?_append_right (by simp)]
  simp [hj]
theorem arr20_set (l : Str) (h : l.length ≤ 19) (b : UInt8) : (arr20 l).setIfInBounds (19 - l.length) (.int .u8 (b.toNat : Int)) = arr20 (b :: l) := by
  unfold arr20
  rw [List.setIfInBounds_toArray]
  congr 1
  have e : List.replicate (20 - l.length) (Value.int .u8 0) = List.replicate (19 - l.length) (Value.int .u8 0) ++ [Value.int .u8 0] := by
    rw [show 20 - l.length = (19 - l.length) + 1 by omega, List.replicate_succ']
  rw [e, List.append_assoc, List.set_append_right _ _ (by simp)]
  simp

theorem sl20 (w : World) (B m : Nat) (i : Int) (hm : m < 20) (hi : i = m) : (Instr.sliceAt 125 (.pointer (some ⟨B, 0, none⟩)) (some (.int .i64 i)) none none).run Tryz.prog w = .ok (.slice (some ⟨B, m, none⟩) (20 - m) (20 - m)) w := by
  have h0 : (0 : Int) ≤ i := by omega
  have h1 : i ≤ 20 := by omega
  have h2 : i.toNat = m := by omega
  have h3 : ¬ (20 = m) := by omega
  subst hi
  simp [go_sem, h0, h1, h2, h3, Addr.add]
  omega
theorem conv20 (W : World) (B : Nat) (l : Str) (hl : l.length ≤ 20) (_h0 : 0 < l.length) (n c : Nat) (hn : n = l.length) (h : W.heap[B]? = some (.cells (arr20 l) 125 (0, 0))) :
    (convert 126 9 (.slice (some ⟨B, 20 - l.length, none⟩) n c)).run Tryz.prog W = .ok (.string ⟨l.toArray⟩) W := by
  subst hn
  exact run_convert_bytes_back (P := Tryz.prog) W 126 9 5 ⟨B, 20 - l.length, none⟩ c l Tryz.underlying126 Tryz.underlying5 Tryz.underlying9 (fun j hj => by
    rw [show (⟨B, 20 - l.length, none⟩ : Addr).add j = ⟨B, 20 - l.length + j, none⟩ from by simp [Addr.add], bytes_block h]
    exact arr20_get l hl j hj)

set_option maxRecDepth 10000 in
set_option maxHeartbeats 1000000 in
theorem i_text (n : Nat) (h1 : n ≤ 9223372036854775807) (w : World) : Calls Tryz.prog 39 #[.int .i64 n] w fun e w' => e = .returned (encStr (digs n)) ∧ Ext w w' := by
  have H20 : Hid ((digs n).length ≤ 20) := hide (digs_len 19 n (Nat.lt_of_le_of_lt h1 (by decide)))
  have hnn : decide ((n : Int) < 0) = false := by simp
  have hw : IntKind.u64.wrap n = n := by simp [IntKind.wrap, IntKind.bits, IntKind.signed]; omega
  go_enter Tryz.func39, Tryz.ntmps39
  go_wp2
  have HB0 : Hid ((w.alloc (.cells #[.int .u8 0, .int .u8 0, .int .u8 0, .int .u8 0, .int .u8 0, .int .u8 0, .int .u8 0, .int .u8 0, .int .u8 0, .int .u8 0, .int .u8 0, .int .u8 0, .int .u8 0, .int .u8 0, .int .u8 0, .int .u8 0, .int .u8 0, .int .u8 0, .int .u8 0, .int .u8 0] 125)).heap[w.heap.size]? = some (.cells (arr20 []) 125 (0, 0))) := hide (at_newB _ _ _ rfl)
  go_loopw [3, 5] (fun u at_ wr => ∃ (k : Nat) (l : Str), k ≤ n ∧ u = .int .u64 k ∧ at_ = .int .i64 (20 - (l.length : Int)) ∧ l.length ≤ 19 ∧ Hid (digs n = digs k ++ l) ∧ Hid (wr.heap[w.heap.size]? = some (.cells (arr20 l) 125 (0, 0))) ∧ Hid (Ext w wr)) (fun _ at_ _ => (intOf at_).toNat)
  case atStart => exact ⟨n, [], Nat.le_refl _, rfl, rfl, by simp, hide (by simp), HB0, hide ((Ext.refl _).alloc _)⟩
  case round =>
    obtain ⟨k, l, hk, rfl, rfl, hll, HD, HB, HX⟩ := hrel
    have hx0 : (0 : Int) ≤ 20 - (l.length : Int) - 1 := by omega
    have hx1 : 20 - (l.length : Int) - 1 < 20 := by omega
    obtain ⟨v0, hcell⟩ : ∃ v0, wr.cell? ⟨w.heap.size, 20 - l.length - 1, none⟩ = some v0 := ⟨_, (bytes_block HB.out _).trans (Array.getElem?_eq_getElem (by rw [arr20_size l (by omega)]; omega))⟩
    have hfree := free_block HB.out (20 - l.length - 1)
    have HB2 : Hid ((wr.setCell ⟨w.heap.size, 20 - l.length - 1, none⟩ (.int .u8 (48 + (k : Int) % 10))).heap[w.heap.size]? = some (.cells (arr20 (chr (48 + k % 10) :: l)) 125 (0, 0))) := hide (by
      have h := blk_setCell HB.out (20 - l.length - 1) (.int .u8 (48 + (k : Int) % 10))
      have e1 : (48 + (k : Int) % 10) = ((chr (48 + k % 10)).toNat : Int) := by unfold chr; simp; omega
      have e2 := arr20_set l hll (chr (48 + k % 10))
      rw [← e1, show 19 - l.length = 20 - l.length - 1 by omega] at e2
      rw [h, e2])
    have X2 : Hid (Ext w (wr.setCell ⟨w.heap.size, 20 - l.length - 1, none⟩ (.int .u8 (48 + (k : Int) % 10)))) := hide (HX.out.setCell (Nat.le_refl _) _)
    by_cases hlo : k < 10
    · have hq : (k : Int) / 10 = 0 := by omega
      have HF : Hid (digs n = chr (48 + k % 10) :: l) := hide (by rw [HD.out, digs_lo hlo, show k % 10 = k by omega]; rfl)
      have hsl := sl20 (wr.setCell ⟨w.heap.size, 20 - l.length - 1, none⟩ (.int .u8 (48 + (k : Int) % 10))) w.heap.size (20 - (chr (48 + k % 10) :: l).length) (20 - (l.length : Int) - 1) (by simp; omega) (by simp; omega)
      have hcv := conv20 _ w.heap.size (chr (48 + k % 10) :: l) (by simp; omega) (by simp) (20 - (20 - (chr (48 + k % 10) :: l).length)) (20 - (20 - (chr (48 + k % 10) :: l).length)) (by simp; omega) HB2.out
      clear HD
      generalize chr (48 + k % 10) :: l = L at *
      go_wp2
      go_ret
      exact ⟨by rw [HF.out]; rfl, X2.out⟩
    · have hq : ¬ (k : Int) / 10 = 0 := by omega
      have HD2 : Hid (digs n = digs (k / 10) ++ (chr (48 + k % 10) :: l)) := hide (by rw [HD.out, digs_hi hlo, List.append_assoc]; rfl)
      have hl2 : (chr (48 + k % 10) :: l).length ≤ 19 := by
        have e := congrArg List.length HD2.out
        have := digs_pos (k / 10)
        have := H20.out
        rw [List.length_append] at e
        omega
      clear HD
      go_wp2
      go_roundw
      case rel => exact ⟨k / 10, chr (48 + k % 10) :: l, by omega, by go_num, congrArg (Value.int .i64) (by simp; omega), hl2, HD2, HB2, X2⟩
      case measure => simp [intOf]; omega

end Go.Proofs.YtcnkfkjgpdmebaaGreatDoor
