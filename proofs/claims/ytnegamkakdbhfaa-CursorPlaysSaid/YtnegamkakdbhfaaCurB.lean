/- The reference's cursor, function by function, against the plain model. -/
import Derived.Test.YtnegamkakdbhfaaCurA
import Derived.WalkSpells
import Derived.WalkLawsBesides
import Derived.Deep.QuietTactic
import Derived.BigQuiet
namespace Go.Proofs.Ytnegamkakdbhfaa
open Go.RowKit

theorem RefC.fail_ {w : World} {A : Option Addr} {cap : Nat} {m : M} (h : RefC w A cap m) (e : Int) : RefC w A cap (m.fail e) := by
  unfold M.fail
  split
  · exact ⟨h.le, h.max, h.nest, h.row⟩
  · exact h

set_option maxHeartbeats 400000 in
theorem ref_fail (A : Option Addr) (cap : Nat) (m : M) (c : Int) (w : World) (h : RefC w A cap m) :
    Calls Try.prog 35 #[refV A cap m, .int .i64 c] w fun e w' => e = .returned (refV A cap (m.fail c)) ∧ Ext w w' := by
  have Hp := hide fun W (hW : Ext w W) => ref_peek A cap m W (h.ext hW)
  clear h
  by_cases he : m.err = 0
  · have he' : (m.err != 0) = false := by simpa using he
    by_cases hc : c = 0
    · have ev : m.fail c = { m with err := 1, pos := m.peek.pos } := by simp [M.fail, he, hc]
      rw [ev]
      have hc' : (c == 0) = true := by simpa using hc
      clear he ev hc
      go_enter Try.func35, Try.ntmps35
      go_wp2_with fail
      refine (Hp.out _ (by repeat (first | exact Ext.refl _ | exact Ext.alloc (by assumption) _ | refine Ext.alloc ?_ _ | refine Ext.more ?_ _ _ | refine Ext.drew ?_ | refine Ext.drewN ?_ _))).mono ?_
      rintro e w' ⟨rfl, l1, d1, rfl⟩
      go_wp2
      exact bodyPost_ret (v := refV A cap { m with err := 1, pos := m.peek.pos }) (by simp [results, Try.results35, go_sem]) rfl ⟨rfl, (by repeat (first | exact Ext.refl _ | exact Ext.alloc (by assumption) _ | refine Ext.alloc ?_ _ | refine Ext.more ?_ _ _ | refine Ext.drew ?_ | refine Ext.drewN ?_ _))⟩
    · have ev : m.fail c = { m with err := c, pos := m.peek.pos } := by simp [M.fail, he, hc]
      rw [ev]
      have hc' : (c == 0) = false := by simpa using hc
      clear he ev hc
      go_enter Try.func35, Try.ntmps35
      go_wp2_with fail
      refine (Hp.out _ (by repeat (first | exact Ext.refl _ | exact Ext.alloc (by assumption) _ | refine Ext.alloc ?_ _ | refine Ext.more ?_ _ _ | refine Ext.drew ?_ | refine Ext.drewN ?_ _))).mono ?_
      rintro e w' ⟨rfl, l1, d1, rfl⟩
      go_wp2
      exact bodyPost_ret (v := refV A cap { m with err := c, pos := m.peek.pos }) (by simp [results, Try.results35, go_sem]) rfl ⟨rfl, (by repeat (first | exact Ext.refl _ | exact Ext.alloc (by assumption) _ | refine Ext.alloc ?_ _ | refine Ext.more ?_ _ _ | refine Ext.drew ?_ | refine Ext.drewN ?_ _))⟩
  · have he' : (m.err != 0) = true := by simpa using he
    have ev : m.fail c = m := by simp [M.fail, he]
    rw [ev]
    clear he ev
    go_enter Try.func35, Try.ntmps35
    go_wp2
    exact bodyPost_ret (v := refV A cap m) (by simp [results, Try.results35, go_sem]) rfl ⟨rfl, (by repeat (first | exact Ext.refl _ | exact Ext.alloc (by assumption) _ | refine Ext.alloc ?_ _ | refine Ext.more ?_ _ _ | refine Ext.drew ?_ | refine Ext.drewN ?_ _))⟩

set_option maxHeartbeats 400000 in
theorem ref_want (A : Option Addr) (cap : Nat) (m : M) (s : ByteArray) (w0 w : World) (h : RefC w0 A cap m) (hw : Ext w0 w) :
    Calls Try.prog 25 #[refV A cap m, .string s] w fun e w' => (∃ A' cap', e = .returned (.tuple #[refV A' cap' (m.want s), .bool (m.is s)]) ∧ RefC w0 A' cap' (m.want s)) ∧ Ext w w' := by
  have Ht := hide fun W (hW : Ext w W) => ref_take A cap m s w0 W h (hw.trans hW)
  have Hf := hide fun W (hW : Ext w W) => ref_fail A cap m 5 W (h.ext (hw.trans hW))
  have Hh := hide (h.fail_ 5)
  clear hw h
  cases hi : m.is s
  · have ev : m.want s = m.fail 5 := by simp [M.want, hi]
    rw [ev]
    clear ev
    go_enter Try.func25, Try.ntmps25
    go_wp2_with fail
    refine (Ht.out _ (by repeat (first | exact Ext.refl _ | exact Ext.alloc (by assumption) _ | refine Ext.alloc ?_ _ | refine Ext.more ?_ _ _ | refine Ext.drew ?_ | refine Ext.drewN ?_ _))).mono ?_
    rintro e w' ⟨⟨A', cap', rfl, h'⟩, l1, d1, rfl⟩
    clear h'
    go_wp2_with fail
    refine (Hf.out _ (by repeat (first | exact Ext.refl _ | exact Ext.alloc (by assumption) _ | refine Ext.alloc ?_ _ | refine Ext.more ?_ _ _ | refine Ext.drew ?_ | refine Ext.drewN ?_ _))).mono ?_
    rintro e w' ⟨rfl, l2, d2, rfl⟩
    go_wp2
    exact bodyPost_ret (v := .tuple #[refV A cap (m.fail 5), .bool false]) (by simp [results, Try.results25, go_sem]) rfl ⟨⟨A, cap, rfl, Hh.out⟩, (by repeat (first | exact Ext.refl _ | exact Ext.alloc (by assumption) _ | refine Ext.alloc ?_ _ | refine Ext.more ?_ _ _ | refine Ext.drew ?_ | refine Ext.drewN ?_ _))⟩
  · have ev : m.want s = m.take s := by simp [M.want, M.take, hi]
    rw [ev]
    clear ev Hh Hf
    go_enter Try.func25, Try.ntmps25
    go_wp2_with fail
    refine (Ht.out _ (by repeat (first | exact Ext.refl _ | exact Ext.alloc (by assumption) _ | refine Ext.alloc ?_ _ | refine Ext.more ?_ _ _ | refine Ext.drew ?_ | refine Ext.drewN ?_ _))).mono ?_
    rintro e w' ⟨⟨A', cap', rfl, h'⟩, l1, d1, rfl⟩
    have Hh := hide h'
    clear h'
    go_wp2
    exact bodyPost_ret (v := .tuple #[refV A' cap' (m.take s), .bool true]) (by simp [results, Try.results25, go_sem]) rfl ⟨⟨A', cap', rfl, Hh.out⟩, (by repeat (first | exact Ext.refl _ | exact Ext.alloc (by assumption) _ | refine Ext.alloc ?_ _ | refine Ext.more ?_ _ _ | refine Ext.drew ?_ | refine Ext.drewN ?_ _))⟩

set_option maxHeartbeats 400000 in
theorem ref_kind (A : Option Addr) (cap : Nat) (m : M) (k : Int) (w0 w : World) (h : RefC w0 A cap m) (hw : Ext w0 w) :
    Calls Try.prog 27 #[refV A cap m, .int .i64 k] w fun e w' => (∃ A' cap', e = .returned (.tuple #[refV A' cap' (m.kind k), tokV (m.kindT k), .bool (m.kindB k)]) ∧ RefC w0 A' cap' (m.kind k)) ∧ Ext w w' := by
  have Hp := hide fun W (hW : Ext w W) => ref_peek A cap m W (h.ext (hw.trans hW))
  have Hn := hide fun W (hW : Ext w W) => ref_next A cap m w0 W h (hw.trans hW)
  have Hf := hide fun W (hW : Ext w W) => ref_fail A cap m 5 W (h.ext (hw.trans hW))
  have Hh := hide (h.fail_ 5)
  clear hw h
  cases hb : m.kindB k
  · have ev : m.kind k = m.fail 5 ∧ m.kindT k = Tok.zero := by simp [M.kind, M.kindT, hb]
    rw [ev.1, ev.2]
    clear ev
    by_cases he : m.err = 0
    · have he' : (m.err != 0) = false := by simpa using he
      have hk : (m.peek.kind != k) = true := by simpa [M.kindB, he] using hb
      clear he hb
      go_enter Try.func27, Try.ntmps27
      go_wp2_with fail
      refine (Hp.out _ (by repeat (first | exact Ext.refl _ | exact Ext.alloc (by assumption) _ | refine Ext.alloc ?_ _ | refine Ext.more ?_ _ _ | refine Ext.drew ?_ | refine Ext.drewN ?_ _))).mono ?_
      rintro e w' ⟨rfl, l1, d1, rfl⟩
      go_wp2_with fail
      refine (Hf.out _ (by repeat (first | exact Ext.refl _ | exact Ext.alloc (by assumption) _ | refine Ext.alloc ?_ _ | refine Ext.more ?_ _ _ | refine Ext.drew ?_ | refine Ext.drewN ?_ _))).mono ?_
      rintro e w' ⟨rfl, l2, d2, rfl⟩
      go_wp2
      exact bodyPost_ret (v := .tuple #[refV A cap (m.fail 5), tokV Tok.zero, .bool false]) (by simp [results, Try.results27, go_sem, Tok.zero]) rfl ⟨⟨A, cap, rfl, Hh.out⟩, (by repeat (first | exact Ext.refl _ | exact Ext.alloc (by assumption) _ | refine Ext.alloc ?_ _ | refine Ext.more ?_ _ _ | refine Ext.drew ?_ | refine Ext.drewN ?_ _))⟩
    · have he' : (m.err != 0) = true := by simpa using he
      clear he hb
      go_enter Try.func27, Try.ntmps27
      go_wp2_with fail
      refine (Hf.out _ (by repeat (first | exact Ext.refl _ | exact Ext.alloc (by assumption) _ | refine Ext.alloc ?_ _ | refine Ext.more ?_ _ _ | refine Ext.drew ?_ | refine Ext.drewN ?_ _))).mono ?_
      rintro e w' ⟨rfl, l2, d2, rfl⟩
      go_wp2
      exact bodyPost_ret (v := .tuple #[refV A cap (m.fail 5), tokV Tok.zero, .bool false]) (by simp [results, Try.results27, go_sem, Tok.zero]) rfl ⟨⟨A, cap, rfl, Hh.out⟩, (by repeat (first | exact Ext.refl _ | exact Ext.alloc (by assumption) _ | refine Ext.alloc ?_ _ | refine Ext.more ?_ _ _ | refine Ext.drew ?_ | refine Ext.drewN ?_ _))⟩
  · have ev : m.kind k = m.next ∧ m.kindT k = m.peek := by simp [M.kind, M.kindT, hb]
    rw [ev.1, ev.2]
    have hb' : m.err = 0 ∧ m.peek.kind = k := by simpa [M.kindB] using hb
    have he' : (m.err != 0) = false := by simp [hb'.1]
    have hk : (m.peek.kind != k) = false := by simp [hb'.2]
    clear ev hb hb' Hf Hh
    go_enter Try.func27, Try.ntmps27
    go_wp2_with fail
    refine (Hp.out _ (by repeat (first | exact Ext.refl _ | exact Ext.alloc (by assumption) _ | refine Ext.alloc ?_ _ | refine Ext.more ?_ _ _ | refine Ext.drew ?_ | refine Ext.drewN ?_ _))).mono ?_
    rintro e w' ⟨rfl, l1, d1, rfl⟩
    go_wp2_with fail
    refine (Hn.out _ (by repeat (first | exact Ext.refl _ | exact Ext.alloc (by assumption) _ | refine Ext.alloc ?_ _ | refine Ext.more ?_ _ _ | refine Ext.drew ?_ | refine Ext.drewN ?_ _))).mono ?_
    rintro e w' ⟨⟨A', cap', rfl, h'⟩, l2, d2, rfl⟩
    have Hh := hide h'
    clear h'
    go_wp2
    go_region
    go_wp2
    exact bodyPost_ret (v := .tuple #[refV A' cap' m.next, tokV m.peek, .bool true]) (by simp [results, Try.results27, go_sem]) rfl ⟨⟨A', cap', rfl, Hh.out⟩, (by repeat (first | exact Ext.refl _ | exact Ext.alloc (by assumption) _ | refine Ext.alloc ?_ _ | refine Ext.more ?_ _ _ | refine Ext.drew ?_ | refine Ext.drewN ?_ _))⟩

theorem RefC.enter_ {w : World} {A : Option Addr} {cap : Nat} {m : M} (h : RefC w A cap m) : RefC w A cap m.enter := by
  unfold M.enter
  split
  · rename_i hb
    simp only [M.enterB, Bool.and_eq_true, decide_eq_true_eq] at hb
    exact ⟨h.le, h.max, by simp; omega, h.row⟩
  · exact h.fail_ 2
theorem RefC.leave_ {w : World} {A : Option Addr} {cap : Nat} {m : M} (h : RefC w A cap m) : RefC w A cap m.leave := by
  unfold M.leave
  have := h.nest
  split
  · exact ⟨h.le, h.max, by simp; omega, h.row⟩
  · exact h

set_option maxRecDepth 10000 in
set_option maxHeartbeats 400000 in
theorem ref_enter (A : Option Addr) (cap : Nat) (m : M) (w : World) (h : RefC w A cap m) :
    Calls Try.prog 31 #[refV A cap m] w fun e w' => e = .returned (.tuple #[refV A cap m.enter, .bool m.enterB]) ∧ Ext w w' := by
  have Hf := hide fun W (hW : Ext w W) => ref_fail A cap m 2 W (h.ext hW)
  have hn := h.nest
  clear h
  by_cases he : m.err = 0
  · have he' : (m.err != 0) = false := by simpa using he
    by_cases hb : m.nest < 200
    · have ev : m.enter = { m with nest := m.nest + 1 } ∧ m.enterB = true := by simp [M.enter, M.enterB, he, hb]
      rw [ev.1, ev.2]
      have hb' : (m.nest : Int) < 200 := by omega
      clear ev he hb Hf
      go_enter Try.func31, Try.ntmps31
      go_wp2
      exact bodyPost_ret (v := .tuple #[refV A cap { m with nest := m.nest + 1 }, .bool true]) (by simp [results, Try.results31, go_sem]) rfl ⟨rfl, (by repeat (first | exact Ext.refl _ | exact Ext.alloc (by assumption) _ | refine Ext.alloc ?_ _ | refine Ext.more ?_ _ _ | refine Ext.drew ?_ | refine Ext.drewN ?_ _))⟩
    · have ev : m.enter = m.fail 2 ∧ m.enterB = false := by simp [M.enter, M.enterB, he, hb]
      rw [ev.1, ev.2]
      have hb' : (200 : Int) ≤ (m.nest : Int) := by omega
      clear ev he hb
      go_enter Try.func31, Try.ntmps31
      go_wp2_with fail
      refine (Hf.out _ (by repeat (first | exact Ext.refl _ | exact Ext.alloc (by assumption) _ | refine Ext.alloc ?_ _ | refine Ext.more ?_ _ _ | refine Ext.drew ?_ | refine Ext.drewN ?_ _))).mono ?_
      rintro e w' ⟨rfl, l2, d2, rfl⟩
      go_wp2
      exact bodyPost_ret (v := .tuple #[refV A cap (m.fail 2), .bool false]) (by simp [results, Try.results31, go_sem]) rfl ⟨rfl, (by repeat (first | exact Ext.refl _ | exact Ext.alloc (by assumption) _ | refine Ext.alloc ?_ _ | refine Ext.more ?_ _ _ | refine Ext.drew ?_ | refine Ext.drewN ?_ _))⟩
  · have he' : (m.err != 0) = true := by simpa using he
    have ev : m.enter = m ∧ m.enterB = false := by simp [M.enter, M.enterB, M.fail, he]
    rw [ev.1, ev.2]
    clear ev he Hf
    go_enter Try.func31, Try.ntmps31
    go_wp2
    exact bodyPost_ret (v := .tuple #[refV A cap m, .bool false]) (by simp [results, Try.results31, go_sem]) rfl ⟨rfl, (by repeat (first | exact Ext.refl _ | exact Ext.alloc (by assumption) _ | refine Ext.alloc ?_ _ | refine Ext.more ?_ _ _ | refine Ext.drew ?_ | refine Ext.drewN ?_ _))⟩

set_option maxHeartbeats 400000 in
theorem ref_leave (A : Option Addr) (cap : Nat) (m : M) (w : World) (hn : m.nest ≤ 200) :
    Calls Try.prog 34 #[refV A cap m] w fun e w' => e = .returned (refV A cap m.leave) ∧ Ext w w' := by
  by_cases he : m.err = 0
  · have he' : (m.err == 0) = true := by simpa using he
    rcases Nat.eq_zero_or_pos m.nest with h0 | h0
    · have ev : m.leave = m := by obtain ⟨a, b, c, d, e⟩ := m; simp at h0; simp [M.leave, h0]
      rw [ev]
      have hb' : ¬ ((0 : Int) < (m.nest : Int)) := by omega
      have hb2 : (m.nest : Int) ≤ 0 := by omega
      clear ev he h0
      go_enter Try.func34, Try.ntmps34
      go_wp2
      exact bodyPost_ret (v := refV A cap m) (by simp [results, Try.results34, go_sem]) rfl ⟨rfl, (by repeat (first | exact Ext.refl _ | exact Ext.alloc (by assumption) _ | refine Ext.alloc ?_ _ | refine Ext.more ?_ _ _ | refine Ext.drew ?_ | refine Ext.drewN ?_ _))⟩
    · have ev : m.leave = { m with nest := m.nest - 1 } := by simp [M.leave, he]
      rw [ev]
      have hb' : (0 : Int) < (m.nest : Int) := by omega
      have hs : ((m.nest - 1 : Nat) : Int) = (m.nest : Int) - 1 := by omega
      have Hs := hide hs
      clear ev he h0 hs
      go_enter Try.func34, Try.ntmps34
      go_wp2
      exact bodyPost_ret (v := refV A cap { m with nest := m.nest - 1 }) (by simp [results, Try.results34, go_sem, Hs.out]) rfl ⟨rfl, (by repeat (first | exact Ext.refl _ | exact Ext.alloc (by assumption) _ | refine Ext.alloc ?_ _ | refine Ext.more ?_ _ _ | refine Ext.drew ?_ | refine Ext.drewN ?_ _))⟩
  · have he' : (m.err == 0) = false := by simpa using he
    have ev : m.leave = m := by simp [M.leave, he]
    rw [ev]
    clear ev he
    go_enter Try.func34, Try.ntmps34
    go_wp2
    exact bodyPost_ret (v := refV A cap m) (by simp [results, Try.results34, go_sem]) rfl ⟨rfl, (by repeat (first | exact Ext.refl _ | exact Ext.alloc (by assumption) _ | refine Ext.alloc ?_ _ | refine Ext.more ?_ _ _ | refine Ext.drew ?_ | refine Ext.drewN ?_ _))⟩

set_option maxHeartbeats 400000 in
theorem ref_done (A : Option Addr) (cap : Nat) (m : M) (w : World) (h : RefC w A cap m) :
    Calls Try.prog 38 #[refV A cap m] w fun e w' => e = .returned (.tuple #[.int .i64 m.doneP, .int .i64 m.doneE]) ∧ Ext w w' := by
  obtain ⟨rest, ep, nest, err, pos⟩ := m
  by_cases he : err = 0
  · subst he
    cases rest with
    | nil =>
      clear h
      go_enter Try.func38, Try.ntmps38
      go_wp2
      go_ret2
      exact ⟨rfl, (by repeat (first | exact Ext.refl _ | exact Ext.alloc (by assumption) _ | refine Ext.alloc ?_ _ | refine Ext.more ?_ _ _ | refine Ext.drew ?_ | refine Ext.drewN ?_ _))⟩
    | cons t ts =>
      obtain ⟨b, o, rfl, hb, c0, c1, c2, c3⟩ := h.row.head (by simp)
      have hp : (0 : Int) < (((t :: ts).length : Nat) : Int) := by simp
      generalize hn : (t :: ts).length = n at hp
      have e0 : tokAt (t :: ts) 0 = t := rfl
      rw [e0] at c0 c1 c2 c3
      clear h e0
      have hr : refV (some ⟨b, o, none⟩) cap ⟨t :: ts, ep, nest, 0, pos⟩ = .agg #[.slice (some ⟨b, o, none⟩) n cap, .int .i64 0, .int .i64 ep, .int .i64 0, .string ⟨#[]⟩, .int .i64 nest, .int .i64 0, .int .i64 pos] := by
        rw [← hn]; rfl
      rw [hr]
      clear hr hn
      go_enter Try.func38, Try.ntmps38
      go_wp2
      go_ret2
      exact ⟨rfl, (by repeat (first | exact Ext.refl _ | exact Ext.alloc (by assumption) _ | refine Ext.alloc ?_ _ | refine Ext.more ?_ _ _ | refine Ext.drew ?_ | refine Ext.drewN ?_ _))⟩
  · have he' : (err != 0) = true := by simpa using he
    have ev : M.doneP ⟨rest, ep, nest, err, pos⟩ = pos ∧ M.doneE ⟨rest, ep, nest, err, pos⟩ = err := by simp [M.doneP, M.doneE, he]
    rw [ev.1, ev.2]
    clear h he ev
    go_enter Try.func38, Try.ntmps38
    go_wp2
    go_quiet (fail)
    go_wp2
    go_ret2
    exact ⟨rfl, (by repeat (first | exact Ext.refl _ | exact Ext.alloc (by assumption) _ | refine Ext.alloc ?_ _ | refine Ext.more ?_ _ _ | refine Ext.drew ?_ | refine Ext.drewN ?_ _))⟩

end Go.Proofs.Ytnegamkakdbhfaa
