/- The program's cursor, function by function, against the plain model: kinds, depth, the end. -/
import Derived.Test.YtnegamkakdbhfaaCurD
import Derived.WalkSpells
import Derived.WalkLawsBesides
import Derived.Deep.QuietTactic
import Derived.BigQuiet
namespace Go.Proofs.Ytnegamkakdbhfaa
open Go.RowKit

set_option maxHeartbeats 400000 in
theorem cur_kind {w : World} {c cap k : Nat} {A : Option Addr} {ts : List Tok} {m : M} (h : Cur w c A cap ts k m) (hts : ts.length ≤ 100) (x : Int) :
    Calls Try.prog 28 #[.pointer (some ⟨c, 0, none⟩), .int .i64 x] w fun e w' => e = .returned (.tuple #[tokV (m.kindT x), .bool (m.kindB x)]) ∧ Chg w c A cap ts (m.kind x) w' := by
  have Hf := hide fun W (hW : Ext w W) => cur_failed (h.ext hW)
  have Hp := hide fun W (hW : Ext w W) => cur_peek (h.ext hW)
  have Hn := hide fun W (hW : Ext w W) => cur_next (h.ext hW) hts
  have Hl := hide fun W (hW : Ext w W) => cur_fail (h.ext hW) 5
  have hc := h.lt
  have Hb := hide h.blk
  clear h
  cases hb : m.kindB x
  · have ev : m.kind x = m.fail 5 ∧ m.kindT x = Tok.zero := by simp [M.kind, M.kindT, hb]
    rw [ev.1, ev.2]
    clear ev
    by_cases he : m.err = 0
    · have he' : (m.err != 0) = false := by simpa using he
      have hk : (m.peek.kind != x) = true := by simpa [M.kindB, he] using hb
      clear he hb
      go_enter Try.func28, Try.ntmps28
      go_wp2_with fail
      refine (Hf.out _ (by repeat (first | exact Ext.refl _ | exact Ext.alloc (by assumption) _ | refine Ext.alloc ?_ _ | refine Ext.more ?_ _ _ | refine Ext.drew ?_ | refine Ext.drewN ?_ _))).mono ?_
      rintro e w' ⟨rfl, rfl⟩
      go_wp2_with fail
      refine (Hp.out _ (by repeat (first | exact Ext.refl _ | exact Ext.alloc (by assumption) _ | refine Ext.alloc ?_ _ | refine Ext.more ?_ _ _ | refine Ext.drew ?_ | refine Ext.drewN ?_ _))).mono ?_
      rintro e w' ⟨rfl, l1, d1, rfl⟩
      go_wp2_with fail
      refine (Hl.out _ (by repeat (first | exact Ext.refl _ | exact Ext.alloc (by assumption) _ | refine Ext.alloc ?_ _ | refine Ext.more ?_ _ _ | refine Ext.drew ?_ | refine Ext.drewN ?_ _))).mono ?_
      rintro e w' ⟨rfl, k', hd', l2, d2, rfl⟩
      have Hd := hide hd'
      clear hd'
      go_wp2
      exact bodyPost_ret (v := .tuple #[tokV Tok.zero, .bool false]) (by simp [results, Try.results28, go_sem, hc, Tok.zero]) rfl ⟨rfl, k', Hd.out, (by repeat (first | exact Upd.refl Hb.out | exact Lax.refl Hb.out | refine Upd.alloc ?_ _ | refine Upd.more_ ?_ _ _ | refine Upd.drew ?_ | refine Upd.drewN ?_ _ | refine Upd.set ?_ (by assumption) _ _ | refine Upd.blk ?_ (by assumption) _ | refine Lax.alloc ?_ _ | refine Lax.more_ ?_ _ _ | refine Lax.drew ?_ | refine Lax.drewN ?_ _ | refine Lax.blk ?_ (by assumption) _))⟩
    · have he' : (m.err != 0) = true := by simpa using he
      clear he hb
      go_enter Try.func28, Try.ntmps28
      go_wp2_with fail
      refine (Hf.out _ (by repeat (first | exact Ext.refl _ | exact Ext.alloc (by assumption) _ | refine Ext.alloc ?_ _ | refine Ext.more ?_ _ _ | refine Ext.drew ?_ | refine Ext.drewN ?_ _))).mono ?_
      rintro e w' ⟨rfl, rfl⟩
      go_wp2_with fail
      refine (Hl.out _ (by repeat (first | exact Ext.refl _ | exact Ext.alloc (by assumption) _ | refine Ext.alloc ?_ _ | refine Ext.more ?_ _ _ | refine Ext.drew ?_ | refine Ext.drewN ?_ _))).mono ?_
      rintro e w' ⟨rfl, k', hd', l2, d2, rfl⟩
      have Hd := hide hd'
      clear hd'
      go_wp2
      exact bodyPost_ret (v := .tuple #[tokV Tok.zero, .bool false]) (by simp [results, Try.results28, go_sem, hc, Tok.zero]) rfl ⟨rfl, k', Hd.out, (by repeat (first | exact Upd.refl Hb.out | exact Lax.refl Hb.out | refine Upd.alloc ?_ _ | refine Upd.more_ ?_ _ _ | refine Upd.drew ?_ | refine Upd.drewN ?_ _ | refine Upd.set ?_ (by assumption) _ _ | refine Upd.blk ?_ (by assumption) _ | refine Lax.alloc ?_ _ | refine Lax.more_ ?_ _ _ | refine Lax.drew ?_ | refine Lax.drewN ?_ _ | refine Lax.blk ?_ (by assumption) _))⟩
  · have ev : m.kind x = m.next ∧ m.kindT x = m.peek := by simp [M.kind, M.kindT, hb]
    rw [ev.1, ev.2]
    have hb' : m.err = 0 ∧ m.peek.kind = x := by simpa [M.kindB] using hb
    have he' : (m.err != 0) = false := by simp [hb'.1]
    have hk : (m.peek.kind != x) = false := by simp [hb'.2]
    clear ev hb hb'
    go_enter Try.func28, Try.ntmps28
    go_wp2_with fail
    refine (Hf.out _ (by repeat (first | exact Ext.refl _ | exact Ext.alloc (by assumption) _ | refine Ext.alloc ?_ _ | refine Ext.more ?_ _ _ | refine Ext.drew ?_ | refine Ext.drewN ?_ _))).mono ?_
    rintro e w' ⟨rfl, rfl⟩
    go_wp2_with fail
    refine (Hp.out _ (by repeat (first | exact Ext.refl _ | exact Ext.alloc (by assumption) _ | refine Ext.alloc ?_ _ | refine Ext.more ?_ _ _ | refine Ext.drew ?_ | refine Ext.drewN ?_ _))).mono ?_
    rintro e w' ⟨rfl, l1, d1, rfl⟩
    go_wp2_with fail
    refine (Hn.out _ (by repeat (first | exact Ext.refl _ | exact Ext.alloc (by assumption) _ | refine Ext.alloc ?_ _ | refine Ext.more ?_ _ _ | refine Ext.drew ?_ | refine Ext.drewN ?_ _))).mono ?_
    rintro e w' ⟨rfl, k', hd', l2, d2, rfl⟩
    have Hd := hide hd'
    clear hd'
    go_wp2
    exact bodyPost_ret (v := .tuple #[tokV m.peek, .bool true]) (by simp [results, Try.results28, go_sem, hc]) rfl ⟨rfl, k', Hd.out, (by repeat (first | exact Upd.refl Hb.out | exact Lax.refl Hb.out | refine Upd.alloc ?_ _ | refine Upd.more_ ?_ _ _ | refine Upd.drew ?_ | refine Upd.drewN ?_ _ | refine Upd.set ?_ (by assumption) _ _ | refine Upd.blk ?_ (by assumption) _ | refine Lax.alloc ?_ _ | refine Lax.more_ ?_ _ _ | refine Lax.drew ?_ | refine Lax.drewN ?_ _ | refine Lax.blk ?_ (by assumption) _))⟩

theorem CD.enter_ {ts : List Tok} {k : Nat} {m : M} (h : CD ts k m) : CD ts k m.enter := by
  unfold M.enter; split
  · rename_i hb
    simp only [M.enterB, Bool.and_eq_true, decide_eq_true_eq] at hb
    exact ⟨h.le, by simp; omega, h.rest⟩
  · exact h.fail_ 2
theorem CD.leave_ {ts : List Tok} {k : Nat} {m : M} (h : CD ts k m) : CD ts k m.leave := by
  have := h.nest
  unfold M.leave; split
  · exact ⟨h.le, by simp; omega, h.rest⟩
  · exact h

set_option maxRecDepth 10000 in
set_option maxHeartbeats 400000 in
theorem cur_enter {w : World} {c cap k : Nat} {A : Option Addr} {ts : List Tok} {m : M} (h : Cur w c A cap ts k m) :
    Calls Try.prog 32 #[.pointer (some ⟨c, 0, none⟩)] w fun e w' => e = .returned (.bool m.enterB) ∧ Chg w c A cap ts m.enter w' := by
  have Hf := hide fun W (hW : Ext w W) => cur_failed (h.ext hW)
  have Hl := hide fun W (hW : Ext w W) => cur_fail (h.ext hW) 2
  have h6 : w.cell? ⟨c, 6, none⟩ = some (.int .i64 m.nest) := h.cell 6
  have f6 := h.free 6
  have hn := h.cd.nest
  have Hd := hide (h.cd.enter_)
  have hc := h.lt
  have Hb := hide h.blk
  clear h
  by_cases he : m.err = 0
  · have he' : (m.err != 0) = false := by simpa using he
    by_cases hb : m.nest < 200
    · have Hn : Hid (m.enter = { m with nest := m.nest + 1 }) := hide (by simp [M.enter, M.enterB, he, hb])
      have ev : m.enterB = true := by simp [M.enterB, he, hb]
      rw [ev]
      have hb' : (m.nest : Int) < 200 := by omega
      clear ev he hb
      go_enter Try.func32, Try.ntmps32
      go_wp2_with fail
      refine (Hf.out _ (by repeat (first | exact Ext.refl _ | exact Ext.alloc (by assumption) _ | refine Ext.alloc ?_ _ | refine Ext.more ?_ _ _ | refine Ext.drew ?_ | refine Ext.drewN ?_ _))).mono ?_
      rintro e w' ⟨rfl, rfl⟩
      go_wp2
      go_ret
      exact ⟨rfl, k, Hd.out, Upd.cast (cs := (curCells A cap ts.length k m).setIfInBounds 6 (.int .i64 (m.nest + 1))) (by repeat (first | exact Upd.refl Hb.out | exact Lax.refl Hb.out | refine Upd.alloc ?_ _ | refine Upd.more_ ?_ _ _ | refine Upd.drew ?_ | refine Upd.drewN ?_ _ | refine Upd.set ?_ (by assumption) _ _ | refine Upd.blk ?_ (by assumption) _ | refine Lax.alloc ?_ _ | refine Lax.more_ ?_ _ _ | refine Lax.drew ?_ | refine Lax.drewN ?_ _ | refine Lax.blk ?_ (by assumption) _)) (by rw [Hn.out]; simp [curCells])⟩
    · have Hn : Hid (m.enter = m.fail 2) := hide (by simp [M.enter, M.enterB, he, hb])
      have ev : m.enterB = false := by simp [M.enterB, he, hb]
      rw [ev]
      have hb' : (200 : Int) ≤ (m.nest : Int) := by omega
      rw [Hn.out]
      clear ev he hb Hd
      go_enter Try.func32, Try.ntmps32
      go_wp2_with fail
      refine (Hf.out _ (by repeat (first | exact Ext.refl _ | exact Ext.alloc (by assumption) _ | refine Ext.alloc ?_ _ | refine Ext.more ?_ _ _ | refine Ext.drew ?_ | refine Ext.drewN ?_ _))).mono ?_
      rintro e w' ⟨rfl, rfl⟩
      go_wp2_with fail
      refine (Hl.out _ (by repeat (first | exact Ext.refl _ | exact Ext.alloc (by assumption) _ | refine Ext.alloc ?_ _ | refine Ext.more ?_ _ _ | refine Ext.drew ?_ | refine Ext.drewN ?_ _))).mono ?_
      rintro e w' ⟨rfl, k', hd', l2, d2, rfl⟩
      have Hd := hide hd'
      clear hd'
      go_wp2
      go_ret
      exact ⟨rfl, k', Hd.out, (by repeat (first | exact Upd.refl Hb.out | exact Lax.refl Hb.out | refine Upd.alloc ?_ _ | refine Upd.more_ ?_ _ _ | refine Upd.drew ?_ | refine Upd.drewN ?_ _ | refine Upd.set ?_ (by assumption) _ _ | refine Upd.blk ?_ (by assumption) _ | refine Lax.alloc ?_ _ | refine Lax.more_ ?_ _ _ | refine Lax.drew ?_ | refine Lax.drewN ?_ _ | refine Lax.blk ?_ (by assumption) _))⟩
  · have he' : (m.err != 0) = true := by simpa using he
    have Hn : Hid (m.enter = m.fail 2) := hide (by simp [M.enter, M.enterB, he])
    have ev : m.enterB = false := by simp [M.enterB, he]
    rw [ev, Hn.out]
    clear ev he Hd
    go_enter Try.func32, Try.ntmps32
    go_wp2_with fail
    refine (Hf.out _ (by repeat (first | exact Ext.refl _ | exact Ext.alloc (by assumption) _ | refine Ext.alloc ?_ _ | refine Ext.more ?_ _ _ | refine Ext.drew ?_ | refine Ext.drewN ?_ _))).mono ?_
    rintro e w' ⟨rfl, rfl⟩
    go_wp2_with fail
    refine (Hl.out _ (by repeat (first | exact Ext.refl _ | exact Ext.alloc (by assumption) _ | refine Ext.alloc ?_ _ | refine Ext.more ?_ _ _ | refine Ext.drew ?_ | refine Ext.drewN ?_ _))).mono ?_
    rintro e w' ⟨rfl, k', hd', l2, d2, rfl⟩
    have Hd := hide hd'
    clear hd'
    go_wp2
    go_ret
    exact ⟨rfl, k', Hd.out, (by repeat (first | exact Upd.refl Hb.out | exact Lax.refl Hb.out | refine Upd.alloc ?_ _ | refine Upd.more_ ?_ _ _ | refine Upd.drew ?_ | refine Upd.drewN ?_ _ | refine Upd.set ?_ (by assumption) _ _ | refine Upd.blk ?_ (by assumption) _ | refine Lax.alloc ?_ _ | refine Lax.more_ ?_ _ _ | refine Lax.drew ?_ | refine Lax.drewN ?_ _ | refine Lax.blk ?_ (by assumption) _))⟩

set_option maxHeartbeats 400000 in
theorem cur_leave {w : World} {c cap k : Nat} {A : Option Addr} {ts : List Tok} {m : M} (h : Cur w c A cap ts k m) :
    Calls Try.prog 33 #[.pointer (some ⟨c, 0, none⟩)] w fun e w' => e = .returned (.tuple #[]) ∧ Chg w c A cap ts m.leave w' := by
  have Hf := hide fun W (hW : Ext w W) => cur_failed (h.ext hW)
  have h6 : w.cell? ⟨c, 6, none⟩ = some (.int .i64 m.nest) := h.cell 6
  have f6 := h.free 6
  have hn := h.cd.nest
  have Hd := hide (h.cd.leave_)
  have hc := h.lt
  have Hb := hide h.blk
  clear h
  by_cases he : m.err = 0
  · have he' : (m.err != 0) = false := by simpa using he
    have Hn : Hid (m.leave = { m with nest := m.nest - 1 }) := hide (by simp [M.leave, he])
    rcases Nat.eq_zero_or_pos m.nest with h0 | h0
    · have hb' : (m.nest : Int) ≤ 0 := by omega
      have H0 := hide h0
      clear he h0
      go_enter Try.func33, Try.ntmps33
      go_wp2_with fail
      refine (Hf.out _ (by repeat (first | exact Ext.refl _ | exact Ext.alloc (by assumption) _ | refine Ext.alloc ?_ _ | refine Ext.more ?_ _ _ | refine Ext.drew ?_ | refine Ext.drewN ?_ _))).mono ?_
      rintro e w' ⟨rfl, rfl⟩
      go_wp2
      go_end0
      exact ⟨rfl, k, Hd.out, Upd.cast (cs := curCells A cap ts.length k m) (by repeat (first | exact Upd.refl Hb.out | exact Lax.refl Hb.out | refine Upd.alloc ?_ _ | refine Upd.more_ ?_ _ _ | refine Upd.drew ?_ | refine Upd.drewN ?_ _ | refine Upd.set ?_ (by assumption) _ _ | refine Upd.blk ?_ (by assumption) _ | refine Lax.alloc ?_ _ | refine Lax.more_ ?_ _ _ | refine Lax.drew ?_ | refine Lax.drewN ?_ _ | refine Lax.blk ?_ (by assumption) _)) (by rw [Hn.out]; simp [curCells, H0.out])⟩
    · have hb' : (0 : Int) < (m.nest : Int) := by omega
      have hs : ((m.nest - 1 : Nat) : Int) = (m.nest : Int) - 1 := by omega
      have Hs := hide hs
      clear he h0 hs
      go_enter Try.func33, Try.ntmps33
      go_wp2_with fail
      refine (Hf.out _ (by repeat (first | exact Ext.refl _ | exact Ext.alloc (by assumption) _ | refine Ext.alloc ?_ _ | refine Ext.more ?_ _ _ | refine Ext.drew ?_ | refine Ext.drewN ?_ _))).mono ?_
      rintro e w' ⟨rfl, rfl⟩
      go_wp2
      go_end0
      exact ⟨rfl, k, Hd.out, Upd.cast (cs := (curCells A cap ts.length k m).setIfInBounds 6 (.int .i64 (m.nest - 1))) (by repeat (first | exact Upd.refl Hb.out | exact Lax.refl Hb.out | refine Upd.alloc ?_ _ | refine Upd.more_ ?_ _ _ | refine Upd.drew ?_ | refine Upd.drewN ?_ _ | refine Upd.set ?_ (by assumption) _ _ | refine Upd.blk ?_ (by assumption) _ | refine Lax.alloc ?_ _ | refine Lax.more_ ?_ _ _ | refine Lax.drew ?_ | refine Lax.drewN ?_ _ | refine Lax.blk ?_ (by assumption) _)) (by rw [Hn.out]; simp [curCells, Hs.out])⟩
  · have he' : (m.err != 0) = true := by simpa using he
    have Hn : Hid (m.leave = m) := hide (by simp [M.leave, he])
    clear he
    go_enter Try.func33, Try.ntmps33
    go_wp2_with fail
    refine (Hf.out _ (by repeat (first | exact Ext.refl _ | exact Ext.alloc (by assumption) _ | refine Ext.alloc ?_ _ | refine Ext.more ?_ _ _ | refine Ext.drew ?_ | refine Ext.drewN ?_ _))).mono ?_
    rintro e w' ⟨rfl, rfl⟩
    go_wp2
    go_end0
    exact ⟨rfl, k, Hd.out, Upd.cast (cs := curCells A cap ts.length k m) (by repeat (first | exact Upd.refl Hb.out | exact Lax.refl Hb.out | refine Upd.alloc ?_ _ | refine Upd.more_ ?_ _ _ | refine Upd.drew ?_ | refine Upd.drewN ?_ _ | refine Upd.set ?_ (by assumption) _ _ | refine Upd.blk ?_ (by assumption) _ | refine Lax.alloc ?_ _ | refine Lax.more_ ?_ _ _ | refine Lax.drew ?_ | refine Lax.drewN ?_ _ | refine Lax.blk ?_ (by assumption) _)) (by rw [Hn.out])⟩

set_option maxHeartbeats 400000 in
theorem cur_done {w : World} {c cap k : Nat} {A : Option Addr} {ts : List Tok} {m : M} (h : Cur w c A cap ts k m) :
    Calls Try.prog 37 #[.pointer (some ⟨c, 0, none⟩)] w fun e w' => e = .returned (.tuple #[.int .i64 m.doneP, .int .i64 m.doneE]) ∧ Ext w w' := by
  have h0 : w.cell? ⟨c, 0, none⟩ = some (.slice A ts.length cap) := h.cell 0
  have h2 : w.cell? ⟨c, 2, none⟩ = some (.int .i64 m.ep) := h.cell 2
  have h5 : w.cell? ⟨c, 5, none⟩ = some (.int .i64 k) := h.cell 5
  have h7 : w.cell? ⟨c, 7, none⟩ = some (.int .i64 m.err) := h.cell 7
  have h8 : w.cell? ⟨c, 8, none⟩ = some (.int .i64 m.pos) := h.cell 8
  have hc := h.lt
  have hcd := h.cd
  by_cases he : m.err = 0
  · have he' : (m.err != 0) = false := by simpa using he
    by_cases hk : k < ts.length
    · obtain ⟨b, o, rfl, hb, c0, c1, c2, c3⟩ := h.row.at_ hk
      have ev : m.doneP = (tokAt ts k).pos ∧ m.doneE = 5 := by
        have := hcd.rest.out
        rw [List.drop_eq_getElem_cons hk] at this
        unfold M.doneP M.doneE
        rw [if_pos he, if_pos he, this]
        simp [tokAt, hk]
      rw [ev.1, ev.2]
      have hle := h.le
      have hmax := h.max
      have hk' : (k : Int) < (ts.length : Int) := by omega
      clear h hcd ev he
      generalize tokAt ts k = t at *
      go_enter Try.func37, Try.ntmps37
      go_wp2
      go_quiet (fail)
      go_wp2
      go_quiet (fail)
      go_wp2
      go_ret2
      exact ⟨rfl, (by repeat (first | exact Ext.refl _ | exact Ext.alloc (by assumption) _ | refine Ext.alloc ?_ _ | refine Ext.more ?_ _ _ | refine Ext.drew ?_ | refine Ext.drewN ?_ _))⟩
    · have ev : m.doneP = m.ep ∧ m.doneE = 0 := by
        have := hcd.rest.out
        rw [List.drop_of_length_le (by omega)] at this
        unfold M.doneP M.doneE
        rw [if_pos he, if_pos he, this]
        simp
      rw [ev.1, ev.2]
      have hk' : ¬ ((k : Int) < (ts.length : Int)) := by omega
      have hk2 : (ts.length : Int) ≤ (k : Int) := by omega
      clear h hcd ev he
      go_enter Try.func37, Try.ntmps37
      go_wp2
      go_quiet (fail)
      go_wp2
      go_ret2
      exact ⟨rfl, (by repeat (first | exact Ext.refl _ | exact Ext.alloc (by assumption) _ | refine Ext.alloc ?_ _ | refine Ext.more ?_ _ _ | refine Ext.drew ?_ | refine Ext.drewN ?_ _))⟩
  · have he' : (m.err != 0) = true := by simpa using he
    have ev : m.doneP = m.pos ∧ m.doneE = m.err := by simp [M.doneP, M.doneE, he]
    rw [ev.1, ev.2]
    clear h hcd ev he
    go_enter Try.func37, Try.ntmps37
    go_wp2
    go_quiet (fail)
    go_wp2
    go_ret2
    exact ⟨rfl, (by repeat (first | exact Ext.refl _ | exact Ext.alloc (by assumption) _ | refine Ext.alloc ?_ _ | refine Ext.more ?_ _ _ | refine Ext.drew ?_ | refine Ext.drewN ?_ _))⟩

end Go.Proofs.Ytnegamkakdbhfaa
