/- The reference's cursor, function by function, against the plain model. -/
import Derived.Test.YtnegamkakdbhfaaProg
import Derived.Test.YtnegamkakdbhfaaTok
import Derived.WalkSpells
import Derived.WalkLawsBesides
import Derived.Deep.QuietTactic
import Derived.BigQuiet
namespace Go.Proofs.Ytnegamkakdbhfaa
open Go.RowKit

set_option maxHeartbeats 400000 in
theorem ref_peek (A : Option Addr) (cap : Nat) (m : M) (w : World) (h : RefC w A cap m) :
    Calls Try.prog 40 #[refV A cap m] w fun e w' => e = .returned (tokV m.peek) ∧ Ext w w' := by
  obtain ⟨rest, ep, nest, err, pos⟩ := m
  by_cases he : err = 0
  · subst he
    cases rest with
    | nil =>
      go_enter Try.func40, Try.ntmps40
      go_wp2
      exact bodyPost_ret (v := tokV (⟨0, ep, 0, ⟨#[]⟩⟩)) (by simp [results, Try.results40, go_sem]) rfl ⟨rfl, (by repeat (first | exact Ext.refl _ | exact Ext.alloc (by assumption) _ | refine Ext.alloc ?_ _ | refine Ext.more ?_ _ _ | refine Ext.drew ?_ | refine Ext.drewN ?_ _))⟩
    | cons t ts =>
      obtain ⟨b, o, rfl, hb, c0, c1, c2, c3⟩ := h.row.head (by simp)
      have hl : ((((t :: ts).length : Nat) : Int) == 0) = false := by simp; omega
      have hp : (0 : Int) < (((t :: ts).length : Nat) : Int) := by simp
      generalize hn : (t :: ts).length = n at hl hp
      have e0 : tokAt (t :: ts) 0 = t := rfl
      rw [e0] at c0 c1 c2 c3
      clear h e0
      have hr : refV (some ⟨b, o, none⟩) cap ⟨t :: ts, ep, nest, 0, pos⟩ = .agg #[.slice (some ⟨b, o, none⟩) n cap, .int .i64 0, .int .i64 ep, .int .i64 0, .string ⟨#[]⟩, .int .i64 nest, .int .i64 0, .int .i64 pos] := by
        rw [← hn]; rfl
      rw [hr]
      clear hr hn
      go_enter Try.func40, Try.ntmps40
      go_wp2
      exact bodyPost_ret (v := tokV t) (by simp [results, Try.results40, go_sem]) rfl ⟨rfl, (by repeat (first | exact Ext.refl _ | exact Ext.alloc (by assumption) _ | refine Ext.alloc ?_ _ | refine Ext.more ?_ _ _ | refine Ext.drew ?_ | refine Ext.drewN ?_ _))⟩
  · have he' : (err != 0) = true := by simpa using he
    have ev : M.peek ⟨rest, ep, nest, err, pos⟩ = Tok.zero := by simp [M.peek, he]
    rw [ev]
    clear h he ev
    go_enter Try.func40, Try.ntmps40
    go_wp2
    exact bodyPost_ret (v := tokV Tok.zero) (by simp [results, Try.results40, go_sem, Tok.zero]) rfl ⟨rfl, (by repeat (first | exact Ext.refl _ | exact Ext.alloc (by assumption) _ | refine Ext.alloc ?_ _ | refine Ext.more ?_ _ _ | refine Ext.drew ?_ | refine Ext.drewN ?_ _))⟩

set_option maxHeartbeats 400000 in
theorem ref_word (t : Tok) (s : ByteArray) (w : World) :
    Calls Try.prog 73 #[tokV t, .string s] w fun e w' => e = .returned (.bool (wordB t s)) ∧ Ext w w' := by
  obtain ⟨k, p, n, x⟩ := t
  unfold wordB
  cases h4 : (k == 4) <;> cases h5 : (k == 5)
  all_goals
    go_enter Try.func73, Try.ntmps73
    go_wp2
    go_ret
    exact ⟨by simp, (by repeat (first | exact Ext.refl _ | exact Ext.alloc (by assumption) _ | refine Ext.alloc ?_ _ | refine Ext.more ?_ _ _ | refine Ext.drew ?_ | refine Ext.drewN ?_ _))⟩

theorem RefC.next_ {w : World} {A : Option Addr} {cap : Nat} {m : M} (h : RefC w A cap m) : ∃ A' cap', RefC w A' cap' m.next := by
  unfold M.next
  split
  · rcases Nat.eq_zero_or_pos m.rest.length with h0 | h0
    · have e : m.rest = [] := List.eq_nil_of_length_eq_zero h0
      exact ⟨A, cap, by simp [e], h.max, h.nest, by simp only [e, List.tail_nil]; exact Toks.nil A⟩
    · have := h.row.cut (k := 1) (cap := cap) h0 h.le
      rw [List.drop_one] at this
      have hl := h.le
      exact ⟨_, cap - 1, by simp; omega, by have := h.max; omega, h.nest, this⟩
  · exact ⟨A, cap, h⟩

set_option maxHeartbeats 400000 in
theorem ref_next (A : Option Addr) (cap : Nat) (m : M) (w0 w : World) (h : RefC w0 A cap m) (hw : Ext w0 w) :
    Calls Try.prog 19 #[refV A cap m] w fun e w' => (∃ A' cap', e = .returned (.tuple #[refV A' cap' m.next, tokV m.peek]) ∧ RefC w0 A' cap' m.next) ∧ Ext w w' := by
  have Hp := hide fun W (hW : Ext w W) => ref_peek A cap m W (h.ext (hw.trans hW))
  clear hw
  obtain ⟨rest, ep, nest, err, pos⟩ := m
  by_cases he : err = 0
  · subst he
    cases rest with
    | nil =>
      go_enter Try.func19, Try.ntmps19
      go_wp2_with fail
      refine (Hp.out _ (by repeat (first | exact Ext.refl _ | exact Ext.alloc (by assumption) _ | refine Ext.alloc ?_ _ | refine Ext.more ?_ _ _ | refine Ext.drew ?_ | refine Ext.drewN ?_ _))).mono ?_
      rintro e w' ⟨rfl, l1, d1, rfl⟩
      go_wp2
      go_region
      go_wp2
      refine bodyPost_ret (v := .tuple #[refV A cap ⟨[], ep, nest, 0, pos⟩, tokV (M.peek _)]) (by simp [results, Try.results19, go_sem]) rfl ⟨⟨A, cap, rfl, h⟩, (by repeat (first | exact Ext.refl _ | exact Ext.alloc (by assumption) _ | refine Ext.alloc ?_ _ | refine Ext.more ?_ _ _ | refine Ext.drew ?_ | refine Ext.drewN ?_ _))⟩
    | cons t ts =>
      have hle := h.le
      have hmax := h.max
      have hrow := h.row.cut (k := 1) (cap := cap) (by simp) h.le
      generalize hA' : (if cap = 1 then A else A.map (·.add (1 * 4))) = A' at hrow
      have h' : RefC w0 A' (cap - 1) ⟨ts, ep, nest, 0, pos⟩ := ⟨by simp at hle ⊢; omega, by omega, h.nest, by simpa using hrow⟩
      clear hrow
      have hl : (0 : Int) < (((t :: ts).length : Nat) : Int) := by simp
      have hl1 : (1 : Int) ≤ (((t :: ts).length : Nat) : Int) := by simp; omega
      have hl2 : (((t :: ts).length : Nat) : Int) ≤ (cap : Int) := by simp at hle ⊢; omega
      generalize hn : (t :: ts).length = n at hl hl1 hl2
      have hr : refV A cap ⟨t :: ts, ep, nest, 0, pos⟩ = .agg #[.slice A n cap, .int .i64 0, .int .i64 ep, .int .i64 0, .string ⟨#[]⟩, .int .i64 nest, .int .i64 0, .int .i64 pos] := by
        rw [← hn]; rfl
      rw [hr] at Hp ⊢
      clear hr h
      have Hn := hide hn
      clear hn
      go_enter Try.func19, Try.ntmps19
      go_wp2_with fail
      refine (Hp.out _ (by repeat (first | exact Ext.refl _ | exact Ext.alloc (by assumption) _ | refine Ext.alloc ?_ _ | refine Ext.more ?_ _ _ | refine Ext.drew ?_ | refine Ext.drewN ?_ _))).mono ?_
      rintro e w' ⟨rfl, l1, d1, rfl⟩
      go_wp2
      all_goals
        go_region
        go_wp2
        refine bodyPost_ret (v := .tuple #[refV A' (cap - 1) ⟨ts, ep, nest, 0, pos⟩, tokV (M.peek _)]) ?_ rfl ⟨⟨A', cap - 1, rfl, h'⟩, (by repeat (first | exact Ext.refl _ | exact Ext.alloc (by assumption) _ | refine Ext.alloc ?_ _ | refine Ext.more ?_ _ _ | refine Ext.drew ?_ | refine Ext.drewN ?_ _))⟩
        have hn' := Hn.out
        simp only [List.length_cons] at hn'
        subst hn'
        subst hA'
        clear h'
        by_cases hcap : cap = 1
        · first | exact absurd hcap (by assumption) | (subst hcap; simp [results, Try.results19, go_sem])
        · first | exact absurd (by assumption) hcap | simp [results, Try.results19, go_sem, hcap]
  · have he' : (err == 0) = false := by simpa using he
    have ev : M.next ⟨rest, ep, nest, err, pos⟩ = ⟨rest, ep, nest, err, pos⟩ := by simp [M.next, he]
    rw [ev]
    clear he ev
    go_enter Try.func19, Try.ntmps19
    go_wp2_with fail
    refine (Hp.out _ (by repeat (first | exact Ext.refl _ | exact Ext.alloc (by assumption) _ | refine Ext.alloc ?_ _ | refine Ext.more ?_ _ _ | refine Ext.drew ?_ | refine Ext.drewN ?_ _))).mono ?_
    rintro e w' ⟨rfl, l1, d1, rfl⟩
    go_wp2
    go_region
    go_wp2
    refine bodyPost_ret (v := .tuple #[refV A cap ⟨rest, ep, nest, err, pos⟩, tokV (M.peek _)]) (by simp [results, Try.results19, go_sem]) rfl ⟨⟨A, cap, rfl, h⟩, (by repeat (first | exact Ext.refl _ | exact Ext.alloc (by assumption) _ | refine Ext.alloc ?_ _ | refine Ext.more ?_ _ _ | refine Ext.drew ?_ | refine Ext.drewN ?_ _))⟩

set_option maxHeartbeats 400000 in
theorem ref_is (A : Option Addr) (cap : Nat) (m : M) (s : ByteArray) (w : World) (h : RefC w A cap m) :
    Calls Try.prog 22 #[refV A cap m, .string s] w fun e w' => e = .returned (.bool (m.is s)) ∧ Ext w w' := by
  have Hp := hide fun W (hW : Ext w W) => ref_peek A cap m W (h.ext hW)
  clear h
  by_cases he : m.err = 0
  · have he' : (m.err == 0) = true := by simpa using he
    have ev : m.is s = wordB m.peek s := by simp [M.is, he]
    rw [ev]
    clear he ev
    go_enter Try.func22, Try.ntmps22
    go_wp2_with fail
    refine (Hp.out _ (by repeat (first | exact Ext.refl _ | exact Ext.alloc (by assumption) _ | refine Ext.alloc ?_ _ | refine Ext.more ?_ _ _ | refine Ext.drew ?_ | refine Ext.drewN ?_ _))).mono ?_
    rintro e w' ⟨rfl, l1, d1, rfl⟩
    go_wp2_with fail
    refine (ref_word _ _ _).mono ?_
    rintro e w' ⟨rfl, l2, d2, rfl⟩
    go_wp2
    go_ret
    exact ⟨rfl, (by repeat (first | exact Ext.refl _ | exact Ext.alloc (by assumption) _ | refine Ext.alloc ?_ _ | refine Ext.more ?_ _ _ | refine Ext.drew ?_ | refine Ext.drewN ?_ _))⟩
  · have he' : (m.err == 0) = false := by simpa using he
    have ev : m.is s = false := by simp [M.is, he]
    rw [ev]
    clear he ev
    go_enter Try.func22, Try.ntmps22
    go_wp2
    go_ret
    exact ⟨rfl, (by repeat (first | exact Ext.refl _ | exact Ext.alloc (by assumption) _ | refine Ext.alloc ?_ _ | refine Ext.more ?_ _ _ | refine Ext.drew ?_ | refine Ext.drewN ?_ _))⟩

set_option maxHeartbeats 400000 in
theorem ref_take (A : Option Addr) (cap : Nat) (m : M) (s : ByteArray) (w0 w : World) (h : RefC w0 A cap m) (hw : Ext w0 w) :
    Calls Try.prog 23 #[refV A cap m, .string s] w fun e w' => (∃ A' cap', e = .returned (.tuple #[refV A' cap' (m.take s), .bool (m.is s)]) ∧ RefC w0 A' cap' (m.take s)) ∧ Ext w w' := by
  have Hi := hide fun W (hW : Ext w W) => ref_is A cap m s W (h.ext (hw.trans hW))
  have Hn := hide fun W (hW : Ext w W) => ref_next A cap m w0 W h (hw.trans hW)
  clear hw
  cases hi : m.is s
  · have ev : m.take s = m := by simp [M.take, hi]
    rw [ev]
    clear ev
    have Hh := hide h
    clear Hn h
    go_enter Try.func23, Try.ntmps23
    go_wp2_with fail
    refine (Hi.out _ (by repeat (first | exact Ext.refl _ | exact Ext.alloc (by assumption) _ | refine Ext.alloc ?_ _ | refine Ext.more ?_ _ _ | refine Ext.drew ?_ | refine Ext.drewN ?_ _))).mono ?_
    rintro e w' ⟨rfl, l1, d1, rfl⟩
    go_wp2
    refine bodyPost_ret (v := .tuple #[refV A cap m, .bool false]) (by simp [results, Try.results23, go_sem]) rfl ⟨⟨A, cap, rfl, Hh.out⟩, (by repeat (first | exact Ext.refl _ | exact Ext.alloc (by assumption) _ | refine Ext.alloc ?_ _ | refine Ext.more ?_ _ _ | refine Ext.drew ?_ | refine Ext.drewN ?_ _))⟩
  · have ev : m.take s = m.next := by simp [M.take, hi]
    rw [ev]
    clear ev h
    go_enter Try.func23, Try.ntmps23
    go_wp2_with fail
    refine (Hi.out _ (by repeat (first | exact Ext.refl _ | exact Ext.alloc (by assumption) _ | refine Ext.alloc ?_ _ | refine Ext.more ?_ _ _ | refine Ext.drew ?_ | refine Ext.drewN ?_ _))).mono ?_
    rintro e w' ⟨rfl, l1, d1, rfl⟩
    go_wp2_with fail
    refine (Hn.out _ (by repeat (first | exact Ext.refl _ | exact Ext.alloc (by assumption) _ | refine Ext.alloc ?_ _ | refine Ext.more ?_ _ _ | refine Ext.drew ?_ | refine Ext.drewN ?_ _))).mono ?_
    rintro e w' ⟨⟨A', cap', rfl, h'⟩, l2, d2, rfl⟩
    have Hh := hide h'
    clear h'
    go_wp2
    exact bodyPost_ret (v := .tuple #[refV A' cap' m.next, .bool true]) (by simp [results, Try.results23, go_sem]) rfl ⟨⟨A', cap', rfl, Hh.out⟩, (by repeat (first | exact Ext.refl _ | exact Ext.alloc (by assumption) _ | refine Ext.alloc ?_ _ | refine Ext.more ?_ _ _ | refine Ext.drew ?_ | refine Ext.drewN ?_ _))⟩

end Go.Proofs.Ytnegamkakdbhfaa
