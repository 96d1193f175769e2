/- The program's cursor, function by function, against the plain model: words, and steps. -/
import Derived.Test.YtnegamkakdbhfaaCurC
import Derived.WalkSpells
import Derived.WalkLawsBesides
import Derived.Deep.QuietTactic
import Derived.BigQuiet
namespace Go.Proofs.Ytnegamkakdbhfaa
open Go.RowKit

theorem Row.one {w : World} {A : Option Addr} {ss : List ByteArray} (h : Row w A 1 ss.length (ss.map Value.string)) {i : Nat} (hi : i < ss.length) :
    ∃ b o, A = some ⟨b, o, none⟩ ∧ b < w.heap.size ∧ w.cell? ⟨b, o + i, none⟩ = some (.string (ss.getD i noText)) := by
  obtain ⟨b, o, e, hb, hc⟩ := h.2 (by omega)
  exact ⟨b, o, e, hb, hc i _ (by simp [hi])⟩

set_option maxHeartbeats 400000 in
theorem cur_among (t : Tok) (A : Option Addr) (cap : Nat) (ss : List ByteArray) (w : World) (h : Row w A 1 ss.length (ss.map Value.string)) (hm : ss.length ≤ 1000) :
    Calls Try.prog 72 #[tokV t, .slice A ss.length cap] w fun e w' => e = .returned (.bool (ss.any (wordB t))) ∧ Ext w w' := by
  cases hk : (t.kind == 4 || t.kind == 5)
  · have ev : ss.any (wordB t) = false := by
      rw [List.any_eq_false]; intro s _; simp [wordB, hk]
    rw [ev]
    simp only [Bool.or_eq_false_iff] at hk
    have k4 : (t.kind != 4) = true := by simpa using hk.1
    have k5 : (t.kind != 5) = true := by simpa using hk.2
    clear hk ev h
    go_enter Try.func72, Try.ntmps72
    go_wp2
    go_ret
    exact ⟨rfl, (by repeat (first | exact Ext.refl _ | exact Ext.alloc (by assumption) _ | refine Ext.alloc ?_ _ | refine Ext.more ?_ _ _ | refine Ext.drew ?_ | refine Ext.drewN ?_ _))⟩
  · have Ev : Hid (∀ s, wordB t s = (t.text.toList == s.toList)) := hide (fun s => by simp [wordB, hk])
    have hor : (t.kind != 4) = false ∨ ((t.kind != 4) = true ∧ (t.kind != 5) = false) := by
      simp only [Bool.or_eq_true, beq_iff_eq] at hk
      rcases hk with e | e <;> simp [e]
    have Hany : Hid (∀ j, j < ss.length → (t.text.toList == (ss.getD j noText).toList) = true → ss.any (wordB t) = true) := hide (by
      intro j hj hb
      rw [List.any_eq_true]
      refine ⟨ss.getD j noText, ?_, by rw [Ev.out]; exact hb⟩
      simp [hj])
    have Hnone : Hid ((∀ j, j < ss.length → (t.text.toList == (ss.getD j noText).toList) = false) → ss.any (wordB t) = false) := hide (by
      intro hall
      rw [List.any_eq_false]
      intro s hs
      obtain ⟨j, hj, rfl⟩ := List.getElem_of_mem hs
      have := hall j hj
      rw [Ev.out]
      simpa [hj] using this)
    have Hr := hide h
    clear h Ev hk
    generalize ss.any (wordB t) = R at *
    rcases hor with h4 | ⟨h4, h5⟩
    all_goals
      go_enter Try.func72, Try.ntmps72
      go_wp2
      go_loop [17] (fun i => ∃ j : Nat, j ≤ ss.length ∧ i = .int .i64 j ∧ Hid (∀ i, i < j → (t.text.toList == (ss.getD i noText).toList) = false)) (fun i => ss.length - (intOf i).toNat)
      case atStart => exact ⟨0, Nat.zero_le _, rfl, hide (fun i hi => absurd hi (by omega))⟩
      case round =>
        obtain ⟨j, hj, rfl, Hj⟩ := hrel
        by_cases hlt : j < ss.length
        · obtain ⟨b, o, rfl, hb, hc⟩ := Hr.out.one hlt
          have hlt' : (j : Int) < (ss.length : Int) := by omega
          generalize hx : ss.getD j noText = x at hc
          have Hx := hide hx
          clear hx
          cases hs : (t.text.toList == x.toList)
          · go_wp2
            go_round
            case rel =>
              refine ⟨j + 1, hlt, by go_num, hide (fun i hi => ?_)⟩
              by_cases hij : i = j
              · rw [hij, Hx.out]; exact hs
              · exact Hj.out i (by omega)
            case measure => simp [intOf]; omega
          · have hR := Hany.out j hlt (by rw [Hx.out]; exact hs)
            subst hR
            go_wp2
            go_ret
            exact ⟨rfl, (by repeat (first | exact Ext.refl _ | exact Ext.alloc (by assumption) _ | refine Ext.alloc ?_ _ | refine Ext.more ?_ _ _ | refine Ext.drew ?_ | refine Ext.drewN ?_ _))⟩
        · have hge : (ss.length : Int) ≤ (j : Int) := by omega
          have hR := Hnone.out (fun i hi => Hj.out i (by omega))
          subst hR
          go_wp2
          go_ret
          exact ⟨rfl, (by repeat (first | exact Ext.refl _ | exact Ext.alloc (by assumption) _ | refine Ext.alloc ?_ _ | refine Ext.more ?_ _ _ | refine Ext.drew ?_ | refine Ext.drewN ?_ _))⟩

theorem cur_among1 (t : Tok) (b : Nat) (s : ByteArray) (w : World) (hb : b < w.heap.size) (h : w.cell? ⟨b, 0, none⟩ = some (.string s)) :
    Calls Try.prog 72 #[tokV t, .slice (some ⟨b, 0, none⟩) 1 1] w fun e w' => e = .returned (.bool (wordB t s)) ∧ Ext w w' := by
  have hr : Row w (some ⟨b, 0, none⟩) 1 1 ([s].map Value.string) := ⟨rfl, fun _ => ⟨b, 0, rfl, hb, fun j u hu => by
    match j with
    | 0 => simp at hu; subst hu; exact h
    | j + 1 => simp at hu⟩⟩
  have := cur_among t (some ⟨b, 0, none⟩) 1 [s] w hr (by simp)
  simpa using this
theorem cur_among2 (t : Tok) (b : Nat) (s s' : ByteArray) (w : World) (hb : b < w.heap.size) (h : w.cell? ⟨b, 0, none⟩ = some (.string s)) (h' : w.cell? ⟨b, 1, none⟩ = some (.string s')) :
    Calls Try.prog 72 #[tokV t, .slice (some ⟨b, 0, none⟩) 2 2] w fun e w' => e = .returned (.bool (wordB t s || wordB t s')) ∧ Ext w w' := by
  have hr : Row w (some ⟨b, 0, none⟩) 1 2 ([s, s'].map Value.string) := ⟨rfl, fun _ => ⟨b, 0, rfl, hb, fun j u hu => by
    match j with
    | 0 => simp at hu; subst hu; exact h
    | 1 => simp at hu; subst hu; exact h'
    | j + 2 => simp at hu⟩⟩
  have := cur_among t (some ⟨b, 0, none⟩) 2 [s, s'] w hr (by simp)
  simpa using this

set_option maxHeartbeats 400000 in
theorem cur_is {w : World} {c cap k : Nat} {A : Option Addr} {ts : List Tok} {m : M} (h : Cur w c A cap ts k m) (s : ByteArray) :
    Calls Try.prog 21 #[.pointer (some ⟨c, 0, none⟩), .string s] w fun e w' => e = .returned (.bool (m.is s)) ∧ Ext w w' := by
  have Hf := hide fun W (hW : Ext w W) => cur_failed (h.ext hW)
  have Hp := hide fun W (hW : Ext w W) => cur_peek (h.ext hW)
  have hc := h.lt
  clear h
  by_cases he : m.err = 0
  · have he' : (m.err != 0) = false := by simpa using he
    have ev : m.is s = wordB m.peek s := by simp [M.is, he]
    rw [ev]
    clear he ev
    go_enter Try.func21, Try.ntmps21
    go_wp2_with fail
    refine (Hf.out _ (by repeat (first | exact Ext.refl _ | exact Ext.alloc (by assumption) _ | refine Ext.alloc ?_ _ | refine Ext.more ?_ _ _ | refine Ext.drew ?_ | refine Ext.drewN ?_ _))).mono ?_
    rintro e w' ⟨rfl, rfl⟩
    go_wp2_with fail
    refine (Hp.out _ (by repeat (first | exact Ext.refl _ | exact Ext.alloc (by assumption) _ | refine Ext.alloc ?_ _ | refine Ext.more ?_ _ _ | refine Ext.drew ?_ | refine Ext.drewN ?_ _))).mono ?_
    rintro e w' ⟨rfl, l2, d2, rfl⟩
    go_wp2_with fail
    refine (cur_among1 _ _ s _ (by simp [go_sem]) (by simp [go_sem])).mono ?_
    rintro e w' ⟨rfl, l3, d3, rfl⟩
    go_wp2
    go_ret
    exact ⟨rfl, (by repeat (first | exact Ext.refl _ | exact Ext.alloc (by assumption) _ | refine Ext.alloc ?_ _ | refine Ext.more ?_ _ _ | refine Ext.drew ?_ | refine Ext.drewN ?_ _))⟩
  · have he' : (m.err != 0) = true := by simpa using he
    have ev : m.is s = false := by simp [M.is, he]
    rw [ev]
    clear he ev
    go_enter Try.func21, Try.ntmps21
    go_wp2_with fail
    refine (Hf.out _ (by repeat (first | exact Ext.refl _ | exact Ext.alloc (by assumption) _ | refine Ext.alloc ?_ _ | refine Ext.more ?_ _ _ | refine Ext.drew ?_ | refine Ext.drewN ?_ _))).mono ?_
    rintro e w' ⟨rfl, rfl⟩
    go_wp2
    go_ret
    exact ⟨rfl, (by repeat (first | exact Ext.refl _ | exact Ext.alloc (by assumption) _ | refine Ext.alloc ?_ _ | refine Ext.more ?_ _ _ | refine Ext.drew ?_ | refine Ext.drewN ?_ _))⟩

theorem CD.next_ {ts : List Tok} {k : Nat} {m : M} (h : CD ts k m) (he : m.err = 0) (hk : k < ts.length) : CD ts (k + 1) m.next := by
  refine ⟨hk, ?_, hide ?_⟩
  · have := h.nest; unfold M.next; split <;> exact this
  · have := h.rest.out; unfold M.next; rw [if_pos he]; simp [this]
theorem CD.same_next {ts : List Tok} {k : Nat} {m : M} (h : CD ts k m) (he : m.err = 0) (hk : ¬ k < ts.length) : m.next = m := by
  have := h.rest.out
  rw [List.drop_of_length_le (by omega)] at this
  unfold M.next; rw [if_pos he, this]; obtain ⟨r, a, b, c, d⟩ := m; simp at this ⊢; exact this

/-- The post of a method that changes the cursor alone. -/
def Chg (w : World) (c : Nat) (A : Option Addr) (cap : Nat) (ts : List Tok) (m' : M) (w' : World) : Prop :=
  ∃ k', CD ts k' m' ∧ Upd w c (curCells A cap ts.length k' m') w'

set_option maxHeartbeats 400000 in
theorem cur_next {w : World} {c cap k : Nat} {A : Option Addr} {ts : List Tok} {m : M} (h : Cur w c A cap ts k m) (hts : ts.length ≤ 100) :
    Calls Try.prog 20 #[.pointer (some ⟨c, 0, none⟩)] w fun e w' => e = .returned (tokV m.peek) ∧ Chg w c A cap ts m.next w' := by
  have Hf := hide fun W (hW : Ext w W) => cur_failed (h.ext hW)
  have Hp := hide fun W (hW : Ext w W) => cur_peek (h.ext hW)
  have h0 : w.cell? ⟨c, 0, none⟩ = some (.slice A ts.length cap) := h.cell 0
  have h5 : w.cell? ⟨c, 5, none⟩ = some (.int .i64 k) := h.cell 5
  have f5 := h.free 5
  have hc := h.lt
  have hcd := h.cd
  have Hb := hide h.blk
  by_cases he : m.err = 0
  · have he' : (m.err != 0) = false := by simpa using he
    by_cases hk : k < ts.length
    · have Hd := hide (hcd.next_ he hk)
      have Hn : Hid (m.next = { m with rest := m.rest.tail }) := hide (by simp [M.next, he])
      have hk' : (k : Int) < (ts.length : Int) := by omega
      clear h hcd he hk
      go_enter Try.func20, Try.ntmps20
      go_wp2_with fail
      refine (Hp.out _ (by repeat (first | exact Ext.refl _ | exact Ext.alloc (by assumption) _ | refine Ext.alloc ?_ _ | refine Ext.more ?_ _ _ | refine Ext.drew ?_ | refine Ext.drewN ?_ _))).mono ?_
      rintro e w' ⟨rfl, l1, d1, rfl⟩
      go_wp2
      go_quiet ((go_at_call 71; exact Calls.quiet_of_same (Hf.out _ (by repeat (first | exact Ext.refl _ | exact Ext.alloc (by assumption) _ | refine Ext.alloc ?_ _ | refine Ext.more ?_ _ _ | refine Ext.drew ?_ | refine Ext.drewN ?_ _)))))
      go_wp2
      exact bodyPost_ret (v := tokV m.peek) (by simp [results, Try.results20, go_sem]) rfl ⟨rfl, k + 1, Hd.out, Upd.cast (cs := (curCells A cap ts.length k m).setIfInBounds 5 (.int .i64 (k + 1))) (by repeat (first | exact Upd.refl Hb.out | exact Lax.refl Hb.out | refine Upd.alloc ?_ _ | refine Upd.more_ ?_ _ _ | refine Upd.drew ?_ | refine Upd.drewN ?_ _ | refine Upd.set ?_ (by assumption) _ _ | refine Upd.blk ?_ (by assumption) _ | refine Lax.alloc ?_ _ | refine Lax.more_ ?_ _ _ | refine Lax.drew ?_ | refine Lax.drewN ?_ _ | refine Lax.blk ?_ (by assumption) _)) (by rw [Hn.out]; simp [curCells])⟩
    · have hk' : ¬ ((k : Int) < (ts.length : Int)) := by omega
      have hk2 : (ts.length : Int) ≤ (k : Int) := by omega
      have Hd := hide hcd
      rw [hcd.same_next he hk]
      clear h hcd he hk
      go_enter Try.func20, Try.ntmps20
      go_wp2_with fail
      refine (Hp.out _ (by repeat (first | exact Ext.refl _ | exact Ext.alloc (by assumption) _ | refine Ext.alloc ?_ _ | refine Ext.more ?_ _ _ | refine Ext.drew ?_ | refine Ext.drewN ?_ _))).mono ?_
      rintro e w' ⟨rfl, l1, d1, rfl⟩
      go_wp2
      go_quiet ((go_at_call 71; exact Calls.quiet_of_same (Hf.out _ (by repeat (first | exact Ext.refl _ | exact Ext.alloc (by assumption) _ | refine Ext.alloc ?_ _ | refine Ext.more ?_ _ _ | refine Ext.drew ?_ | refine Ext.drewN ?_ _)))))
      go_wp2
      exact bodyPost_ret (v := tokV m.peek) (by simp [results, Try.results20, go_sem]) rfl ⟨rfl, k, Hd.out, (by repeat (first | exact Upd.refl Hb.out | exact Lax.refl Hb.out | refine Upd.alloc ?_ _ | refine Upd.more_ ?_ _ _ | refine Upd.drew ?_ | refine Upd.drewN ?_ _ | refine Upd.set ?_ (by assumption) _ _ | refine Upd.blk ?_ (by assumption) _ | refine Lax.alloc ?_ _ | refine Lax.more_ ?_ _ _ | refine Lax.drew ?_ | refine Lax.drewN ?_ _ | refine Lax.blk ?_ (by assumption) _))⟩
  · have he' : (m.err != 0) = true := by simpa using he
    have ev : m.next = m := by simp [M.next, he]
    rw [ev]
    have Hd := hide hcd
    clear h hcd he ev
    go_enter Try.func20, Try.ntmps20
    go_wp2_with fail
    refine (Hp.out _ (by repeat (first | exact Ext.refl _ | exact Ext.alloc (by assumption) _ | refine Ext.alloc ?_ _ | refine Ext.more ?_ _ _ | refine Ext.drew ?_ | refine Ext.drewN ?_ _))).mono ?_
    rintro e w' ⟨rfl, l1, d1, rfl⟩
    go_wp2
    go_quiet ((go_at_call 71; exact Calls.quiet_of_same (Hf.out _ (by repeat (first | exact Ext.refl _ | exact Ext.alloc (by assumption) _ | refine Ext.alloc ?_ _ | refine Ext.more ?_ _ _ | refine Ext.drew ?_ | refine Ext.drewN ?_ _)))))
    go_wp2
    exact bodyPost_ret (v := tokV m.peek) (by simp [results, Try.results20, go_sem]) rfl ⟨rfl, k, Hd.out, (by repeat (first | exact Upd.refl Hb.out | exact Lax.refl Hb.out | refine Upd.alloc ?_ _ | refine Upd.more_ ?_ _ _ | refine Upd.drew ?_ | refine Upd.drewN ?_ _ | refine Upd.set ?_ (by assumption) _ _ | refine Upd.blk ?_ (by assumption) _ | refine Lax.alloc ?_ _ | refine Lax.more_ ?_ _ _ | refine Lax.drew ?_ | refine Lax.drewN ?_ _ | refine Lax.blk ?_ (by assumption) _))⟩

theorem CD.fail_ {ts : List Tok} {k : Nat} {m : M} (h : CD ts k m) (e : Int) : CD ts k (m.fail e) := by
  unfold M.fail; split
  · exact ⟨h.le, h.nest, h.rest⟩
  · exact h

set_option maxHeartbeats 400000 in
theorem cur_fail {w : World} {c cap k : Nat} {A : Option Addr} {ts : List Tok} {m : M} (h : Cur w c A cap ts k m) (x : Int) :
    Calls Try.prog 36 #[.pointer (some ⟨c, 0, none⟩), .int .i64 x] w fun e w' => e = .returned (.bool false) ∧ Chg w c A cap ts (m.fail x) w' := by
  have Hf := hide fun W (hW : Ext w W) => cur_failed (h.ext hW)
  have Hp := hide fun W (hW : Ext w W) => cur_peek (h.ext hW)
  have h7 : w.cell? ⟨c, 7, none⟩ = some (.int .i64 m.err) := h.cell 7
  have h8 : w.cell? ⟨c, 8, none⟩ = some (.int .i64 m.pos) := h.cell 8
  have f7 := h.free 7
  have f8 := h.free 8
  have hc := h.lt
  have Hd := hide (h.cd.fail_ x)
  have Hb := hide h.blk
  clear h
  by_cases he : m.err = 0
  · have he' : (m.err != 0) = false := by simpa using he
    have Hn : Hid (m.fail x = { m with err := if x = 0 then 1 else x, pos := m.peek.pos }) := hide (by simp [M.fail, he])
    clear he
    by_cases hx : x = 0
    · subst hx
      go_enter Try.func36, Try.ntmps36
      go_wp2_with fail
      refine (Hf.out _ (by repeat (first | exact Ext.refl _ | exact Ext.alloc (by assumption) _ | refine Ext.alloc ?_ _ | refine Ext.more ?_ _ _ | refine Ext.drew ?_ | refine Ext.drewN ?_ _))).mono ?_
      rintro e w' ⟨rfl, rfl⟩
      go_wp2_with fail
      refine (Hp.out _ (by repeat (first | exact Ext.refl _ | exact Ext.alloc (by assumption) _ | refine Ext.alloc ?_ _ | refine Ext.more ?_ _ _ | refine Ext.drew ?_ | refine Ext.drewN ?_ _))).mono ?_
      rintro e w' ⟨rfl, l1, d1, rfl⟩
      go_wp2
      go_ret
      exact ⟨rfl, k, Hd.out, Upd.cast (cs := ((curCells A cap ts.length k m).setIfInBounds 8 (.int .i64 m.peek.pos)).setIfInBounds 7 (.int .i64 1)) (by repeat (first | exact Upd.refl Hb.out | exact Lax.refl Hb.out | refine Upd.alloc ?_ _ | refine Upd.more_ ?_ _ _ | refine Upd.drew ?_ | refine Upd.drewN ?_ _ | refine Upd.set ?_ (by assumption) _ _ | refine Upd.blk ?_ (by assumption) _ | refine Lax.alloc ?_ _ | refine Lax.more_ ?_ _ _ | refine Lax.drew ?_ | refine Lax.drewN ?_ _ | refine Lax.blk ?_ (by assumption) _)) (by rw [Hn.out]; simp [curCells])⟩
    · have hx' : (x == 0) = false := by simpa using hx
      have Hx := hide hx
      clear hx
      go_enter Try.func36, Try.ntmps36
      go_wp2_with fail
      refine (Hf.out _ (by repeat (first | exact Ext.refl _ | exact Ext.alloc (by assumption) _ | refine Ext.alloc ?_ _ | refine Ext.more ?_ _ _ | refine Ext.drew ?_ | refine Ext.drewN ?_ _))).mono ?_
      rintro e w' ⟨rfl, rfl⟩
      go_wp2_with fail
      refine (Hp.out _ (by repeat (first | exact Ext.refl _ | exact Ext.alloc (by assumption) _ | refine Ext.alloc ?_ _ | refine Ext.more ?_ _ _ | refine Ext.drew ?_ | refine Ext.drewN ?_ _))).mono ?_
      rintro e w' ⟨rfl, l1, d1, rfl⟩
      go_wp2
      go_ret
      exact ⟨rfl, k, Hd.out, Upd.cast (cs := ((curCells A cap ts.length k m).setIfInBounds 8 (.int .i64 m.peek.pos)).setIfInBounds 7 (.int .i64 x)) (by repeat (first | exact Upd.refl Hb.out | exact Lax.refl Hb.out | refine Upd.alloc ?_ _ | refine Upd.more_ ?_ _ _ | refine Upd.drew ?_ | refine Upd.drewN ?_ _ | refine Upd.set ?_ (by assumption) _ _ | refine Upd.blk ?_ (by assumption) _ | refine Lax.alloc ?_ _ | refine Lax.more_ ?_ _ _ | refine Lax.drew ?_ | refine Lax.drewN ?_ _ | refine Lax.blk ?_ (by assumption) _)) (by rw [Hn.out, if_neg Hx.out]; simp [curCells])⟩
  · have he' : (m.err != 0) = true := by simpa using he
    have Hn : Hid (m.fail x = m) := hide (by simp [M.fail, he])
    clear he
    go_enter Try.func36, Try.ntmps36
    go_wp2_with fail
    refine (Hf.out _ (by repeat (first | exact Ext.refl _ | exact Ext.alloc (by assumption) _ | refine Ext.alloc ?_ _ | refine Ext.more ?_ _ _ | refine Ext.drew ?_ | refine Ext.drewN ?_ _))).mono ?_
    rintro e w' ⟨rfl, rfl⟩
    go_wp2
    go_ret
    exact ⟨rfl, k, Hd.out, Upd.cast (cs := curCells A cap ts.length k m) (by repeat (first | exact Upd.refl Hb.out | exact Lax.refl Hb.out | refine Upd.alloc ?_ _ | refine Upd.more_ ?_ _ _ | refine Upd.drew ?_ | refine Upd.drewN ?_ _ | refine Upd.set ?_ (by assumption) _ _ | refine Upd.blk ?_ (by assumption) _ | refine Lax.alloc ?_ _ | refine Lax.more_ ?_ _ _ | refine Lax.drew ?_ | refine Lax.drewN ?_ _ | refine Lax.blk ?_ (by assumption) _)) (by rw [Hn.out])⟩

set_option maxHeartbeats 400000 in
theorem cur_take {w : World} {c cap k : Nat} {A : Option Addr} {ts : List Tok} {m : M} (h : Cur w c A cap ts k m) (hts : ts.length ≤ 100) (s : ByteArray) :
    Calls Try.prog 24 #[.pointer (some ⟨c, 0, none⟩), .string s] w fun e w' => e = .returned (.bool (m.is s)) ∧ Chg w c A cap ts (m.take s) w' := by
  have Hi := hide fun W (hW : Ext w W) => cur_is (h.ext hW) s
  have Hn := hide fun W (hW : Ext w W) => cur_next (h.ext hW) hts
  have hc := h.lt
  have Hd := hide h.cd
  have Hb := hide h.blk
  clear h
  cases hi : m.is s
  · have ev : m.take s = m := by simp [M.take, hi]
    rw [ev]
    clear ev
    go_enter Try.func24, Try.ntmps24
    go_wp2_with fail
    refine (Hi.out _ (by repeat (first | exact Ext.refl _ | exact Ext.alloc (by assumption) _ | refine Ext.alloc ?_ _ | refine Ext.more ?_ _ _ | refine Ext.drew ?_ | refine Ext.drewN ?_ _))).mono ?_
    rintro e w' ⟨rfl, l1, d1, rfl⟩
    go_wp2
    go_ret
    exact ⟨rfl, k, Hd.out, (by repeat (first | exact Upd.refl Hb.out | exact Lax.refl Hb.out | refine Upd.alloc ?_ _ | refine Upd.more_ ?_ _ _ | refine Upd.drew ?_ | refine Upd.drewN ?_ _ | refine Upd.set ?_ (by assumption) _ _ | refine Upd.blk ?_ (by assumption) _ | refine Lax.alloc ?_ _ | refine Lax.more_ ?_ _ _ | refine Lax.drew ?_ | refine Lax.drewN ?_ _ | refine Lax.blk ?_ (by assumption) _))⟩
  · have ev : m.take s = m.next := by simp [M.take, hi]
    rw [ev]
    clear ev
    go_enter Try.func24, Try.ntmps24
    go_wp2_with fail
    refine (Hi.out _ (by repeat (first | exact Ext.refl _ | exact Ext.alloc (by assumption) _ | refine Ext.alloc ?_ _ | refine Ext.more ?_ _ _ | refine Ext.drew ?_ | refine Ext.drewN ?_ _))).mono ?_
    rintro e w' ⟨rfl, l1, d1, rfl⟩
    go_wp2_with fail
    refine (Hn.out _ (by repeat (first | exact Ext.refl _ | exact Ext.alloc (by assumption) _ | refine Ext.alloc ?_ _ | refine Ext.more ?_ _ _ | refine Ext.drew ?_ | refine Ext.drewN ?_ _))).mono ?_
    rintro e w' ⟨rfl, k', hd', l2, d2, rfl⟩
    have Hd' := hide hd'
    clear hd'
    go_wp2
    go_ret
    exact ⟨rfl, k', Hd'.out, (by repeat (first | exact Upd.refl Hb.out | exact Lax.refl Hb.out | refine Upd.alloc ?_ _ | refine Upd.more_ ?_ _ _ | refine Upd.drew ?_ | refine Upd.drewN ?_ _ | refine Upd.set ?_ (by assumption) _ _ | refine Upd.blk ?_ (by assumption) _ | refine Lax.alloc ?_ _ | refine Lax.more_ ?_ _ _ | refine Lax.drew ?_ | refine Lax.drewN ?_ _ | refine Lax.blk ?_ (by assumption) _))⟩

set_option maxHeartbeats 400000 in
theorem cur_want {w : World} {c cap k : Nat} {A : Option Addr} {ts : List Tok} {m : M} (h : Cur w c A cap ts k m) (hts : ts.length ≤ 100) (s : ByteArray) :
    Calls Try.prog 26 #[.pointer (some ⟨c, 0, none⟩), .string s] w fun e w' => e = .returned (.bool (m.is s)) ∧ Chg w c A cap ts (m.want s) w' := by
  have Ht := hide fun W (hW : Ext w W) => cur_take (h.ext hW) hts s
  have hc := h.lt
  have Hb := hide h.blk
  have Hh := hide h
  clear h
  cases hi : m.is s
  · have ev : m.want s = m.fail 5 := by simp [M.want, hi]
    have ev' : m.take s = m := by simp [M.take, hi]
    rw [ev]
    rw [ev'] at Ht
    clear ev ev'
    go_enter Try.func26, Try.ntmps26
    go_wp2_with fail
    refine (Ht.out _ (by repeat (first | exact Ext.refl _ | exact Ext.alloc (by assumption) _ | refine Ext.alloc ?_ _ | refine Ext.more ?_ _ _ | refine Ext.drew ?_ | refine Ext.drewN ?_ _))).mono ?_
    rintro e w' ⟨rfl, k', hd', l1, d1, rfl⟩
    have Hf := hide (cur_fail (Hh.out.upd hd' ⟨l1, d1, rfl⟩) 5)
    clear hd'
    go_wp2_with fail
    refine Hf.out.mono ?_
    rintro e w' ⟨rfl, k2, hd2, l2, d2, rfl⟩
    have Hd := hide hd2
    clear hd2
    go_wp2
    go_ret
    exact ⟨rfl, k2, Hd.out, (by repeat (first | exact Upd.refl Hb.out | exact Lax.refl Hb.out | refine Upd.alloc ?_ _ | refine Upd.more_ ?_ _ _ | refine Upd.drew ?_ | refine Upd.drewN ?_ _ | refine Upd.set ?_ (by assumption) _ _ | refine Upd.blk ?_ (by assumption) _ | refine Lax.alloc ?_ _ | refine Lax.more_ ?_ _ _ | refine Lax.drew ?_ | refine Lax.drewN ?_ _ | refine Lax.blk ?_ (by assumption) _))⟩
  · have ev : m.want s = m.take s := by simp [M.want, M.take, hi]
    rw [ev]
    clear ev
    go_enter Try.func26, Try.ntmps26
    go_wp2_with fail
    refine (Ht.out _ (by repeat (first | exact Ext.refl _ | exact Ext.alloc (by assumption) _ | refine Ext.alloc ?_ _ | refine Ext.more ?_ _ _ | refine Ext.drew ?_ | refine Ext.drewN ?_ _))).mono ?_
    rintro e w' ⟨rfl, k', hd', l1, d1, rfl⟩
    have Hd := hide hd'
    clear hd'
    go_wp2
    go_ret
    exact ⟨rfl, k', Hd.out, (by repeat (first | exact Upd.refl Hb.out | exact Lax.refl Hb.out | refine Upd.alloc ?_ _ | refine Upd.more_ ?_ _ _ | refine Upd.drew ?_ | refine Upd.drewN ?_ _ | refine Upd.set ?_ (by assumption) _ _ | refine Upd.blk ?_ (by assumption) _ | refine Lax.alloc ?_ _ | refine Lax.more_ ?_ _ _ | refine Lax.drew ?_ | refine Lax.drewN ?_ _ | refine Lax.blk ?_ (by assumption) _))⟩

end Go.Proofs.Ytnegamkakdbhfaa
