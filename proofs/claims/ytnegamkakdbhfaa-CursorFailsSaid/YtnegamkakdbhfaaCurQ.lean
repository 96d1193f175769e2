/- 'CursorFails': a cursor that failed tells that failure. -/
import Derived.Test.YtnegamkakdbhfaaCurL
import Derived.Test.YtnegamkakdbhfaaDeed
import Derived.WalkSpells
import Derived.WalkLawsBesides
import Derived.Deep.QuietTactic
import Derived.BigQuiet
namespace Go.Proofs.Ytnegamkakdbhfaa
open Go.RowKit

/-- A cursor that has failed, and a deed in a box. -/
structure DC (w0 w : World) (c : Nat) (A : Option Addr) (cap : Nat) (ts : List Tok) (m : M) (B : Nat) (d : Deed) : Prop where
  ext : Ext w0 w
  cur : ∃ k, Cur w c A cap ts k m
  box : w.heap[B]? = some (.cells #[.int .i64 d.kind, .int .i64 d.n, .string d.text] 34 (0, 0))
  ne : B ≠ c
  dead : m.err ≠ 0
  hts : ts.length ≤ 100
  le : w0.heap.size ≤ c

section
variable {w0 w w' : World} {c cap B : Nat} {A : Option Addr} {ts : List Tok} {m : M} {d : Deed}
theorem DC.extend (h : DC w0 w c A cap ts m B d) (e : Ext w w') : DC w0 w' c A cap ts m B d :=
  ⟨h.ext.trans e, h.cur.imp fun _ hc => hc.ext e, (e.heap (lt_of_blk h.box)).trans h.box, h.ne, h.dead, h.hts, h.le⟩
theorem DC.alloc (h : DC w0 w c A cap ts m B d) (o : Obj) : DC w0 (w.alloc o) c A cap ts m B d := h.extend ((Ext.refl _).alloc o)
theorem DC.chg (h : DC w0 w c A cap ts m B d) (u : Chg w c A cap ts m w') : DC w0 w' c A cap ts m B d := by
  obtain ⟨k, hk⟩ := h.cur
  obtain ⟨k', hd, u⟩ := u
  exact ⟨h.ext.upd u h.le, ⟨k', hk.upd hd u⟩, (u.heap (lt_of_blk h.box) h.ne).trans h.box, h.ne, h.dead, h.hts, h.le⟩
theorem DC.lt (h : DC w0 w c A cap ts m B d) : B < w.heap.size := lt_of_blk h.box
theorem DC.q1 (h : DC w0 w c A cap ts m B d) : w.cell? ⟨B, 1, none⟩ = some (.int .i64 d.n) := by simp [World.cell?, h.box]
theorem DC.q2 (h : DC w0 w c A cap ts m B d) : w.cell? ⟨B, 2, none⟩ = some (.string d.text) := by simp [World.cell?, h.box]
end

section
variable {m : M} (h : m.err ≠ 0)
include h
theorem dead_next : m.next = m := by simp [M.next, h]
theorem dead_peek : m.peek = Tok.zero := by simp [M.peek, h]
theorem dead_is (s : ByteArray) : m.is s = false := by simp [M.is, h]
theorem dead_fail (x : Int) : m.fail x = m := by simp [M.fail, h]
theorem dead_take (s : ByteArray) : m.take s = m := by simp [M.take, dead_is h]
theorem dead_want (s : ByteArray) : m.want s = m := by simp [M.want, dead_is h, dead_fail h]
theorem dead_kind (x : Int) : m.kindB x = false ∧ m.kind x = m ∧ m.kindT x = Tok.zero := by simp [M.kindB, M.kind, M.kindT, h, dead_fail h]
theorem dead_ahead (s : ByteArray) : m.ahead s = false := by simp [M.ahead, h]
theorem dead_enter : m.enterB = false ∧ m.enter = m := by simp [M.enterB, M.enter, h, dead_fail h]
theorem dead_leave : m.leave = m := by simp [M.leave, h]
end

section
variable {w0 w : World} {c cap B : Nat} {A : Option Addr} {ts : List Tok} {m : M} {d : Deed} (h : DC w0 w c A cap ts m B d)
include h
theorem dc_next : Calls Try.prog 20 #[.pointer (some ⟨c, 0, none⟩)] w fun e w' => e = .returned (tokV Tok.zero) ∧ DC w0 w' c A cap ts m B d := by
  obtain ⟨k, hk⟩ := h.cur
  refine (cur_next hk h.hts).mono fun e w' ⟨he, u⟩ => ?_
  rw [dead_peek h.dead] at he; rw [dead_next h.dead] at u
  exact ⟨he, h.chg u⟩
theorem dc_is (s : ByteArray) : Calls Try.prog 21 #[.pointer (some ⟨c, 0, none⟩), .string s] w fun e w' => e = .returned (.bool false) ∧ DC w0 w' c A cap ts m B d := by
  obtain ⟨k, hk⟩ := h.cur
  refine (cur_is hk s).mono fun e w' ⟨he, u⟩ => ?_
  rw [dead_is h.dead] at he
  exact ⟨he, h.extend u⟩
theorem dc_take (s : ByteArray) : Calls Try.prog 24 #[.pointer (some ⟨c, 0, none⟩), .string s] w fun e w' => e = .returned (.bool false) ∧ DC w0 w' c A cap ts m B d := by
  obtain ⟨k, hk⟩ := h.cur
  refine (cur_take hk h.hts s).mono fun e w' ⟨he, u⟩ => ?_
  rw [dead_is h.dead] at he; rw [dead_take h.dead] at u
  exact ⟨he, h.chg u⟩
theorem dc_want (s : ByteArray) : Calls Try.prog 26 #[.pointer (some ⟨c, 0, none⟩), .string s] w fun e w' => e = .returned (.bool false) ∧ DC w0 w' c A cap ts m B d := by
  obtain ⟨k, hk⟩ := h.cur
  refine (cur_want hk h.hts s).mono fun e w' ⟨he, u⟩ => ?_
  rw [dead_is h.dead] at he; rw [dead_want h.dead] at u
  exact ⟨he, h.chg u⟩
theorem dc_kind (x : Int) : Calls Try.prog 28 #[.pointer (some ⟨c, 0, none⟩), .int .i64 x] w fun e w' => e = .returned (.tuple #[tokV Tok.zero, .bool false]) ∧ DC w0 w' c A cap ts m B d := by
  obtain ⟨k, hk⟩ := h.cur
  refine (cur_kind hk h.hts x).mono fun e w' ⟨he, u⟩ => ?_
  obtain ⟨e1, e2, e3⟩ := dead_kind h.dead x
  rw [e1, e3] at he; rw [e2] at u
  exact ⟨he, h.chg u⟩
theorem dc_ahead (s : ByteArray) : Calls Try.prog 29 #[.pointer (some ⟨c, 0, none⟩), .string s] w fun e w' => e = .returned (.bool false) ∧ DC w0 w' c A cap ts m B d := by
  obtain ⟨k, hk⟩ := h.cur
  refine (cur_ahead hk h.hts s).mono fun e w' ⟨he, u⟩ => ?_
  rw [dead_ahead h.dead] at he
  exact ⟨he, h.extend u⟩
theorem dc_enter : Calls Try.prog 32 #[.pointer (some ⟨c, 0, none⟩)] w fun e w' => e = .returned (.bool false) ∧ DC w0 w' c A cap ts m B d := by
  obtain ⟨k, hk⟩ := h.cur
  refine (cur_enter hk).mono fun e w' ⟨he, u⟩ => ?_
  rw [(dead_enter h.dead).1] at he; rw [(dead_enter h.dead).2] at u
  exact ⟨he, h.chg u⟩
theorem dc_leave : Calls Try.prog 33 #[.pointer (some ⟨c, 0, none⟩)] w fun e w' => e = .returned (.tuple #[]) ∧ DC w0 w' c A cap ts m B d := by
  obtain ⟨k, hk⟩ := h.cur
  refine (cur_leave hk).mono fun e w' ⟨he, u⟩ => ?_
  rw [dead_leave h.dead] at u
  exact ⟨he, h.chg u⟩
theorem dc_fail (x : Int) : Calls Try.prog 36 #[.pointer (some ⟨c, 0, none⟩), .int .i64 x] w fun e w' => e = .returned (.bool false) ∧ DC w0 w' c A cap ts m B d := by
  obtain ⟨k, hk⟩ := h.cur
  refine (cur_fail hk x).mono fun e w' ⟨he, u⟩ => ?_
  rw [dead_fail h.dead] at u
  exact ⟨he, h.chg u⟩
end

@[go_sem] theorem zero_fields : Tok.zero.kind = 0 ∧ Tok.zero.pos = 0 ∧ Tok.zero.n = 0 ∧ Tok.zero.text = ⟨#[]⟩ := ⟨rfl, rfl, rfl, rfl⟩

set_option maxRecDepth 10000 in
set_option maxHeartbeats 4000000 in
theorem law_fails (A A' : Option Addr) (cap cap' : Nat) (l : List Tok) (ds : List Deed) (n : Int) (w : World) (h : Toks w A l) (hle : l.length ≤ cap) (hcap : cap ≤ 9223372036854775807) (hd : Deeds w A' ds) :
    Calls Try.prog 5 #[.slice A l.length cap, .slice A' ds.length cap', .int .i64 n] w fun e w' => e = .returned (.bool true) ∧ Ext w w' := by
  by_cases hl : l.length ≤ 100 ∧ ds.length ≤ 300
  · go_enter Try.func5, Try.ntmps5
    go_wp2_with fail
    refine (few_yes _ _ _ _ _ _ _ hl.1 hl.2).mono ?_
    rintro e w' ⟨rfl, rfl⟩
    go_wp2_with fail
    refine (cur_new A cap l _ h hl.1 hle hcap).mono ?_
    rintro e w1 ⟨⟨c, A1, cap1, rfl, hc1, hA1, hcur⟩, hx1⟩
    have hdead : ((initM l).fail n).err ≠ 0 := by
      show (M.fail (initM l) n).err ≠ 0
      simp only [M.fail, initM]
      by_cases hn : n = 0 <;> simp [hn]
    have hrl : (initM l).rest.length ≤ 100 := by
      have : (initM l).rest.length ≤ l.length := (List.takeWhile_sublist _).length_le
      omega
    generalize hm : initM l = m at *
    have Hcur := hide hcur
    have Hx := hide hx1
    have Hdead := hide hdead
    have Hds := hide hd
    have hdl : ds.length ≤ 300 := hl.2
    clear hcur hx1 hm h hdead hA1 hd hl
    go_wp2_with fail
    refine (cur_fail Hcur.out n).mono ?_
    rintro e w2 ⟨rfl, k2, d2, u2⟩
    have HC2 := hide (Hcur.out.upd d2 u2)
    have HX2 := hide (Hx.out.upd u2 hc1)
    clear Hcur Hx d2 u2
    generalize m.fail n = m1 at *
    have herr : (m1.err != 0) = true := by simpa using Hdead.out
    have hdE : m1.doneE = m1.err := by have := Hdead.out; simp [M.doneE, this]
    go_wp2_with fail
    refine (cur_done HC2.out).mono ?_
    rintro e w3 ⟨rfl, x3⟩
    have HC3 : Hid (∃ k, Cur w3 c A1 cap1 m.rest k m1) := hide ⟨_, HC2.out.ext x3⟩
    have HX3 := hide (HX2.out.trans x3)
    clear HC2 HX2 x3
    rw [hdE]
    have HdE := hide hdE
    clear hdE
    go_wp2
    go_loopw [10] (fun iv wr => ∃ i : Nat, i ≤ ds.length ∧ iv = .int .i64 i ∧ Hid (∃ k, Cur wr c A1 cap1 m.rest k m1) ∧ Hid (Ext w wr)) (fun iv _ => ds.length - (intOf iv).toNat)
    case atStart => exact ⟨0, Nat.zero_le _, rfl, HC3, HX3⟩
    case round =>
      obtain ⟨i, hi, rfl, HC, HX⟩ := hrel
      by_cases hlt : i < ds.length
      · obtain ⟨b, o, rfl, hb, q0, q1, q2⟩ := (Hds.out.ext HX.out).at_ hlt
        have hlt' : (i : Int) < (ds.length : Int) := by omega
        generalize deedAt ds i = d at *
        have hcl : c < wr.heap.size := by obtain ⟨k, hk⟩ := HC.out; exact hk.lt
        have Hd0 : Hid (DC w (wr.alloc (.cells #[.int .i64 d.kind, .int .i64 d.n, .string d.text] 34)) c A1 cap1 m.rest m1 wr.heap.size d) :=
          hide ⟨HX.out.alloc _, HC.out.imp fun _ hk => hk.ext ((Ext.refl _).alloc _), heap_alloc_at _ _ _ rfl, by omega, Hdead.out, hrl, hc1⟩
        clear HC HX
        go_wp2_with (first
          | (go_at_call 28; refine (dc_kind Hd0.out _).mono ?_; rintro e w5 ⟨rfl, hd⟩; clear Hd0; have Hd0 := hide hd; have z1 := hd.q1; have z2 := hd.q2; have z3 := hd.lt; clear hd)
          | (go_at_call 20; refine (dc_next (Hd0.out.alloc _)).mono ?_; rintro e w5 ⟨rfl, hd⟩; clear Hd0; have Hd0 := hide hd; have z1 := hd.q1; have z2 := hd.q2; have z3 := hd.lt; clear hd)
          | (go_at_call 21; refine (dc_is Hd0.out _).mono ?_; rintro e w5 ⟨rfl, hd⟩; clear Hd0; have Hd0 := hide hd; have z1 := hd.q1; have z2 := hd.q2; have z3 := hd.lt; clear hd)
          | (go_at_call 24; refine (dc_take Hd0.out _).mono ?_; rintro e w5 ⟨rfl, hd⟩; clear Hd0; have Hd0 := hide hd; have z1 := hd.q1; have z2 := hd.q2; have z3 := hd.lt; clear hd)
          | (go_at_call 26; refine (dc_want Hd0.out _).mono ?_; rintro e w5 ⟨rfl, hd⟩; clear Hd0; have Hd0 := hide hd; have z1 := hd.q1; have z2 := hd.q2; have z3 := hd.lt; clear hd)
          | (go_at_call 29; refine (dc_ahead Hd0.out _).mono ?_; rintro e w5 ⟨rfl, hd⟩; clear Hd0; have Hd0 := hide hd; have z1 := hd.q1; have z2 := hd.q2; have z3 := hd.lt; clear hd)
          | (go_at_call 32; refine (dc_enter Hd0.out).mono ?_; rintro e w5 ⟨rfl, hd⟩; clear Hd0; have Hd0 := hide hd; have z1 := hd.q1; have z2 := hd.q2; have z3 := hd.lt; clear hd)
          | (go_at_call 36; refine (dc_fail Hd0.out _).mono ?_; rintro e w5 ⟨rfl, hd⟩; clear Hd0; have Hd0 := hide hd; have z1 := hd.q1; have z2 := hd.q2; have z3 := hd.lt; clear hd)
          | (go_at_call 33; refine (dc_leave Hd0.out).mono ?_; rintro e w5 ⟨rfl, hd⟩; clear Hd0; have Hd0 := hide hd; have z1 := hd.q1; have z2 := hd.q2; have z3 := hd.lt; clear hd))
        go_roundw
        case rel => exact ⟨i + 1, hlt, by go_num, hide Hd0.out.cur, hide Hd0.out.ext⟩
        case measure => simp [intOf]; omega
      · have hge : (ds.length : Int) ≤ (i : Int) := by omega
        obtain ⟨k, hk⟩ := HC.out
        have HK := hide hk
        clear HC hk
        go_wp2_with fail
        refine (cur_done HK.out).mono ?_
        rintro e w6 ⟨rfl, x6⟩
        have HX6 := hide (HX.out.trans x6)
        clear HK HX x6
        rw [HdE.out]
        go_wp2_with fail
        refine (awake05 _).mono ?_
        rintro e w7 ⟨rfl, x7⟩
        have HX7 := hide (HX6.out.trans x7)
        clear HX6 x7
        go_wp2
        go_ret
        exact ⟨rfl, HX7.out⟩
  · go_enter Try.func5, Try.ntmps5
    go_wp2_with fail
    refine (few_no _ _ _ _ _ _ _ hl).mono ?_
    rintro e w' ⟨rfl, rfl⟩
    go_wp2_with fail
    refine (awake05 _).mono ?_
    rintro e w' ⟨rfl, l1, d1, rfl⟩
    go_wp2
    go_ret
    exact ⟨rfl, (by repeat (first | exact Ext.refl _ | exact Ext.alloc (by assumption) _ | refine Ext.alloc ?_ _ | refine Ext.more ?_ _ _ | refine Ext.drew ?_ | refine Ext.drewN ?_ _))⟩

end Go.Proofs.Ytnegamkakdbhfaa
