/- Chapter 12's law on anything done to a set, walked. -/
import Derived.Test.YtnegamkakdbhfaaSetG
import Derived.WalkSpells
import Derived.WalkLawsBesides
import Derived.Deep.QuietTactic
import Derived.BigQuiet
namespace Go.Proofs.Ytnegamkakdbhfaa
open Go.RowKit Go.Sort Go.Maps

structure Deed12 where
  kind : Int
  text : Str
def Deed12.cells (t : Deed12) : List Value := [.int .i64 t.kind, encStr t.text]
/-- Deeds that stand in memory. -/
def Deeds12 (w : World) (A : Option Addr) (ds : List Deed12) : Prop := Row w A 2 ds.length (ds.flatMap Deed12.cells)
theorem Deeds12.at_ {w : World} {A : Option Addr} {ds : List Deed12} (h : Deeds12 w A ds) {i : Nat} (hi : i < ds.length) :
    ∃ b o, A = some ⟨b, o, none⟩ ∧ b < w.heap.size ∧ w.cell? ⟨b, o + i * 2, none⟩ = some (.int .i64 (ds[i]'hi).kind) ∧ w.cell? ⟨b, o + i * 2 + 1, none⟩ = some (.string ⟨(ds[i]'hi).text.toArray⟩) := by
  obtain ⟨b, o, e, hb, hc⟩ := h.2 (by omega)
  have g (j : Nat) (hj : j < 2) : (ds.flatMap Deed12.cells)[i * 2 + j]? = (ds[i]'hi).cells[j]? := by
    rw [flat_get _ 2 (fun _ => rfl) ds i j hj, List.getElem?_eq_getElem hi]; rfl
  refine ⟨b, o, e, hb, ?_, ?_⟩
  · have := hc (i * 2 + 0) _ (g 0 (by omega)); simpa using this
  · have := hc (i * 2 + 1) _ (g 1 (by omega)); simpa [Nat.add_assoc] using this
theorem Deeds12.ext {w w' : World} {A : Option Addr} {ds : List Deed12} (h : Deeds12 w A ds) (k : Ext w w') : Deeds12 w' A ds := Row.ext h k
theorem SetL.strs {w w' : World} {s r n : Nat} {L M : List Str} {A : Option Addr} (h : SetL w s r n L) (g : w.grownBy w' (some r)) (hr : Strs w A M) : Strs w' A M := h.row g (by omega) hr
theorem cell_boxed (w : World) (cs : Array Value) (t : TypeId) (l : List Obj) (d i : Nat) : (more (w.alloc (.cells cs t)) l d).cell? ⟨w.heap.size, i, none⟩ = cs[i]? := by
  rw [cell_more _ _ _ _ _ (by simp)]
  have := heap_alloc_new w (.cells cs t)
  simp only [World.cell?, this]
  simp
theorem ref_hasF (A : Option Addr) (cap : Nat) (l : List Str) (x : Str) (w : World) (h : Strs w A l) (hr : Rising l) (hle : l.length ≤ 9223372036854775807) :
    Calls Try.prog 56 #[.slice A l.length cap, encStr x] w fun e w' => e = .returned (.bool (findB l x)) ∧ w' = w := by
  rw [findB_any hr]
  exact ref_has A cap l x w h hle

set_option maxRecDepth 10000 in
set_option maxHeartbeats 4000000 in
theorem plays12_in (A B : Option Addr) (cap cap' : Nat) (l : List Str) (ds : List Deed12) (w : World) (h : Strs w A l) (h' : Deeds12 w B ds) (hl : l.length ≤ 200) (hm : ds.length ≤ 200)
    (hs : ∀ x ∈ l, x.length ≤ 9223372036854775807) (hs' : ∀ x ∈ ds, x.text.length ≤ 9223372036854775807) :
    Calls Try.prog 11 #[.slice A l.length cap, .slice B ds.length cap'] w fun e w' => e = .returned (.bool true) ∧ Ext w w' := by
  have hl' : (l.length : Int) ≤ 200 := by omega
  have hm' : (ds.length : Int) ≤ 200 := by omega
  have H1 := hide h
  have H2 := hide h'
  have Hs1 := hide hs
  have Hs2 := hide hs'
  have hL := ofL_len l
  clear h h' hs hs'
  go_enter Try.func11, Try.ntmps11
  go_wp2_with fail
  refine (setl_new A cap l w H1.out Hs1.out (by omega)).mono ?_
  rintro e w1 ⟨⟨s, r, n, rfl, p1, p2, p3, g1⟩, l1, d1, rfl⟩
  have G1 := hide g1
  clear g1
  go_wp2_with fail
  refine (ref_of A cap l _ (H1.out.ext (by repeat (first | exact Ext.refl _ | exact Ext.pre (by simp) | exact Ext.alloc (by assumption) _ | refine Ext.alloc ?_ _ |  refine Ext.more ?_ _ _ | refine Ext.drew ?_ | refine Ext.drewN ?_ _))) (by omega)).mono ?_
  rintro e w1 ⟨⟨A3, c3, rfl, q1, q2, q3⟩, l3, d3, rfl⟩
  simp only [more_more] at q3
  have Q3 := hide q3
  clear q3
  generalize ofL l = L at *
  go_wp2
  go_loopw [6, 7] (fun v i wr => ∃ (k : Nat) (M : List Str) (A' : Option Addr) (c' : Nat), k ≤ ds.length ∧ M.length ≤ 200 + k ∧ i = .int .i64 (k : Nat) ∧ v = .slice A' M.length c' ∧ M.length ≤ c' ∧ c' ≤ 9223372036854775807 ∧ Hid (SetL wr s r (n + k) M) ∧ Hid (Strs wr A' M) ∧ Hid (Ext w wr)) (fun _ i _ => ds.length - (intOf i).toNat)
  case atStart => exact ⟨0, L, A3, c3, Nat.zero_le _, by omega, rfl, rfl, q1, q2, hide (G1.out.ext (by repeat (first | exact Ext.refl _ | exact Ext.pre (by simp) | exact Ext.alloc (by assumption) _ | refine Ext.alloc ?_ _ |  refine Ext.more ?_ _ _ | refine Ext.drew ?_ | refine Ext.drewN ?_ _))), Q3, hide (by repeat (first | exact Ext.refl _ | exact Ext.pre (by simp) | exact Ext.alloc (by assumption) _ | refine Ext.alloc ?_ _ |  refine Ext.more ?_ _ _ | refine Ext.drew ?_ | refine Ext.drewN ?_ _))⟩
  case round =>
    obtain ⟨k, M, A', c', hk, hM, rfl, rfl, z1, z2, HS, HR, HX⟩ := hrel
    by_cases hlt : k < ds.length
    · obtain ⟨b, o, rfl, hb, y0, y1⟩ := (H2.out.ext HX.out).at_ hlt
      have hlt' : (k : Int) < (ds.length : Int) := by omega
      have hx : (ds[k]'hlt).text.length ≤ 9223372036854775807 := Hs2.out _ (List.getElem_mem _)
      generalize (ds[k]'hlt).text = x at *
      generalize (ds[k]'hlt).kind = kd at *
      have hnk : n + k < 100000 := by omega
      have Hx := hide hx
      clear hx
      have hrw := HS.out.ltr
      by_cases h0 : kd = 0
      · have h0' : (kd == 0) = true := by simp [h0]
        clear h0
        go_wp2_with fail
        refine (ref_add A' c' M x _ (HR.out.ext (by repeat (first | exact Ext.refl _ | exact Ext.pre (by simp) | exact Ext.alloc (by assumption) _ | refine Ext.alloc ?_ _ |  refine Ext.more ?_ _ _ | refine Ext.drew ?_ | refine Ext.drewN ?_ _))) (by omega) z1 z2).mono ?_
        rintro e w1 ⟨⟨A4, c4, rfl, u1, u2, u3⟩, l4, d4, rfl⟩
        have R4 := hide u3
        clear u3
        go_wp2_with fail
        refine (setl_add (HS.out.ext (by repeat (first | exact Ext.refl _ | exact Ext.pre (by simp) | exact Ext.alloc (by assumption) _ | refine Ext.alloc ?_ _ |  refine Ext.more ?_ _ _ | refine Ext.drew ?_ | refine Ext.drewN ?_ _))) x Hx.out hnk).mono ?_
        rintro e w5 ⟨rfl, hs5, hg5⟩
        have R5 := hide ((HS.out.ext (by repeat (first | exact Ext.refl _ | exact Ext.pre (by simp) | exact Ext.alloc (by assumption) _ | refine Ext.alloc ?_ _ |  refine Ext.more ?_ _ _ | refine Ext.drew ?_ | refine Ext.drewN ?_ _))).strs hg5 R4.out)
        have X5 : Hid (Ext w w5) := hide ((HX.out.trans (by repeat (first | exact Ext.refl _ | exact Ext.pre (by simp) | exact Ext.alloc (by assumption) _ | refine Ext.alloc ?_ _ |  refine Ext.more ?_ _ _ | refine Ext.drew ?_ | refine Ext.drewN ?_ _))).grown hg5 (fun j hj => by injection hj with hj; omega))
        have S5 := hide hs5
        have hc5 : w5.cell? ⟨wr.heap.size, 1, none⟩ = some (encStr x) := (World.cell?_of_block (a := ⟨wr.heap.size, 1, none⟩) (hg5.block wr.heap.size (by simp; omega) (by intro hh; injection hh with hh; omega))).trans (cell_boxed _ _ _ _ _ _)
        have hA := addL_len M x
        have Hr := hide S5.out.rising
        clear hs5 hg5 R4 HS HR HX
        have Hbb : Hid (∀ b : Bool, (b != b) = false) := hide (by intro b; simp)
        generalize findB M x = fb at *
        generalize addL M x = M2 at *
        have hfb := Hbb.out (!fb)
        have hM2 : M2.length ≤ 9223372036854775807 := by omega
        generalize hfx : findB M2 x = fx at *
        have Hfx := hide hfx
        clear hfx
        have HA : Hid (∀ w', Ext w5 w' → Calls Try.prog 64 #[.pointer (some ⟨s, 0, none⟩), encStr x] w' fun e w'' => e = .returned (.bool fx) ∧ w'' = w') := hide (fun w' e => by have := setl_has (S5.out.ext e) x Hx.out; rwa [Hfx.out] at this)
        have HB : Hid (∀ w', Ext w5 w' → Calls Try.prog 56 #[.slice A4 M2.length c4, encStr x] w' fun e w'' => e = .returned (.bool fx) ∧ w'' = w') := hide (fun w' e => by have := ref_hasF A4 c4 M2 x _ (R5.out.ext e) Hr.out hM2; rwa [Hfx.out] at this)
        have HC : Hid (∀ w', Ext w5 w' → Calls Try.prog 65 #[.pointer (some ⟨s, 0, none⟩)] w' fun e w'' => e = .returned (.int .i64 M2.length) ∧ w'' = w') := hide (fun w' e => setl_len (S5.out.ext e))
        have hfx2 := Hbb.out fx
        have hln : ((M2.length : Int) != (M2.length : Int)) = false := by simp
        go_wp2
        go_quiet ((first | (go_at_call 64; exact Calls.quiet_of_same (HA.out _ (by repeat (first | exact Ext.refl _ | exact Ext.pre (by simp) | exact Ext.alloc (by assumption) _ | refine Ext.alloc ?_ _ |  refine Ext.more ?_ _ _ | refine Ext.drew ?_ | refine Ext.drewN ?_ _)))) | (go_at_call 56; exact Calls.quiet_of_same (HB.out _ (by repeat (first | exact Ext.refl _ | exact Ext.pre (by simp) | exact Ext.alloc (by assumption) _ | refine Ext.alloc ?_ _ |  refine Ext.more ?_ _ _ | refine Ext.drew ?_ | refine Ext.drewN ?_ _)))) | (go_at_call 65; exact Calls.quiet_of_same (HC.out _ (by repeat (first | exact Ext.refl _ | exact Ext.pre (by simp) | exact Ext.alloc (by assumption) _ | refine Ext.alloc ?_ _ |  refine Ext.more ?_ _ _ | refine Ext.drew ?_ | refine Ext.drewN ?_ _))))))
        go_wp2
        go_roundw
        case rel => exact ⟨k + 1, M2, A4, c4, hlt, by omega, by go_num, rfl, u1, u2, hide (by exact S5.out.ext (by repeat (first | exact Ext.refl _ | exact Ext.pre (by simp) | exact Ext.alloc (by assumption) _ | refine Ext.alloc ?_ _ |  refine Ext.more ?_ _ _ | refine Ext.drew ?_ | refine Ext.drewN ?_ _))), hide (R5.out.ext (by repeat (first | exact Ext.refl _ | exact Ext.pre (by simp) | exact Ext.alloc (by assumption) _ | refine Ext.alloc ?_ _ |  refine Ext.more ?_ _ _ | refine Ext.drew ?_ | refine Ext.drewN ?_ _))), hide (X5.out.trans (by repeat (first | exact Ext.refl _ | exact Ext.pre (by simp) | exact Ext.alloc (by assumption) _ | refine Ext.alloc ?_ _ |  refine Ext.more ?_ _ _ | refine Ext.drew ?_ | refine Ext.drewN ?_ _)))⟩
        case measure => simp [intOf]; omega
      · have h0' : (kd == 0) = false := by simpa using h0
        clear h0
        go_wp2_with fail
        refine (ref_remove A' c' M x _ (HR.out.ext (by repeat (first | exact Ext.refl _ | exact Ext.pre (by simp) | exact Ext.alloc (by assumption) _ | refine Ext.alloc ?_ _ |  refine Ext.more ?_ _ _ | refine Ext.drew ?_ | refine Ext.drewN ?_ _))) (by omega) z1 z2).mono ?_
        rintro e w1 ⟨⟨A4, c4, rfl, u1, u2, u3⟩, l4, d4, rfl⟩
        have R4 := hide u3
        clear u3
        go_wp2_with fail
        refine (setl_remove (HS.out.ext (by repeat (first | exact Ext.refl _ | exact Ext.pre (by simp) | exact Ext.alloc (by assumption) _ | refine Ext.alloc ?_ _ |  refine Ext.more ?_ _ _ | refine Ext.drew ?_ | refine Ext.drewN ?_ _))) x Hx.out).mono ?_
        rintro e w5 ⟨rfl, hs5, hg5⟩
        have R5 := hide ((HS.out.ext (by repeat (first | exact Ext.refl _ | exact Ext.pre (by simp) | exact Ext.alloc (by assumption) _ | refine Ext.alloc ?_ _ |  refine Ext.more ?_ _ _ | refine Ext.drew ?_ | refine Ext.drewN ?_ _))).strs hg5 R4.out)
        have X5 : Hid (Ext w w5) := hide ((HX.out.trans (by repeat (first | exact Ext.refl _ | exact Ext.pre (by simp) | exact Ext.alloc (by assumption) _ | refine Ext.alloc ?_ _ |  refine Ext.more ?_ _ _ | refine Ext.drew ?_ | refine Ext.drewN ?_ _))).grown hg5 (fun j hj => by injection hj with hj; omega))
        have S5 := hide hs5
        have hc5 : w5.cell? ⟨wr.heap.size, 1, none⟩ = some (encStr x) := (World.cell?_of_block (a := ⟨wr.heap.size, 1, none⟩) (hg5.block wr.heap.size (by simp; omega) (by intro hh; injection hh with hh; omega))).trans (cell_boxed _ _ _ _ _ _)
        have hA := remL_len M x
        have Hr := hide S5.out.rising
        clear hs5 hg5 R4 HS HR HX
        have Hbb : Hid (∀ b : Bool, (b != b) = false) := hide (by intro b; simp)
        generalize findB M x = fb at *
        generalize remL M x = M2 at *
        have hfb := Hbb.out (fb)
        have hM2 : M2.length ≤ 9223372036854775807 := by omega
        generalize hfx : findB M2 x = fx at *
        have Hfx := hide hfx
        clear hfx
        have HA : Hid (∀ w', Ext w5 w' → Calls Try.prog 64 #[.pointer (some ⟨s, 0, none⟩), encStr x] w' fun e w'' => e = .returned (.bool fx) ∧ w'' = w') := hide (fun w' e => by have := setl_has (S5.out.ext e) x Hx.out; rwa [Hfx.out] at this)
        have HB : Hid (∀ w', Ext w5 w' → Calls Try.prog 56 #[.slice A4 M2.length c4, encStr x] w' fun e w'' => e = .returned (.bool fx) ∧ w'' = w') := hide (fun w' e => by have := ref_hasF A4 c4 M2 x _ (R5.out.ext e) Hr.out hM2; rwa [Hfx.out] at this)
        have HC : Hid (∀ w', Ext w5 w' → Calls Try.prog 65 #[.pointer (some ⟨s, 0, none⟩)] w' fun e w'' => e = .returned (.int .i64 M2.length) ∧ w'' = w') := hide (fun w' e => setl_len (S5.out.ext e))
        have hfx2 := Hbb.out fx
        have hln : ((M2.length : Int) != (M2.length : Int)) = false := by simp
        go_wp2
        go_quiet ((first | (go_at_call 64; exact Calls.quiet_of_same (HA.out _ (by repeat (first | exact Ext.refl _ | exact Ext.pre (by simp) | exact Ext.alloc (by assumption) _ | refine Ext.alloc ?_ _ |  refine Ext.more ?_ _ _ | refine Ext.drew ?_ | refine Ext.drewN ?_ _)))) | (go_at_call 56; exact Calls.quiet_of_same (HB.out _ (by repeat (first | exact Ext.refl _ | exact Ext.pre (by simp) | exact Ext.alloc (by assumption) _ | refine Ext.alloc ?_ _ |  refine Ext.more ?_ _ _ | refine Ext.drew ?_ | refine Ext.drewN ?_ _)))) | (go_at_call 65; exact Calls.quiet_of_same (HC.out _ (by repeat (first | exact Ext.refl _ | exact Ext.pre (by simp) | exact Ext.alloc (by assumption) _ | refine Ext.alloc ?_ _ |  refine Ext.more ?_ _ _ | refine Ext.drew ?_ | refine Ext.drewN ?_ _))))))
        go_wp2
        go_roundw
        case rel => exact ⟨k + 1, M2, A4, c4, hlt, by omega, by go_num, rfl, u1, u2, hide (by obtain ⟨D, hD, e⟩ := S5.out; exact SetL.ext ⟨D, ⟨hD.box, hD.own.mono (by omega), hD.one⟩, e⟩ (by repeat (first | exact Ext.refl _ | exact Ext.pre (by simp) | exact Ext.alloc (by assumption) _ | refine Ext.alloc ?_ _ |  refine Ext.more ?_ _ _ | refine Ext.drew ?_ | refine Ext.drewN ?_ _))), hide (R5.out.ext (by repeat (first | exact Ext.refl _ | exact Ext.pre (by simp) | exact Ext.alloc (by assumption) _ | refine Ext.alloc ?_ _ |  refine Ext.more ?_ _ _ | refine Ext.drew ?_ | refine Ext.drewN ?_ _))), hide (X5.out.trans (by repeat (first | exact Ext.refl _ | exact Ext.pre (by simp) | exact Ext.alloc (by assumption) _ | refine Ext.alloc ?_ _ |  refine Ext.more ?_ _ _ | refine Ext.drew ?_ | refine Ext.drewN ?_ _)))⟩
        case measure => simp [intOf]; omega
    · have hge : (ds.length : Int) ≤ (k : Int) := by omega
      have hnk : n + k ≤ 100000 := by omega
      go_wp2_with fail
      refine (setl_list HS.out hnk).mono ?_
      rintro e w5 ⟨⟨v5, rfl, ho⟩, l5, d5, rfl⟩
      obtain ⟨A5, c5, rfl, hc1, hc2, hs5, _⟩ := Strs.of_own ho
      have Hs5 := hide hs5
      clear ho hs5
      go_wp2_with fail
      refine (ref_texts_yes A5 A' c5 c' M _ Hs5.out (HR.out.ext (by repeat (first | exact Ext.refl _ | exact Ext.pre (by simp) | exact Ext.alloc (by assumption) _ | refine Ext.alloc ?_ _ |  refine Ext.more ?_ _ _ | refine Ext.drew ?_ | refine Ext.drewN ?_ _))) (by omega)).mono ?_
      rintro e w5 ⟨rfl, l6, d6, rfl⟩
      go_wp2_with fail
      refine (awake12_ok _).mono ?_
      rintro e w7 ⟨rfl, l21, d21, rfl⟩
      go_wp2
      go_ret
      exact ⟨rfl, HX.out.trans (by repeat (first | exact Ext.refl _ | exact Ext.pre (by simp) | exact Ext.alloc (by assumption) _ | refine Ext.alloc ?_ _ |  refine Ext.more ?_ _ _ | refine Ext.drew ?_ | refine Ext.drewN ?_ _))⟩

end Go.Proofs.Ytnegamkakdbhfaa
