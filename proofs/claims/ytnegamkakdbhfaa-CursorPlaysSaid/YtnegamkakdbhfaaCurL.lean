/- Chapter 5's example, and a list that is not too long. -/
import Derived.Test.YtnegamkakdbhfaaCurH
import Derived.WalkSpells
import Derived.WalkLawsBesides
import Derived.Deep.QuietTactic
import Derived.BigQuiet
namespace Go.Proofs.Ytnegamkakdbhfaa
open Go.RowKit

theorem Ext.upd {w a b : World} {c : Nat} {cs : Array Value} (h : Ext w a) (u : Upd a c cs b) (hc : w.heap.size ≤ c) : Ext w b := by
  obtain ⟨l, d, rfl⟩ := u
  refine Ext.more ?_ _ _
  refine Ext.of_below ⟨h.below.os, h.below.tape, h.below.output, by simpa using h.size, fun k hk => ?_⟩ (Nat.le_refl _)
  rw [heap_setBlk _ _ _ _ (by omega)]
  exact h.below.block k hk

set_option maxHeartbeats 400000 in
theorem few_yes (A B : Option Addr) (n k c d : Nat) (w : World) (h1 : n ≤ 100) (h2 : k ≤ 300) :
    Calls Try.prog 15 #[.slice A n c, .slice B k d] w fun e w' => e = .returned (.bool true) ∧ w = w' := by
  have h1' : (n : Int) ≤ 100 := by omega
  have h2' : (k : Int) ≤ 300 := by omega
  go_enter Try.func15, Try.ntmps15
  go_wp2
  go_ret
  exact ⟨by simp, rfl⟩
set_option maxHeartbeats 400000 in
theorem few_no (A B : Option Addr) (n k c d : Nat) (w : World) (h : ¬ (n ≤ 100 ∧ k ≤ 300)) :
    Calls Try.prog 15 #[.slice A n c, .slice B k d] w fun e w' => e = .returned (.bool false) ∧ w = w' := by
  by_cases h1 : n ≤ 100
  · have h1' : (n : Int) ≤ 100 := by omega
    have h2' : (300 : Int) < (k : Int) := by omega
    go_enter Try.func15, Try.ntmps15
    go_wp2
    go_ret
    exact ⟨by simp; omega, rfl⟩
  · have h1' : (100 : Int) < (n : Int) := by omega
    go_enter Try.func15, Try.ntmps15
    go_wp2
    go_ret
    exact ⟨by simp, rfl⟩

def ta : Tok := ⟨1, 2, 0, ⟨#[97]⟩⟩
def tb : Tok := ⟨5, 4, 0, ⟨#[59]⟩⟩
def tc : Tok := ⟨0, 5, 0, ⟨#[]⟩⟩
def semi : ByteArray := ⟨#[59]⟩

/-- What the model does at the example. -/
theorem example_facts : ∃ m : M, m = initM [ta, tb, tc] ∧ m.is semi = false ∧ (m.want semi).is semi = false ∧ ((m.want semi).want semi).doneP = 2 ∧ ((m.want semi).want semi).doneE = 5 ∧
    m.kindB 1 = true ∧ m.kindT 1 = ta ∧ (m.kind 1).ahead semi = false ∧ (m.kind 1).is semi = true ∧ ((m.kind 1).take semi).doneP = 5 ∧ ((m.kind 1).take semi).doneE = 0 ∧
    ((m.kind 1).take semi).enterB = true ∧ ((m.kind 1).take semi).enter.peek.kind = 0 ∧ ((m.kind 1).take semi).enter.peek.pos = 5 ∧ (((m.kind 1).take semi).enter.next).is semi = false := by
  refine ⟨_, rfl, ?_, ?_, ?_, ?_, ?_, ?_, ?_, ?_, ?_, ?_, ?_, ?_, ?_, ?_⟩ <;> first | rfl | decide +kernel

set_option maxRecDepth 10000 in
set_option maxHeartbeats 2000000 in
theorem awake05 (w : World) : Calls Try.prog 16 #[] w fun e w' => e = .returned (.bool true) ∧ Ext w w' := by
  obtain ⟨m, hm, a1, a2, a3, a4, a5, a6, a7, a8, a9, a10, a11, a12, a13, a14⟩ := example_facts
  have hne : ∀ W : World, W.heap[w.heap.size]? = some (.cells (toks [ta, tb, tc]).toArray 29 (0, 0)) → Toks W (some ⟨w.heap.size, 0, none⟩) [ta, tb, tc] := by
    intro W hW
    refine ⟨toks_len _, fun _ => ⟨w.heap.size, 0, rfl, lt_of_blk hW, fun j u hu => ?_⟩⟩
    simp only [World.cell?, hW, Nat.zero_add]
    simpa using hu
  have Hne := hide hne
  have Hm := hide hm
  clear hne hm
  have hn1 : ∀ W : World, W.heap[w.heap.size]? = some (.cells (toks [ta, tb, tc]).toArray 29 (0, 0)) → Calls Try.prog 17 #[.slice (some ⟨w.heap.size, 0, none⟩) 3 3] W fun e w' => (∃ c A' cap', e = .returned (.pointer (some ⟨c, 0, none⟩)) ∧ W.heap.size ≤ c ∧ (∀ g o, A' = some ⟨g, o, none⟩ → W.heap.size ≤ g) ∧ Cur w' c A' cap' m.rest 0 m) ∧ Ext W w' := by
    intro W hW
    have := cur_new (some ⟨w.heap.size, 0, none⟩) 3 [ta, tb, tc] W (Hne.out W hW) (by simp) (by simp) (by omega)
    rw [← Hm.out] at this
    exact this
  have Hn1 := hide hn1
  clear hn1
  have hrl : m.rest.length ≤ 100 := by rw [Hm.out]; decide +kernel
  have a15 : ta.text.toList = [97] := by decide +kernel
  go_enter Try.func16, Try.ntmps16
  go_wp2_with fail
  refine (Hn1.out _ (heap_alloc_at _ _ _ rfl)).mono ?_
  rintro e w1 ⟨⟨c, A, cap, rfl, hc1, hA1, hcur⟩, hx1⟩
  have Hx1 := hide ((Ext.alloc (Ext.refl w) _).trans hx1)
  have hb1 := (hx1.heap (by simp)).trans (heap_alloc_at w _ _ rfl)
  have hlt1 := hcur.lt
  clear hx1
  have Hcur := hide hcur
  clear hcur
  go_wp2_with fail
  refine (Hn1.out _ hb1).mono ?_
  rintro e w2 ⟨⟨c2, A2, cap2, rfl, hc2, hA2, hcur2⟩, hx2⟩
  have hwc : w.heap.size ≤ c := by simp at hc1; omega
  have hwc2 : w.heap.size ≤ c2 := by omega
  have hne2 : c2 ≠ c := by omega
  have hAc : ∀ o, A2 ≠ some ⟨c, o, none⟩ := fun o e => by have := hA2 _ o e; omega
  have HC := hide (Hcur.out.ext hx2)
  have HD := hide hcur2
  have HX := hide (Hx1.out.trans hx2)
  have HAc := hide hAc
  have Hne2 := hide hne2
  clear Hne Hm Hn1 hb1 hc1 hA1 hc2 hA2 hx2 hcur2 hAc hne2 Hcur Hx1 hlt1
  go_wp2_with fail
  refine (cur_want HC.out hrl semi).mono ?_
  rintro e w3 ⟨rfl, k3, d3, u3⟩
  have HC3 := hide (HC.out.upd d3 u3)
  have HD3 := hide (HD.out.far u3 Hne2.out HAc.out)
  have HX3 := hide (HX.out.upd u3 hwc)
  clear HC HD HX d3 u3
  go_wp2_with fail
  refine (cur_want HC3.out hrl semi).mono ?_
  rintro e w4 ⟨rfl, k4, d4, u4⟩
  have HC4 := hide (HC3.out.upd d4 u4)
  have HD4 := hide (HD3.out.far u4 Hne2.out HAc.out)
  have HX4 := hide (HX3.out.upd u4 hwc)
  clear HC3 HD3 HX3 d4 u4
  go_wp2_with fail
  refine (cur_done HC4.out).mono ?_
  rintro e w5 ⟨rfl, x5⟩
  have HD5 := hide (HD4.out.ext x5)
  have HX5 := hide (HX4.out.trans x5)
  clear HC4 HD4 HX4 x5 Hne2 HAc
  go_wp2_with fail
  refine (cur_kind HD5.out hrl 1).mono ?_
  rintro e w6 ⟨rfl, k6, d6, u6⟩
  have HD6 := hide (HD5.out.upd d6 u6)
  have HX6 := hide (HX5.out.upd u6 hwc2)
  clear HD5 HX5 d6 u6
  have hlt6 := HD6.out.lt
  rw [a6]
  go_wp2_with fail
  refine (cur_ahead (HD6.out.ext (by repeat (first | exact Ext.refl _ | exact Ext.alloc (by assumption) _ | refine Ext.alloc ?_ _ | refine Ext.more ?_ _ _ | refine Ext.drew ?_ | refine Ext.drewN ?_ _))) hrl semi).mono ?_
  rintro e w7 ⟨rfl, x7⟩
  have hbox := (x7.heap (n := w6.heap.size) (by simp)).trans (heap_alloc_at w6 _ _ rfl)
  have hlt7 : w6.heap.size < w7.heap.size := lt_of_blk hbox
  have HD7 := hide ((HD6.out.ext ((Ext.refl _).alloc _)).ext x7)
  have HX7 := hide ((HX6.out.alloc _).trans x7)
  have Hbox := hide hbox
  clear HD6 HX6 x7 hbox
  go_wp2_with fail
  refine (cur_take HD7.out hrl semi).mono ?_
  rintro e w8 ⟨rfl, k8, d8, u8⟩
  have HD8 := hide (HD7.out.upd d8 u8)
  have HX8 := hide (HX7.out.upd u8 hwc2)
  have hb8 := (u8.heap hlt7 (by omega)).trans Hbox.out
  have Hb8 := hide hb8
  clear HD7 HX7 d8 u8 hb8 Hbox
  go_wp2_with fail
  refine (cur_done HD8.out).mono ?_
  rintro e w9 ⟨rfl, x9⟩
  have HD9 := hide (HD8.out.ext x9)
  have HX9 := hide (HX8.out.trans x9)
  have hb9 := (x9.heap (lt_of_blk Hb8.out)).trans Hb8.out
  have q9 : w9.cell? ⟨w6.heap.size, 3, none⟩ = some (.string ta.text) := by simp [World.cell?, hb9]
  clear HD8 HX8 x9 Hb8 hb9
  go_wp2_with fail
  refine (cur_enter HD9.out).mono ?_
  rintro e w10 ⟨rfl, k10, d10, u10⟩
  have HD10 := hide (HD9.out.upd d10 u10)
  have HX10 := hide (HX9.out.upd u10 hwc2)
  clear HD9 HX9 d10 u10
  go_wp2_with fail
  refine (cur_peek HD10.out).mono ?_
  rintro e w11 ⟨rfl, x11⟩
  have HD11 := hide (HD10.out.ext x11)
  have HX11 := hide (HX10.out.trans x11)
  clear HD10 HX10 x11
  go_wp2_with fail
  refine (cur_next HD11.out hrl).mono ?_
  rintro e w12 ⟨rfl, k12, d12, u12⟩
  have HD12 := hide (HD11.out.upd d12 u12)
  have HX12 := hide (HX11.out.upd u12 hwc2)
  clear HD11 HX11 d12 u12
  go_wp2_with fail
  refine (cur_is HD12.out semi).mono ?_
  rintro e w13 ⟨rfl, x13⟩
  have HX13 := hide (HX12.out.trans x13)
  clear HD12 HX12 x13
  go_wp2
  go_ret
  exact ⟨rfl, HX13.out⟩

theorem none_failed (w : World) : Calls Try.prog 71 #[.pointer none] w fun e w' => e = .returned (.bool true) ∧ w' = w := by
  go_enter Try.func71, Try.ntmps71
  go_wp2
  go_ret
  exact ⟨rfl, rfl⟩

end Go.Proofs.Ytnegamkakdbhfaa
