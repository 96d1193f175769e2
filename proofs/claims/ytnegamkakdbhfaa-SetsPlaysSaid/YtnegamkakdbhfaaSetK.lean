/- Chapter 12's law on anything done to a set, whole; the arguments opened. -/
import Derived.Test.YtnegamkakdbhfaaSetI
import Derived.Test.YtnegamkakdbhfaaSetJ
namespace Go.Proofs.Ytnegamkakdbhfaa
open Go.RowKit Go.Sort Go.Maps Go.ChangeShapes Go.WideShapes Go.Deep

set_option maxRecDepth 10000 in
set_option maxHeartbeats 1000000 in
theorem law_plays12 (A B : Option Addr) (cap cap' : Nat) (l : List Str) (m : List Deed12) (w : World) (h : Strs w A l) (h' : Deeds12 w B m) (hs : ∀ x ∈ l, x.length ≤ 9223372036854775807) (hs' : ∀ x ∈ m, x.text.length ≤ 9223372036854775807) :
    Calls Try.prog 11 #[.slice A l.length cap, .slice B m.length cap'] w fun e w' => e = .returned (.bool true) ∧ Ext w w' := by
  by_cases hl : l.length ≤ 200
  · by_cases hm : m.length ≤ 200
    · exact plays12_in A B cap cap' l m w h h' hl hm hs hs'
    · have g1 : (l.length : Int) ≤ 200 := by omega
      have g2 : (200 : Int) < (m.length : Int) := by omega
      clear h h' hs hs' hl hm
      go_enter Try.func11, Try.ntmps11
      go_wp2_with fail
      refine (awake12_ok _).mono ?_
      rintro e w7 ⟨rfl, l21, d21, rfl⟩
      go_wp2
      go_ret
      exact ⟨rfl, (by repeat (first | exact Ext.refl _ | exact Ext.pre (by simp) | exact Ext.alloc (by assumption) _ | refine Ext.alloc ?_ _ |  refine Ext.more ?_ _ _ | refine Ext.drew ?_ | refine Ext.drewN ?_ _))⟩
  · have g2 : (200 : Int) < (l.length : Int) := by omega
    clear h h' hs hs' hl
    go_enter Try.func11, Try.ntmps11
    go_wp2_with fail
    refine (awake12_ok _).mono ?_
    rintro e w7 ⟨rfl, l21, d21, rfl⟩
    go_wp2
    go_ret
    exact ⟨rfl, (by repeat (first | exact Ext.refl _ | exact Ext.pre (by simp) | exact Ext.alloc (by assumption) _ | refine Ext.alloc ?_ _ |  refine Ext.more ?_ _ _ | refine Ext.drew ?_ | refine Ext.drewN ?_ _))⟩

section
variable {H : Type} {enc : TypeId × Value → H} {w : World} {base : Nat} {spare : Nat → Bool} {held : Bool}
def deedC12 : Coder Deed12 := ⟨2, Deed12.cells, fun _ => rfl, by omega⟩
theorem deed12_reads (n : Nat) (cs : List Value) (x : DataW H × List MemPlace) (h : DataW.trod enc Try.prog w base spare held n 88 cs = some x) : ∃ t : Deed12, cs = deedC12.f t ∧ t.text.length ≤ 9223372036854775807 := by
  obtain ⟨hl, m, hf⟩ := fields_one Try.underlying88 (by kernel_rfl) (by kernel_rfl) h
  obtain ⟨v0, y0, e0, r0⟩ := hf 0 _ rfl
  obtain ⟨v1, y1, e1, r1⟩ := hf 1 _ rfl
  obtain ⟨k, q0, _⟩ := int_reads Try.underlying3 _ _ _ r0
  obtain ⟨s, q1, b1⟩ := str_reads Try.underlying9 _ _ _ r1
  simp only [strC, List.cons.injEq, and_true] at q0 q1
  subst q0 q1
  refine ⟨⟨k, s⟩, ?_, b1⟩
  match cs, hl with
  | [a, b], _ =>
    simp only [List.getElem?_cons_zero, List.getElem?_cons_succ, Option.some.injEq] at e0 e1
    subst e0 e1
    rfl
theorem open_deeds12 {v : Value} {d : DataW H} {p : List MemPlace} (h : DataW.Trod enc Try.prog w base spare held 83 v d p) (hv : ∃ a n c, v = .slice a n c) :
    ∃ (A : Option Addr) (cap : Nat) (l : List Deed12), v = .slice A l.length cap ∧ l.length ≤ cap ∧ cap ≤ 9223372036854775807 ∧ Deeds12 w A l ∧ ∀ x ∈ l, x.text.length ≤ 9223372036854775807 :=
  open_rows deedC12 (fun x : Deed12 => x.text.length ≤ 9223372036854775807) Try.underlying83 (by kernel_rfl) deed12_reads h hv
end

end Go.Proofs.Ytnegamkakdbhfaa
