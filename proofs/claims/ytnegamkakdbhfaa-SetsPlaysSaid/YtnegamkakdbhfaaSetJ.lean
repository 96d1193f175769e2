/- Chapter 12's laws on two sets and on none, whole; the arguments opened. -/
import Derived.Test.YtnegamkakdbhfaaSetH
import Derived.Test.YtnegamkakdbhfaaOpenR
namespace Go.Proofs.Ytnegamkakdbhfaa
open Go.RowKit Go.Sort Go.Maps Go.ChangeShapes Go.WideShapes Go.Deep

set_option maxRecDepth 10000 in
set_option maxHeartbeats 1000000 in
theorem law_two (A B : Option Addr) (cap cap' : Nat) (l m : List Str) (w : World) (h : Strs w A l) (h' : Strs w B m) (hs : ∀ x ∈ l, x.length ≤ 9223372036854775807) (hs' : ∀ x ∈ m, x.length ≤ 9223372036854775807) :
    Calls Try.prog 12 #[.slice A l.length cap, .slice B m.length cap'] w fun e w' => e = .returned (.bool true) ∧ Ext w w' := by
  by_cases hl : l.length ≤ 200
  · by_cases hm : m.length ≤ 200
    · exact two12_in A B cap cap' l m w h h' hl hm hs hs'
    · have g1 : (l.length : Int) ≤ 200 := by omega
      have g2 : (200 : Int) < (m.length : Int) := by omega
      clear h h' hs hs' hl hm
      go_enter Try.func12, Try.ntmps12
      go_wp2_with fail
      refine (awake12_ok _).mono ?_
      rintro e w7 ⟨rfl, l21, d21, rfl⟩
      go_wp2
      go_ret
      exact ⟨rfl, (by repeat (first | exact Ext.refl _ | exact Ext.pre (by simp) | exact Ext.alloc (by assumption) _ | refine Ext.alloc ?_ _ |  refine Ext.more ?_ _ _ | refine Ext.drew ?_ | refine Ext.drewN ?_ _))⟩
  · have g2 : (200 : Int) < (l.length : Int) := by omega
    clear h h' hs hs' hl
    go_enter Try.func12, Try.ntmps12
    go_wp2_with fail
    refine (awake12_ok _).mono ?_
    rintro e w7 ⟨rfl, l21, d21, rfl⟩
    go_wp2
    go_ret
    exact ⟨rfl, (by repeat (first | exact Ext.refl _ | exact Ext.pre (by simp) | exact Ext.alloc (by assumption) _ | refine Ext.alloc ?_ _ |  refine Ext.more ?_ _ _ | refine Ext.drew ?_ | refine Ext.drewN ?_ _))⟩

set_option maxRecDepth 10000 in
set_option maxHeartbeats 1000000 in
theorem law_laws (A B : Option Addr) (cap cap' : Nat) (l m : List Str) (w : World) (h : Strs w A l) (h' : Strs w B m) (hs : ∀ x ∈ l, x.length ≤ 9223372036854775807) (hs' : ∀ x ∈ m, x.length ≤ 9223372036854775807) :
    Calls Try.prog 13 #[.slice A l.length cap, .slice B m.length cap'] w fun e w' => e = .returned (.bool true) ∧ Ext w w' := by
  by_cases hl : l.length ≤ 200
  · by_cases hm : m.length ≤ 200
    · exact laws12_in A B cap cap' l m w h h' hl hm hs hs'
    · have g1 : (l.length : Int) ≤ 200 := by omega
      have g2 : (200 : Int) < (m.length : Int) := by omega
      clear h h' hs hs' hl hm
      go_enter Try.func13, Try.ntmps13
      go_wp2_with fail
      refine (awake12_ok _).mono ?_
      rintro e w7 ⟨rfl, l21, d21, rfl⟩
      go_wp2
      go_ret
      exact ⟨rfl, (by repeat (first | exact Ext.refl _ | exact Ext.pre (by simp) | exact Ext.alloc (by assumption) _ | refine Ext.alloc ?_ _ |  refine Ext.more ?_ _ _ | refine Ext.drew ?_ | refine Ext.drewN ?_ _))⟩
  · have g2 : (200 : Int) < (l.length : Int) := by omega
    clear h h' hs hs' hl
    go_enter Try.func13, Try.ntmps13
    go_wp2_with fail
    refine (awake12_ok _).mono ?_
    rintro e w7 ⟨rfl, l21, d21, rfl⟩
    go_wp2
    go_ret
    exact ⟨rfl, (by repeat (first | exact Ext.refl _ | exact Ext.pre (by simp) | exact Ext.alloc (by assumption) _ | refine Ext.alloc ?_ _ |  refine Ext.more ?_ _ _ | refine Ext.drew ?_ | refine Ext.drewN ?_ _))⟩

set_option maxRecDepth 10000 in
set_option maxHeartbeats 1000000 in
theorem law_none12 (A : Option Addr) (cap : Nat) (l : List Str) (x : ByteArray) (w : World) (h : Strs w A l) (hs : ∀ x ∈ l, x.length ≤ 9223372036854775807) :
    Calls Try.prog 14 #[.slice A l.length cap, .string x] w fun e w' => e = .returned (.bool true) ∧ Ext w w' := by
  obtain ⟨y, rfl⟩ : ∃ y : Str, x = ⟨y.toArray⟩ := ⟨x.data.toList, by simp⟩
  by_cases hl : l.length ≤ 200
  · exact none12_in A cap l y w h hl hs
  · have g2 : (200 : Int) < (l.length : Int) := by omega
    clear h hs hl
    go_enter Try.func14, Try.ntmps14
    go_wp2_with fail
    refine (awake12_ok _).mono ?_
    rintro e w7 ⟨rfl, l21, d21, rfl⟩
    go_wp2
    go_ret
    exact ⟨rfl, (by repeat (first | exact Ext.refl _ | exact Ext.pre (by simp) | exact Ext.alloc (by assumption) _ | refine Ext.alloc ?_ _ |  refine Ext.more ?_ _ _ | refine Ext.drew ?_ | refine Ext.drewN ?_ _))⟩

section
variable {H : Type} {enc : TypeId × Value → H} {w : World} {base : Nat} {spare : Nat → Bool} {held : Bool}
theorem open_strs_row {v : Value} {d : DataW H} {p : List MemPlace} (h : DataW.Trod enc Try.prog w base spare held 65 v d p) (hv : ∃ a n c, v = .slice a n c) :
    ∃ (A : Option Addr) (cap : Nat) (l : List Str), v = .slice A l.length cap ∧ l.length ≤ cap ∧ cap ≤ 9223372036854775807 ∧ Strs w A l ∧ ∀ x ∈ l, x.length ≤ 9223372036854775807 := by
  obtain ⟨A, cap, l, h1, h2, h3, h4, h5⟩ := open_rows strC (fun x : Str => x.length ≤ 9223372036854775807) Try.underlying65 (by kernel_rfl) (str_reads Try.underlying9) h hv
  exact ⟨A, cap, l, h1, h2, h3, strs_iff.2 h4, h5⟩
end

end Go.Proofs.Ytnegamkakdbhfaa
