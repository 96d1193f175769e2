/- Contract: how two groups compare, by their least vertices. -/
import Derived.Test.YtnbnhchgkbbiiaaGrpA
namespace Go.Proofs.Ytnbnhchgkbbiiaa
open Go.RowKit

set_option maxRecDepth 10000 in
set_option maxHeartbeats 1000000 in
theorem g_cmp (x y : Nat) (wb vb cL : Nat) (AL : Option Addr) (L : List Int) (w : World) (hv : w.cell? ⟨vb, 0, none⟩ = some (.pointer (some ⟨wb, 0, none⟩))) (hl : w.cell? ⟨wb, 3003, none⟩ = some (.slice AL L.length cL))
    (hr : Ints w AL L) (hx : x < L.length) (hy : y < L.length) (hb : ∀ z ∈ L, 0 ≤ z ∧ z < 1000) :
    Calls Try.prog 41 #[.int .i64 x, .int .i64 y, .pointer (some ⟨vb, 0, none⟩)] w fun e w' => e = .returned (.int .i64 (L[x]'hx - L[y]'hy)) ∧ ∃ q, w' = w.drewN q := by
  obtain ⟨b1, o1, rfl, hb1, q1⟩ := Ints.at_ hr hx
  obtain ⟨b2, o2, e2, hb2, q2⟩ := Ints.at_ hr hy
  injection e2 with e2
  injection e2 with e3 e4
  rw [← e3, ← e4] at q2
  clear e3 e4
  have h1 := hb _ (List.getElem_mem hx)
  have h2 := hb _ (List.getElem_mem hy)
  clear hr hb
  generalize L[x]'hx = a at *
  generalize L[y]'hy = c at *
  have hx' : (x : Int) < (L.length : Int) := by omega
  have hy' : (y : Int) < (L.length : Int) := by omega
  have hx0 : (0 : Int) ≤ (x : Int) := by omega
  have hy0 : (0 : Int) ≤ (y : Int) := by omega
  obtain ⟨h3, h4⟩ := h1
  obtain ⟨h5, h6⟩ := h2
  have hw : wrap64 (a - c) = a - c := by unfold wrap64; omega
  have hw2 : IntKind.i64.wrap (a - c) = a - c := IntWalk.i64_in _ (by omega)
  go_enter Try.func41, Try.ntmps41
  go_wp2
  go_quiet (fail)
  go_wp2
  go_ret
  exact ⟨rfl, _, rfl⟩

end Go.Proofs.Ytnbnhchgkbbiiaa
