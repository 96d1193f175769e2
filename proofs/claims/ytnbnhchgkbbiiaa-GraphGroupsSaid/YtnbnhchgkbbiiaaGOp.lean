/- Arguments of chapter 13's laws, opened. -/
import Derived.Test.YtnbnhchgkbbiiaaGrA
import Derived.Test.YtnbnhchgkbbiiaaOpenR
import Derived.Lib.SmallJoins
namespace Go.Proofs.Ytnbnhchgkbbiiaa
open Go.RowKit Go.ChangeShapes Go.WideShapes Go.Deep

section
variable {H : Type} {enc : TypeId × Value → H} {w : World} {base : Nat} {spare : Nat → Bool} {held : Bool}
theorem edge_reads (n : Nat) (cs : List Value) (x : DataW H × List MemPlace) (h : DataW.trod enc Try.prog w base spare held n 45 cs = some x) :
    ∃ e : Edge, cs = edgeC.f e ∧ True := by
  obtain ⟨hl, m, hf⟩ := fields_one Try.underlying45 (by kernel_rfl) (by kernel_rfl) h
  obtain ⟨v0, y0, e0, r0⟩ := hf 0 _ rfl
  obtain ⟨v1, y1, e1, r1⟩ := hf 1 _ rfl
  obtain ⟨a, q0, _⟩ := int_reads Try.underlying3 _ _ _ r0
  obtain ⟨b, q1, _⟩ := int_reads Try.underlying3 _ _ _ r1
  simp only [List.cons.injEq, and_true] at q0 q1
  subst q0 q1
  refine ⟨⟨a, b⟩, ?_, trivial⟩
  match cs, hl with
  | [a1, b1], _ =>
    simp only [List.getElem?_cons_zero, List.getElem?_cons_succ, Option.some.injEq] at e0 e1
    subst e0 e1
    rfl
theorem open_edges {v : Value} {d : DataW H} {p : List MemPlace} (h : DataW.Trod enc Try.prog w base spare held 22 v d p) (hv : ∃ a n c, v = .slice a n c) :
    ∃ (A : Option Addr) (cap : Nat) (l : List Edge), v = .slice A l.length cap ∧ l.length ≤ cap ∧ cap ≤ 9223372036854775807 ∧ Edges w A l := by
  obtain ⟨A, cap, l, h1, h2, h3, h4, _⟩ := open_rows edgeC (fun _ : Edge => True) Try.underlying22 (by kernel_rfl) edge_reads h hv
  exact ⟨A, cap, l, h1, h2, h3, h4⟩
end

end Go.Proofs.Ytnbnhchgkbbiiaa
