/- Arguments of chapter 22's laws, opened. -/
import Derived.Test.YtnegamkakdbhfaaSupN
import Derived.Test.YtnegamkakdbhfaaOpenR
import Derived.Lib.SmallJoins
namespace Go.Proofs.Ytnegamkakdbhfaa
open Go.RowKit Go.ChangeShapes Go.WideShapes Go.Deep

section
variable {H : Type} {enc : TypeId × Value → H} {w : World} {base : Nat} {spare : Nat → Bool} {held : Bool}
theorem strs_of {n : Nat} {a : Option Addr} {m c : Nat} {x : DataW H × List MemPlace} (h : DataW.trod enc Try.prog w base spare held n 65 [.slice a m c] = some x) :
    ∃ l : List Str, l.length = m ∧ m ≤ c ∧ c ≤ 9223372036854775807 ∧ Strs w a l := by
  obtain ⟨l, h1, h2, h3, h4, _⟩ := open_cells strC (fun _ => True) Try.underlying65 (by kernel_rfl) (fun n cs x hx => by obtain ⟨s, e, _⟩ := str_reads Try.underlying9 n cs x hx; exact ⟨s, e, trivial⟩) h
  exact ⟨l, h1, h2, h3, strs_iff.2 h4⟩
theorem slice_shape {t e : TypeId} (ht : Try.prog.underlying t = some (.slice e)) {n : Nat} {v : Value} {x : DataW H × List MemPlace} (h : DataW.trod enc Try.prog w base spare held n t [v] = some x) : ∃ a m c, v = .slice a m c := by
  rcases open_slice ht h with ⟨hcs, _⟩ | ⟨a', len, cap, m, n', D, Pl, hcs, _⟩
  · simp at hcs; exact ⟨none, 0, 0, hcs⟩
  · simp at hcs; exact ⟨some a', len, cap, hcs⟩
theorem cls_reads (n : Nat) (cs : List Value) (x : DataW H × List MemPlace) (h : DataW.trod enc Try.prog w base spare held n 79 cs = some x) :
    ∃ c : Cls, cs = clsC.f c ∧ (Strs w c.A c.sup ∧ c.sup.length ≤ c.cap ∧ c.cap ≤ 9223372036854775807) := by
  obtain ⟨hl, m, hf⟩ := fields_one Try.underlying79 (by kernel_rfl) (by kernel_rfl) h
  obtain ⟨v0, y0, e0, r0⟩ := hf 0 _ rfl
  obtain ⟨v1, y1, e1, r1⟩ := hf 1 _ rfl
  obtain ⟨v2, y2, e2, r2⟩ := hf 2 _ rfl
  obtain ⟨s, q0, _⟩ := str_reads Try.underlying9 _ _ _ r0
  obtain ⟨a, k, c, rfl⟩ := slice_shape Try.underlying65 r1
  obtain ⟨l, rfl, h2, h3, h4⟩ := strs_of r1
  simp only [strC, List.cons.injEq, and_true] at q0
  subst q0
  refine ⟨⟨s, a, c, l, v2⟩, ?_, h4, h2, h3⟩
  match cs, hl with
  | [a1, b1, c1], _ =>
    simp only [List.getElem?_cons_zero, List.getElem?_cons_succ, Option.some.injEq] at e0 e1 e2
    subst e0 e1 e2
    rfl
theorem open_classes {v : Value} {d : DataW H} {p : List MemPlace} (h : DataW.Trod enc Try.prog w base spare held 60 v d p) (hv : ∃ a n c, v = .slice a n c) :
    ∃ (A : Option Addr) (cap : Nat) (l : List Cls), v = .slice A l.length cap ∧ l.length ≤ cap ∧ cap ≤ 9223372036854775807 ∧ Classes w A l := by
  obtain ⟨A, cap, l, h1, h2, h3, h4, h5⟩ := open_rows clsC (fun c : Cls => Strs w c.A c.sup ∧ c.sup.length ≤ c.cap ∧ c.cap ≤ 9223372036854775807) Try.underlying60 (by kernel_rfl) cls_reads h hv
  exact ⟨A, cap, l, h1, h2, h3, h4, fun c hc => (h5 c hc).1, fun c hc => (h5 c hc).2⟩
theorem open_strs_rowB {v : Value} {d : DataW H} {p : List MemPlace} (h : DataW.Trod enc Try.prog w base spare held 65 v d p) (hv : ∃ a n c, v = .slice a n c) :
    ∃ (A : Option Addr) (cap : Nat) (l : List Str), v = .slice A l.length cap ∧ l.length ≤ cap ∧ cap ≤ 9223372036854775807 ∧ Strs w A l := by
  obtain ⟨A, cap, l, h1, h2, h3, h4, _⟩ := open_rows strC (fun _ : Str => True) Try.underlying65 (by kernel_rfl) (fun n cs x hx => by obtain ⟨s, e, _⟩ := str_reads Try.underlying9 n cs x hx; exact ⟨s, e, trivial⟩) h hv
  exact ⟨A, cap, l, h1, h2, h3, strs_iff.2 h4⟩
end

end Go.Proofs.Ytnegamkakdbhfaa
