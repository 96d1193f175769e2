/- Words and deeds that came in, read off their data. -/
import Derived.Test.YtnegamkakdbhfaaProg
import Derived.Test.YtnegamkakdbhfaaOpen
import Derived.Test.YtnegamkakdbhfaaDeed
namespace Go.Proofs.Ytnegamkakdbhfaa
open Go.RowKit Go.ChangeShapes Go.WideShapes Go.Deep

section
variable {H : Type} {enc : TypeId × Value → H} {w : World} {base : Nat} {spare : Nat → Bool} {held : Bool}
theorem tok_reads (n : Nat) (cs : List Value) (x : DataW H × List MemPlace) (h : DataW.trod enc Try.prog w base spare held n 29 cs = some x) : ∃ t : Tok, cs = t.cells := by
  obtain ⟨hl, m, hf⟩ := fields_one Try.underlying29 (by kernel_rfl) (by kernel_rfl) h
  obtain ⟨v0, y0, e0, r0⟩ := hf 0 _ rfl
  obtain ⟨v1, y1, e1, r1⟩ := hf 1 _ rfl
  obtain ⟨v2, y2, e2, r2⟩ := hf 2 _ rfl
  obtain ⟨v3, y3, e3, r3⟩ := hf 3 _ rfl
  obtain ⟨k, q0, _, _⟩ := DataW.trod_int Try.underlying3 r0
  obtain ⟨p, q1, _, _⟩ := DataW.trod_int Try.underlying3 r1
  obtain ⟨c, q2, _, _⟩ := DataW.trod_int Try.underlying3 r2
  obtain ⟨s, q3, _, _⟩ := DataW.trod_string Try.underlying9 r3
  simp only [List.cons.injEq, and_true] at q0 q1 q2 q3
  subst q0 q1 q2 q3
  refine ⟨⟨k, p, c, s⟩, ?_⟩
  match cs, hl with
  | [a, b, c', d], _ =>
    simp only [List.getElem?_cons_zero, List.getElem?_cons_succ, Option.some.injEq] at e0 e1 e2 e3
    subst e0 e1 e2 e3
    rfl
theorem deed_reads (n : Nat) (cs : List Value) (x : DataW H × List MemPlace) (h : DataW.trod enc Try.prog w base spare held n 34 cs = some x) : ∃ t : Deed, cs = t.cells := by
  obtain ⟨hl, m, hf⟩ := fields_one Try.underlying34 (by kernel_rfl) (by kernel_rfl) h
  obtain ⟨v0, y0, e0, r0⟩ := hf 0 _ rfl
  obtain ⟨v1, y1, e1, r1⟩ := hf 1 _ rfl
  obtain ⟨v2, y2, e2, r2⟩ := hf 2 _ rfl
  obtain ⟨k, q0, _, _⟩ := DataW.trod_int Try.underlying3 r0
  obtain ⟨p, q1, _, _⟩ := DataW.trod_int Try.underlying3 r1
  obtain ⟨s, q2, _, _⟩ := DataW.trod_string Try.underlying9 r2
  simp only [List.cons.injEq, and_true] at q0 q1 q2
  subst q0 q1 q2
  refine ⟨⟨k, p, s⟩, ?_⟩
  match cs, hl with
  | [a, b, c'], _ =>
    simp only [List.getElem?_cons_zero, List.getElem?_cons_succ, Option.some.injEq] at e0 e1 e2
    subst e0 e1 e2
    rfl
theorem open_toks {v : Value} {d : DataW H} {p : List MemPlace} (h : DataW.Trod enc Try.prog w base spare held 22 v d p) (hv : ∃ a n c, v = .slice a n c) :
    ∃ (A : Option Addr) (cap : Nat) (l : List Tok), v = .slice A l.length cap ∧ l.length ≤ cap ∧ cap ≤ 9223372036854775807 ∧ Toks w A l :=
  open_things Tok.cells (by omega) (fun _ => rfl) Try.underlying22 (by kernel_rfl) tok_reads h hv
theorem open_deeds {v : Value} {d : DataW H} {p : List MemPlace} (h : DataW.Trod enc Try.prog w base spare held 23 v d p) (hv : ∃ a n c, v = .slice a n c) :
    ∃ (A : Option Addr) (cap : Nat) (l : List Deed), v = .slice A l.length cap ∧ l.length ≤ cap ∧ cap ≤ 9223372036854775807 ∧ Deeds w A l :=
  open_things Deed.cells (by omega) (fun _ => rfl) Try.underlying23 (by kernel_rfl) deed_reads h hv
end

end Go.Proofs.Ytnegamkakdbhfaa
