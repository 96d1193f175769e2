/- Arguments that are slices of anything told by its cells. No program in sight. -/
import Derived.Test.YtnbnhchgkbbiiaaOpen
import Derived.Test.YtnbnhchgkbbiiaaRow
namespace Go.Proofs.Ytnbnhchgkbbiiaa
open Go.RowKit Go.ChangeShapes Go.WideShapes Go.Deep

theorem list_all {α : Type} {P : Nat → α → Prop} {Q : α → Prop} (n : Nat) (h : ∀ i, i < n → ∃ x, P i x ∧ Q x) : ∃ xs : List α, xs.length = n ∧ (∀ i, i < n → ∃ x, xs[i]? = some x ∧ P i x) ∧ ∀ x ∈ xs, Q x := by
  obtain ⟨xs, hl, hx⟩ := list_of (P := fun i x => P i x ∧ Q x) n h
  refine ⟨xs, hl, fun i hi => ?_, fun x hx' => ?_⟩
  · obtain ⟨x, e, hp, _⟩ := hx i hi; exact ⟨x, e, hp⟩
  · obtain ⟨i, hi, rfl⟩ := List.getElem_of_mem hx'
    obtain ⟨y, e, _, hq⟩ := hx i (by omega)
    rw [List.getElem?_eq_getElem hi] at e
    injection e with e
    rw [e]; exact hq

section
variable {H : Type} {enc : TypeId × Value → H} {P : Program} {w : World} {base : Nat} {spare : Nat → Bool} {held : Bool}
/-- A slice's cells (as they lie in a struct, or are an argument), of things told by their cells and of which Q holds. -/
theorem open_cells {α : Type} (C : Coder α) (Q : α → Prop) {t e : TypeId} (ht : P.underlying t = some (.slice e)) (hC : P.cellsOf e = C.k)
    (he : ∀ n cs x, DataW.trod enc P w base spare held n e cs = some x → ∃ a, cs = C.f a ∧ Q a)
    {fuel : Nat} {a : Option Addr} {n c : Nat} {x : DataW H × List MemPlace} (h : DataW.trod enc P w base spare held fuel t [.slice a n c] = some x) :
    ∃ xs : List α, xs.length = n ∧ n ≤ c ∧ c ≤ 9223372036854775807 ∧ RowOf C w a xs ∧ ∀ x ∈ xs, Q x := by
  rcases open_slice ht h with ⟨hcs, _⟩ | ⟨a', len, cap, m, n', D, Pl, hcs, hb, hl, hm, hmm, _, hi⟩
  · simp at hcs
    obtain ⟨rfl, rfl, rfl⟩ := hcs
    exact ⟨[], rfl, Nat.le_refl _, by omega, RowOf.nil C _ _, by simp⟩
  · simp at hcs
    obtain ⟨rfl, rfl, rfl⟩ := hcs
    obtain ⟨xs, hxl, hx, hq⟩ := list_all (α := α) (P := fun i x => w.cells? base (a'.add (i * C.k)) C.k = some (C.f x)) (Q := Q) n (fun i hi' => by
      have him : i < m := by rw [hmm]; split <;> omega
      obtain ⟨cs', hc, ht'⟩ := hi i him
      rw [hC] at hc
      obtain ⟨y, rfl, hy⟩ := he _ _ _ ht'
      exact ⟨y, hc, hy⟩)
    subst hxl
    exact ⟨xs, rfl, hl, by unfold maxLen at hm; omega, Row.of_cells C.pos C.f C.hf xs hx, hq⟩
theorem open_rows {α : Type} (C : Coder α) (Q : α → Prop) {t e : TypeId} (ht : P.underlying t = some (.slice e)) (hC : P.cellsOf e = C.k)
    (he : ∀ n cs x, DataW.trod enc P w base spare held n e cs = some x → ∃ a, cs = C.f a ∧ Q a)
    {v : Value} {d : DataW H} {p : List MemPlace} (h : DataW.Trod enc P w base spare held t v d p) (hv : ∃ a n c, v = .slice a n c) :
    ∃ (A : Option Addr) (cap : Nat) (xs : List α), v = .slice A xs.length cap ∧ xs.length ≤ cap ∧ cap ≤ 9223372036854775807 ∧ RowOf C w A xs ∧ ∀ x ∈ xs, Q x := by
  obtain ⟨a, n, c, rfl⟩ := hv
  obtain ⟨fuel, hf'⟩ := h
  have hf'' : DataW.trod enc P w base spare held fuel t [.slice a n c] = some (d, p) := by simpa [Value.cells] using hf'
  obtain ⟨xs, rfl, h1, h2, h3, h4⟩ := open_cells C Q ht hC he hf''
  exact ⟨a, c, xs, rfl, h1, h2, h3, h4⟩
theorem str_reads {t : TypeId} (ht : P.underlying t = some .string) (n : Nat) (cs : List Value) (x : DataW H × List MemPlace) (h : DataW.trod enc P w base spare held n t cs = some x) :
    ∃ a : Str, cs = strC.f a ∧ a.length ≤ 9223372036854775807 := by
  obtain ⟨s, e, _, hs⟩ := DataW.trod_string ht h
  refine ⟨s.data.toList, by rw [e]; simp [strC, encStr], ?_⟩
  unfold maxLen at hs
  simpa using hs
theorem int_reads {t : TypeId} {k : IntKind} (ht : P.underlying t = some (.int k)) (n : Nat) (cs : List Value) (x : DataW H × List MemPlace) (h : DataW.trod enc P w base spare held n t cs = some x) :
    ∃ a : Int, cs = [.int k a] ∧ (Lit.int k a).wf = true := by
  obtain ⟨s, e, _, hs⟩ := DataW.trod_int ht h
  exact ⟨s, e, hs⟩
end

end Go.Proofs.Ytnbnhchgkbbiiaa
