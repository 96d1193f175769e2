/- Arguments that are structs and slices, opened, with the fuel (for types that bear themselves). -/
import Derived.Test.YtmjiljhcjfnfpaaGreatJS32
import Derived.Lib.SmallJoins
/- Arguments that are structs and slices, opened, with the fuel (for types that bear themselves). -/
namespace Go.Proofs.YtmjiljhcjfnfpaaGreat
open Go.RowKit Go.ChangeShapes Go.WideShapes Go.Deep

section
variable {H : Type} {enc : TypeId × Value → H} {P : Program} {w : World} {base : Nat} {spare : Nat → Bool} {held : Bool}
theorem fields_oneF {t : TypeId} {fs : Array Field} {fuel : Nat} {cs : List Value} {x : DataW H × List MemPlace} (hs : P.underlying t = some (.struct fs)) (hone : oneCellFields P fs = true) (hC : P.cellsOf t = fs.size)
    (h : DataW.trod enc P w base spare held fuel t cs = some x) :
    cs.length = fs.size ∧ ∃ n, fuel = n + 1 ∧ ∀ (j : Nat) (f : Field), fs[j]? = some f → ∃ v y, cs[j]? = some v ∧ DataW.trod enc P w base spare held n f.type [v] = some y := by
  obtain ⟨ys, n, hn, _, hlen, hyl, hf⟩ := DataW.trod_struct hs h
  refine ⟨by rw [hlen, hC], n, hn, fun j f hj => ?_⟩
  obtain ⟨ho, hk⟩ := hone_of hone j f hj
  have hjl : j < fs.size := (Array.getElem?_eq_some_iff.1 hj).1
  have hv : cs[j]? = some (cs[j]'(by omega)) := List.getElem?_eq_getElem (by omega)
  have h1 := hf j f hj
  rw [ho, hk] at h1
  have e1 : (cs.drop j).take 1 = [cs[j]'(by omega)] := by rw [List.drop_eq_getElem_cons (by omega)]; rfl
  rw [e1] at h1
  exact ⟨_, _, hv, h1.trans (List.getElem?_eq_getElem (by omega))⟩
/-- A slice's cells, with the fuel. -/
theorem open_cellsF {α : Type} (C : Coder α) (Q : α → Prop) {t e : TypeId} (ht : P.underlying t = some (.slice e)) (hC : P.cellsOf e = C.k) {fuel : Nat} {v : Value} {x : DataW H × List MemPlace}
    (he : ∀ n, n < fuel → ∀ cs x, DataW.trod enc P w base spare held n e cs = some x → ∃ a, cs = C.f a ∧ Q a)
    (h : DataW.trod enc P w base spare held fuel t [v] = some x) :
    ∃ (A : Option Addr) (c : Nat) (xs : List α), v = .slice A xs.length c ∧ xs.length ≤ c ∧ c ≤ 9223372036854775807 ∧ RowOf C w A xs ∧ ∀ x ∈ xs, Q x := by
  rcases DataW.trod_slice ht h with ⟨hcs, _⟩ | ⟨a, len, cap, elems, rest, n, hn, hcs, -, hb, hl, hm, hlen, hel, -, -⟩
  · simp at hcs
    subst hcs
    exact ⟨none, 0, [], rfl, Nat.le_refl _, by omega, RowOf.nil C _ _, by simp⟩
  · simp at hcs
    subst hcs
    obtain ⟨xs, hxl, hx, hq⟩ := list_all (α := α) (P := fun i x => w.cells? base (a.add (i * C.k)) C.k = some (C.f x)) (Q := Q) len (fun i hi' => by
      have h1 := hel i hi'
      rw [List.getElem?_eq_getElem (by omega)] at h1
      obtain ⟨cs', h2, h3⟩ := Option.bind_eq_some_iff.1 h1
      obtain ⟨y, rfl, hy⟩ := he n (by omega) _ _ h3
      rw [hC] at h2
      exact ⟨y, h2, hy⟩)
    subst hxl
    exact ⟨some a, cap, xs, rfl, hl, by unfold maxLen at hm; omega, Row.of_cells C.pos C.f C.hf xs hx, hq⟩
end

theorem agg_of {P : Program} {W : World} {r : Reach} {b : Nat} {t : TypeId} {v : Value} {fs : Array Field} (ht : P.underlying t = some (.struct fs)) (h : Value.okWide P W r b t v) : ∃ cs, v = .agg cs := by
  unfold Value.okWide at h
  rw [ht] at h
  obtain ⟨cs, h, _⟩ := h
  exact ⟨cs, h⟩

end Go.Proofs.YtmjiljhcjfnfpaaGreat
