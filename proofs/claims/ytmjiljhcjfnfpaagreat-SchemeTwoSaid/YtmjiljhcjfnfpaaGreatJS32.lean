/- Arguments that are slices, read as rows of cells. No program in sight. -/
import Derived.Test.YtmjiljhcjfnfpaaGreatJS31
import Derived.ProofKit
import Derived.Deep.Slices
import Derived.Deep.Fields
import Derived.ChangeSame
/- Arguments that are slices, read as rows of cells. No program in sight. -/
namespace Go.Proofs.YtmjiljhcjfnfpaaGreat
open Go.RowKit Go.ChangeShapes Go.WideShapes Go.Deep

theorem list_of {α : Type} {P : Nat → α → Prop} : ∀ n, (∀ i, i < n → ∃ x, P i x) → ∃ xs : List α, xs.length = n ∧ ∀ i, i < n → ∃ x, xs[i]? = some x ∧ P i x
  | 0, _ => ⟨[], rfl, fun i hi => absurd hi (by omega)⟩
  | n + 1, h => by
    obtain ⟨xs, hl, hx⟩ := list_of n (fun i hi => h i (by omega))
    obtain ⟨x, hp⟩ := h n (by omega)
    refine ⟨xs ++ [x], by simp [hl], fun i hi => ?_⟩
    by_cases hin : i < n
    · obtain ⟨y, hy, hq⟩ := hx i hin
      exact ⟨y, by rw [List.getElem?_append_left (by omega)]; exact hy, hq⟩
    · have : i = n := by omega
      subst this
      exact ⟨x, by rw [List.getElem?_append_right (by omega)]; simp [hl], hp⟩

theorem Addr_add_add (a : Addr) (i j : Nat) : (a.add i).add j = a.add (i + j) := by
  unfold Addr.add
  by_cases hi : i = 0 <;> by_cases hj : j = 0 <;> simp [hi, hj, Nat.add_assoc]

/-- Elements of `C` cells each, read one by one, are a row. -/
theorem Row.of_cells {α : Type} {w : World} {a : Addr} {C base : Nat} (hC : 0 < C) (f : α → List Value) (hf : ∀ x, (f x).length = C) (xs : List α)
    (h : ∀ i, i < xs.length → ∃ x, xs[i]? = some x ∧ w.cells? base (a.add (i * C)) C = some (f x)) : Row w (some a) C xs.length (xs.flatMap f) := by
  refine ⟨flat_len f C hf xs, fun hn => ?_⟩
  have key : ∀ i j, i < xs.length → j < C → ∃ u, (xs.flatMap f)[i * C + j]? = some u ∧ w.cell? (a.add (i * C + j)) = some u := by
    intro i j hi hj
    obtain ⟨x, hx, hc⟩ := h i hi
    obtain ⟨_, hl, hat⟩ := World.cells?_some hc
    have h1 := hat j hj
    rw [Addr_add_add] at h1
    have h2 : (f x)[j]? = some ((f x)[j]'(by rw [hf]; exact hj)) := List.getElem?_eq_getElem _
    refine ⟨_, ?_, h1.trans h2⟩
    rw [flat_get f C hf xs i j hj, hx]
    exact h2
  have hspot : a.spot = none := by
    obtain ⟨u, _, hu⟩ := key 0 0 hn hC
    have : w.cell? a = some u := by simpa [Addr.add] using hu
    exact World.cell?_spot this
  obtain ⟨b, o, sp⟩ := a
  simp only at hspot
  subst hspot
  refine ⟨b, o, rfl, ?_, fun q u hu => ?_⟩
  · obtain ⟨u, _, hu⟩ := key 0 0 hn hC
    exact World.block_lt_of_cell? w ⟨b, o, none⟩ (by simpa [Addr.add] using hu)
  · have hq : q < xs.length * C := by
      have := (List.getElem?_eq_some_iff.1 hu).1
      rwa [flat_len f C hf xs] at this
    have hi : q / C < xs.length := Nat.div_lt_of_lt_mul (by rw [Nat.mul_comm]; exact hq)
    have hj : q % C < C := Nat.mod_lt _ hC
    obtain ⟨u', h1, h2⟩ := key (q / C) (q % C) hi hj
    have e : q / C * C + q % C = q := by rw [Nat.mul_comm]; exact Nat.div_add_mod q C
    rw [e] at h1 h2
    rw [h1] at hu
    injection hu with hu
    subst hu
    by_cases hq0 : q = 0
    · subst hq0; simpa [Addr.add] using h2
    · simpa [Addr.add, hq0] using h2

section
variable {H : Type} {enc : TypeId × Value → H} {P : Program} {w : World} {base : Nat} {spare : Nat → Bool} {held : Bool}
/-- A struct's cells, each with its own reading, where each field is one cell. -/
theorem fields_one {t : TypeId} {fs : Array Field} {fuel : Nat} {cs : List Value} {x : DataW H × List MemPlace} (hs : P.underlying t = some (.struct fs)) (hone : oneCellFields P fs = true) (hC : P.cellsOf t = fs.size)
    (h : DataW.trod enc P w base spare held fuel t cs = some x) :
    cs.length = fs.size ∧ ∃ n, ∀ (j : Nat) (f : Field), fs[j]? = some f → ∃ v y, cs[j]? = some v ∧ DataW.trod enc P w base spare held n f.type [v] = some y := by
  obtain ⟨ys, n, _, _, hlen, hyl, hf⟩ := DataW.trod_struct hs h
  refine ⟨by rw [hlen, hC], n, fun j f hj => ?_⟩
  obtain ⟨ho, hk⟩ := hone_of hone j f hj
  have hjl : j < fs.size := (Array.getElem?_eq_some_iff.1 hj).1
  have hv : cs[j]? = some (cs[j]'(by omega)) := List.getElem?_eq_getElem (by omega)
  have h1 := hf j f hj
  rw [ho, hk] at h1
  have e1 : (cs.drop j).take 1 = [cs[j]'(by omega)] := by rw [List.drop_eq_getElem_cons (by omega)]; rfl
  rw [e1] at h1
  exact ⟨_, _, hv, h1.trans (List.getElem?_eq_getElem (by omega))⟩

/-- A slice that came in, of things that are told by their cells. -/
theorem open_things {α : Type} (f : α → List Value) {C : Nat} (hC0 : 0 < C) (hf : ∀ x, (f x).length = C) {t e : TypeId} (ht : P.underlying t = some (.slice e)) (hC : P.cellsOf e = C)
    (he : ∀ n cs x, DataW.trod enc P w base spare held n e cs = some x → ∃ a, cs = f a)
    {v : Value} {d : DataW H} {p : List MemPlace} (h : DataW.Trod enc P w base spare held t v d p) (hv : ∃ a n c, v = .slice a n c) :
    ∃ (A : Option Addr) (cap : Nat) (xs : List α), v = .slice A xs.length cap ∧ xs.length ≤ cap ∧ cap ≤ 9223372036854775807 ∧ Row w A C xs.length (xs.flatMap f) := by
  obtain ⟨a, n, c, rfl⟩ := hv
  obtain ⟨fuel, hf'⟩ := h
  rcases open_slice ht hf' with ⟨hcs, _⟩ | ⟨a', len, cap, m, n', D, Pl, hcs, hb, hl, hm, hmm, _, hi⟩
  · simp [Value.cells] at hcs
    obtain ⟨rfl, rfl, rfl⟩ := hcs
    exact ⟨none, 0, [], rfl, Nat.le_refl _, by omega, Row.nil _ _⟩
  · simp [Value.cells] at hcs
    obtain ⟨rfl, rfl, rfl⟩ := hcs
    obtain ⟨xs, hxl, hx⟩ := list_of (α := α) (P := fun i x => w.cells? base (a'.add (i * C)) C = some (f x)) n (fun i hi' => by
      have him : i < m := by rw [hmm]; split <;> omega
      obtain ⟨cs', hc, ht'⟩ := hi i him
      rw [hC] at hc
      obtain ⟨y, rfl⟩ := he _ _ _ ht'
      exact ⟨y, hc⟩)
    subst hxl
    exact ⟨some a', c, xs, rfl, hl, by unfold maxLen at hm; omega, Row.of_cells hC0 f hf xs hx⟩
end

end Go.Proofs.YtmjiljhcjfnfpaaGreat

/- Arguments that are slices of anything told by its cells. No program in sight. -/
namespace Go.Proofs.YtmjiljhcjfnfpaaGreat
open Go.RowKit Go.ChangeShapes Go.WideShapes Go.Deep

theorem list_all {α : Type} {P : Nat → α → Prop} {Q : α → Prop} (n : Nat) (h : ∀ i, i < n → ∃ x, P i x ∧ Q x) : ∃ xs : List α, xs.length = n ∧ (∀ i, i < n → ∃ x, xs[i]? = some x ∧ P i x) ∧ ∀ x ∈ xs, Q x := by
  obtain ⟨xs, hl, hx⟩ := list_of (P := fun i x => P i x ∧ Q x) n h
  refine ⟨xs, hl, fun i hi => ?_, fun x hx' => ?_⟩
  · obtain ⟨x, e, hp, _⟩ := hx i hi; exact ⟨x, e, hp⟩
  · obtain ⟨i, hi, rfl⟩ := List.getElem_of_mem hx'
    obtain ⟨y, e, _, hq⟩ := hx i (by omega)
    rw [List.getElem?_eq_getElem hi] at e
    injection e with e
    rw [e]; exact hq

section
variable {H : Type} {enc : TypeId × Value → H} {P : Program} {w : World} {base : Nat} {spare : Nat → Bool} {held : Bool}
/-- A slice's cells (as they lie in a struct, or are an argument), of things told by their cells and of which Q holds. -/
theorem open_cells {α : Type} (C : Coder α) (Q : α → Prop) {t e : TypeId} (ht : P.underlying t = some (.slice e)) (hC : P.cellsOf e = C.k)
    (he : ∀ n cs x, DataW.trod enc P w base spare held n e cs = some x → ∃ a, cs = C.f a ∧ Q a)
    {fuel : Nat} {a : Option Addr} {n c : Nat} {x : DataW H × List MemPlace} (h : DataW.trod enc P w base spare held fuel t [.slice a n c] = some x) :
    ∃ xs : List α, xs.length = n ∧ n ≤ c ∧ c ≤ 9223372036854775807 ∧ RowOf C w a xs ∧ ∀ x ∈ xs, Q x := by
  rcases open_slice ht h with ⟨hcs, _⟩ | ⟨a', len, cap, m, n', D, Pl, hcs, hb, hl, hm, hmm, _, hi⟩
  · simp at hcs
    obtain ⟨rfl, rfl, rfl⟩ := hcs
    exact ⟨[], rfl, Nat.le_refl _, by omega, RowOf.nil C _ _, by simp⟩
  · simp at hcs
    obtain ⟨rfl, rfl, rfl⟩ := hcs
    obtain ⟨xs, hxl, hx, hq⟩ := list_all (α := α) (P := fun i x => w.cells? base (a'.add (i * C.k)) C.k = some (C.f x)) (Q := Q) n (fun i hi' => by
      have him : i < m := by rw [hmm]; split <;> omega
      obtain ⟨cs', hc, ht'⟩ := hi i him
      rw [hC] at hc
      obtain ⟨y, rfl, hy⟩ := he _ _ _ ht'
      exact ⟨y, hc, hy⟩)
    subst hxl
    exact ⟨xs, rfl, hl, by unfold maxLen at hm; omega, Row.of_cells C.pos C.f C.hf xs hx, hq⟩
theorem open_rows {α : Type} (C : Coder α) (Q : α → Prop) {t e : TypeId} (ht : P.underlying t = some (.slice e)) (hC : P.cellsOf e = C.k)
    (he : ∀ n cs x, DataW.trod enc P w base spare held n e cs = some x → ∃ a, cs = C.f a ∧ Q a)
    {v : Value} {d : DataW H} {p : List MemPlace} (h : DataW.Trod enc P w base spare held t v d p) (hv : ∃ a n c, v = .slice a n c) :
    ∃ (A : Option Addr) (cap : Nat) (xs : List α), v = .slice A xs.length cap ∧ xs.length ≤ cap ∧ cap ≤ 9223372036854775807 ∧ RowOf C w A xs ∧ ∀ x ∈ xs, Q x := by
  obtain ⟨a, n, c, rfl⟩ := hv
  obtain ⟨fuel, hf'⟩ := h
  have hf'' : DataW.trod enc P w base spare held fuel t [.slice a n c] = some (d, p) := by simpa [Value.cells] using hf'
  obtain ⟨xs, rfl, h1, h2, h3, h4⟩ := open_cells C Q ht hC he hf''
  exact ⟨a, c, xs, rfl, h1, h2, h3, h4⟩
theorem str_reads {t : TypeId} (ht : P.underlying t = some .string) (n : Nat) (cs : List Value) (x : DataW H × List MemPlace) (h : DataW.trod enc P w base spare held n t cs = some x) :
    ∃ a : Str, cs = strC.f a ∧ a.length ≤ 9223372036854775807 := by
  obtain ⟨s, e, _, hs⟩ := DataW.trod_string ht h
  refine ⟨s.data.toList, by rw [e]; simp [strC, encStr], ?_⟩
  unfold maxLen at hs
  simpa using hs
theorem int_reads {t : TypeId} {k : IntKind} (ht : P.underlying t = some (.int k)) (n : Nat) (cs : List Value) (x : DataW H × List MemPlace) (h : DataW.trod enc P w base spare held n t cs = some x) :
    ∃ a : Int, cs = [.int k a] ∧ (Lit.int k a).wf = true := by
  obtain ⟨s, e, _, hs⟩ := DataW.trod_int ht h
  exact ⟨s, e, hs⟩
end

end Go.Proofs.YtmjiljhcjfnfpaaGreat
