/- Rows of anything that is told by its cells. No program in sight. -/
import Derived.Test.YtnbnhchgkbbiiaaStr
namespace Go.Proofs.Ytnbnhchgkbbiiaa
open Go.RowKit

/-- How things lie in memory: `k` cells each. -/
structure Coder (α : Type) where
  k : Nat
  f : α → List Value
  hf : ∀ x, (f x).length = k
  pos : 0 < k

section
variable {α : Type} (C : Coder α) {w w' : World} {A : Option Addr} {l : List α}
def RowOf (w : World) (A : Option Addr) (l : List α) : Prop := Row w A C.k l.length (l.flatMap C.f)
theorem RowOf.ext (h : RowOf C w A l) (k : Ext w w') : RowOf C w' A l := Row.ext h k
theorem RowOf.nil (w : World) (A : Option Addr) : RowOf C w A [] := Row.nil A _
theorem RowOf.at_ (h : RowOf C w A l) {i : Nat} (hi : i < l.length) :
    ∃ b o, A = some ⟨b, o, none⟩ ∧ b < w.heap.size ∧ ∀ j, j < C.k → w.cell? ⟨b, o + i * C.k + j, none⟩ = (C.f (l[i]'hi))[j]? := by
  obtain ⟨b, o, e, hb, hc⟩ := h.2 (by omega)
  refine ⟨b, o, e, hb, fun j hj => ?_⟩
  have g : (l.flatMap C.f)[i * C.k + j]? = (C.f (l[i]'hi))[j]? := by
    rw [flat_get _ C.k C.hf l i j hj, List.getElem?_eq_getElem hi]; rfl
  have hl : j < (C.f (l[i]'hi)).length := by rw [C.hf]; exact hj
  rw [List.getElem?_eq_getElem hl] at g ⊢
  have := hc _ _ g
  rwa [← Nat.add_assoc] at this
theorem RowOf.cut (h : RowOf C w A l) {k cap : Nat} (hk : k ≤ l.length) (hc : l.length ≤ cap) : RowOf C w (if cap = k then A else A.map (·.add (k * C.k))) (l.drop k) := by
  have := Row.cut h hk hc
  unfold RowOf
  rw [List.length_drop, ← flat_drop _ _ C.hf]
  exact this
theorem RowOf.take (h : RowOf C w A l) {k : Nat} (hk : k ≤ l.length) : RowOf C w A (l.take k) := by
  refine ⟨flat_len _ _ C.hf _, fun hn => ?_⟩
  obtain ⟨b, o, e, hb, hc⟩ := h.2 (by simp at hn; omega)
  refine ⟨b, o, e, hb, fun j u hu => hc j u ?_⟩
  have e1 : l.flatMap C.f = (l.take k).flatMap C.f ++ (l.drop k).flatMap C.f := by rw [← List.flatMap_append, List.take_append_drop]
  rw [e1, List.getElem?_append_left (List.getElem?_eq_some_iff.1 hu).1]
  exact hu
theorem RowOf.own {base : Nat} {e : TypeId} {v : Value} (h : w.ownsRow base e C.k v l.length (l.flatMap C.f)) :
    ∃ A cap, v = .slice A l.length cap ∧ l.length ≤ cap ∧ cap ≤ 9223372036854775807 ∧ RowOf C w A l ∧ ∀ c o, A = some ⟨c, o, none⟩ → base ≤ c ∧ c < w.heap.size := by
  rcases h.2 with ⟨rfl, h0⟩ | ⟨g, cap, cur, rfl, hb, hg, hle, hmax, hsz, htk⟩
  · have : l = [] := List.eq_nil_of_length_eq_zero h0
    subst this
    exact ⟨none, 0, rfl, Nat.le_refl _, by omega, RowOf.nil C _ _, fun _ _ h => by cases h⟩
  · have hlt : g < w.heap.size := (Array.getElem?_eq_some_iff.1 hg).1
    refine ⟨some ⟨g, 0, none⟩, cap, rfl, hle, by unfold maxLen at hmax; omega, ⟨flat_len _ _ C.hf _, fun _ => ⟨g, 0, rfl, hlt, fun j u hu => ?_⟩⟩, fun c o h => ?_⟩
    · have := h.cells rfl j u hu
      by_cases h0 : j = 0
      · subst h0; simpa [Addr.add] using this
      · simpa [Addr.add, h0] using this
    · injection h with h; injection h with h; omega
theorem RowOf.block {b : Nat} {t : TypeId} {fr : Nat × Nat} (l : List α) (h : w.heap[b]? = some (.cells (l.flatMap C.f).toArray t fr)) : RowOf C w (some ⟨b, 0, none⟩) l := by
  refine ⟨flat_len _ _ C.hf _, fun _ => ⟨b, 0, rfl, lt_of_obj h, fun j u hu => ?_⟩⟩
  rw [Nat.zero_add]
  simp only [World.cell?, h]
  simpa using hu
theorem flat_one (f : α → Value) (l : List α) : l.flatMap (fun x => [f x]) = l.map f := by
  induction l with
  | nil => rfl
  | cons x l ih => simp [ih]
end

def strC : Coder Str := ⟨1, fun x => [encStr x], fun _ => rfl, by omega⟩
def intC : Coder Int := ⟨1, fun x => [.int .i64 x], fun _ => rfl, by omega⟩
abbrev Ints (w : World) (A : Option Addr) (l : List Int) : Prop := RowOf intC w A l
theorem strs_iff {w : World} {A : Option Addr} {l : List Str} : Strs w A l ↔ RowOf strC w A l := by
  unfold Strs RowOf
  show _ ↔ Row w A 1 l.length (l.flatMap fun x => [encStr x])
  rw [flat_one]
theorem Ints.at_ {w : World} {A : Option Addr} {l : List Int} (h : Ints w A l) {i : Nat} (hi : i < l.length) :
    ∃ b o, A = some ⟨b, o, none⟩ ∧ b < w.heap.size ∧ w.cell? ⟨b, o + i, none⟩ = some (.int .i64 (l[i]'hi)) := by
  obtain ⟨b, o, e, hb, hc⟩ := RowOf.at_ intC h hi
  refine ⟨b, o, e, hb, ?_⟩
  have := hc 0 (by decide)
  simpa [intC] using this
theorem Ints.own {w : World} {base : Nat} {e : TypeId} {v : Value} {l : List Int} (h : w.ownsRow base e 1 v l.length (l.map (Value.int .i64))) :
    ∃ A cap, v = .slice A l.length cap ∧ l.length ≤ cap ∧ cap ≤ 9223372036854775807 ∧ Ints w A l ∧ ∀ c o, A = some ⟨c, o, none⟩ → base ≤ c ∧ c < w.heap.size := by
  refine RowOf.own intC (e := e) ?_
  show w.ownsRow base e 1 v l.length (l.flatMap fun x => [.int .i64 x])
  rw [flat_one]
  exact h
theorem Ints.row {w : World} {A : Option Addr} {l : List Int} (h : Ints w A l) : Row w A 1 l.length (l.map (Value.int .i64)) := by
  have := h
  unfold Ints RowOf at this
  rwa [show l.flatMap intC.f = l.map (Value.int .i64) from flat_one _ l] at this
theorem one_ints (l : List Int) : ∀ u ∈ l.map (Value.int .i64), u.oneCell' = true := by
  intro u hu
  obtain ⟨x, _, rfl⟩ := List.mem_map.1 hu
  rfl

end Go.Proofs.Ytnbnhchgkbbiiaa
