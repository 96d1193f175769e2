/- Arguments that are arrays of texts, opened. -/
import Derived.Test.YtnegamkakdbhfaaSupU
import Derived.OpenShut
namespace Go.Proofs.Ytnegamkakdbhfaa
open Go.RowKit Go.ChangeShapes Go.WideShapes Go.Deep

section
variable {H : Type} {enc : TypeId × Value → H} {w : World} {base : Nat} {spare : Nat → Bool} {held : Bool}
set_option maxRecDepth 100000 in
theorem arr_strs {n : Nat} {t : TypeId} (ht : Try.prog.underlying t = some (.array n 9)) (hC : Try.prog.cellsOf t = n) {r : Reach} {b0 : Nat} {v : Value} {d : DataW H} {p : List MemPlace}
    (hv : Value.okWide Try.prog w r b0 t v) (h : DataW.Trod enc Try.prog w base spare held t v d p) : ∃ cs : Array Value, v = .agg cs ∧ cs.size = n ∧ ∀ i, i < n → ∃ s : Str, cs[i]? = some (encStr s) := by
  simp only [Value.okWide, ht] at hv
  obtain ⟨cs, rfl, h2, _⟩ := hv
  rw [hC] at h2
  obtain ⟨fuel, hf⟩ := h
  obtain ⟨xs, m, _, _, _, hxl, hall⟩ := DataW.trod_array ht hf
  refine ⟨cs, rfl, h2, fun i hi => ?_⟩
  have hc1 : Try.prog.cellsOf 9 = 1 := by kernel_rfl
  have h1 := hall i hi
  rw [hc1] at h1
  have hx : xs[i]? = some (xs[i]'(by omega)) := List.getElem?_eq_getElem (by omega)
  rw [hx] at h1
  have hl : i < cs.toList.length := by rw [Array.length_toList]; omega
  have e1 : ((Value.agg cs).cells.toList.drop (i * 1)).take 1 = [cs.toList[i]'hl] := by
    show (cs.toList.drop (i * 1)).take 1 = _
    rw [Nat.mul_one, List.drop_eq_getElem_cons hl]; rfl
  rw [e1] at h1
  obtain ⟨s, e, _⟩ := str_reads Try.underlying9 _ _ _ h1
  simp only [strC, List.cons.injEq, and_true] at e
  refine ⟨s, ?_⟩
  rw [← e]
  simp
set_option maxRecDepth 100000 in
theorem open_arr2 {r : Reach} {b0 : Nat} {v : Value} {d : DataW H} {p : List MemPlace} (h : DataW.Trod enc Try.prog w base spare held 68 v d p) (hv : Value.okWide Try.prog w r b0 68 v) : ∃ a b : Str, v = .agg #[encStr a, encStr b] := by
  obtain ⟨cs, rfl, h2, h3⟩ := arr_strs (n := 2) Try.underlying68 (by kernel_rfl) hv h
  obtain ⟨a, ha⟩ := h3 0 (by omega)
  obtain ⟨b, hb⟩ := h3 1 (by omega)
  refine ⟨a, b, ?_⟩
  congr 1
  apply Array.ext_getElem?
  intro i
  match i with
  | 0 => rw [ha]; rfl
  | 1 => rw [hb]; rfl
  | i + 2 => rw [Array.getElem?_eq_none (by omega), Array.getElem?_eq_none (by simp)]
set_option maxRecDepth 100000 in
theorem open_arr3 {r : Reach} {b0 : Nat} {v : Value} {d : DataW H} {p : List MemPlace} (h : DataW.Trod enc Try.prog w base spare held 81 v d p) (hv : Value.okWide Try.prog w r b0 81 v) : ∃ a b c : Str, v = .agg #[encStr a, encStr b, encStr c] := by
  obtain ⟨cs, rfl, h2, h3⟩ := arr_strs (n := 3) Try.underlying81 (by kernel_rfl) hv h
  obtain ⟨a, ha⟩ := h3 0 (by omega)
  obtain ⟨b, hb⟩ := h3 1 (by omega)
  obtain ⟨c, hc⟩ := h3 2 (by omega)
  refine ⟨a, b, c, ?_⟩
  congr 1
  apply Array.ext_getElem?
  intro i
  match i with
  | 0 => rw [ha]; rfl
  | 1 => rw [hb]; rfl
  | 2 => rw [hc]; rfl
  | i + 3 => rw [Array.getElem?_eq_none (by omega), Array.getElem?_eq_none (by simp)]
end

end Go.Proofs.Ytnegamkakdbhfaa
