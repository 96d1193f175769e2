/- Maps from names to names: what they say; look-ups; a range's step. -/
import Derived.Test.YtjacjpeeinnkcaaGreatJB33
import Derived.Maps.RangeWalk
import Derived.Maps.Ext
import Derived.Maps.StringElems
import Derived.Sort.KeysCollected
/- Maps from names to names: what they say; look-ups; a range's step. -/
namespace Go.Proofs.YtjacjpeeinnkcaaGreat
open Go.RowKit Go.Sort Go.Maps

def litS : SD → Str
  | .lit (.string s) => s
  | _ => []
def strD (x : Str) : SD := .lit (.string x)
/-- What a name becomes. -/
def lookD (D : SD) (x : Str) : Option Str := if has D (.string x) then some (litS (D.atKey (.string x) (strD []))) else none
theorem lookD_empty (x : Str) : lookD (.map []) x = none := rfl
theorem lookD_put (D : SD) (h : IsMap D) (k x y : Str) : lookD (D.put (.string k) (strD x)) y = if y = k then some x else lookD D y := by
  unfold lookD
  by_cases e : y = k
  · subst e
    rw [has_put_same (k := .string y) h trivial, atKey_put_same (k := .string y) h trivial, if_pos rfl, if_pos rfl]
    rfl
  · rw [has_put_other (by intro h; injection h with h; exact e h), atKey_put_other (by intro h; injection h with h; exact e h), if_neg e]
theorem elem_str {x : Str} (hx : x.length ≤ 9223372036854775807) : plainElem (H := Unit) Tryz.prog 9 (encStr x) = some (strD x, []) := by
  have := plainElem_string (H := Unit) (P := Tryz.prog) (e := 9) Tryz.underlying9 (s := ⟨x.toArray⟩) (by simp [maxLen, ByteArray.size]; omega)
  exact this
theorem zero_str (w : World) : (zeroValue 9).run Tryz.prog w = .ok (.string ⟨#[]⟩) w := by kernel_rfl
/-- A map in memory. -/
def MapS (w : World) (b n : Nat) (f : Str → Option Str) : Prop := ∃ D : SD, w.ownsMap Tryz.prog 9 (plainElem Tryz.prog 9) b n D ∧ ∀ s, lookD D s = f s
section
variable {w w' : World} {b n : Nat} {f : Str → Option Str}
theorem MapS.lt (h : MapS w b n f) : b < w.heap.size := by obtain ⟨D, h, -⟩ := h; exact h.lt
theorem MapS.grown (h : MapS w b n f) {row : Option Nat} (g : w.grownBy w' row) (h1 : row ≠ some b) : MapS w' b n f := by
  obtain ⟨D, h, k⟩ := h
  exact ⟨D, h.kept g (fun e => h1 e.symm), k⟩
theorem MapS.ext (h : MapS w b n f) (e : Ext w w') : MapS w' b n f :=
  h.grown (row := none) ⟨e.below.os, e.below.tape, e.below.output, e.size, fun k hk _ => e.heap hk⟩ (by simp)
theorem MapS.new (w : World) : MapS (w.alloc (.map #[] 0)) w.heap.size 0 (fun _ => none) := ⟨.map [], World.ownsMap_made _ _ _ _, lookD_empty⟩
theorem MapS.look (h : MapS w b n f) {x : Str} (hx : x.length ≤ 9223372036854775807) :
    ∃ s : Str, (Instr.lookup 108 (.map (some b)) (encStr x) true).run Tryz.prog w = .ok (.tuple #[encStr s, .bool (f x).isSome]) w ∧ (∀ y, f x = some y → s = y) ∧ s.length ≤ 9223372036854775807 := by
  obtain ⟨D, h, k⟩ := h
  obtain ⟨v, ps, hrun, hv⟩ := h.look_ok key_law Tryz.underlying108 (zero_str w) (zd := strD []) (zp := []) (elem_str (x := []) (by decide)) (key_of hx)
  obtain ⟨s, rfl, hz, hsl⟩ := plainElem_string_inv Tryz.underlying9 hv
  have hat : D.atKey (.string x) (strD []) = .lit (.string s.data.toList) := congrArg Prod.fst hz
  have hf : f x = if has D (.string x) then some s.data.toList else none := by
    rw [← k x]
    unfold lookD
    rw [hat]
    rfl
  refine ⟨s.data.toList, ?_, fun y hy => ?_, by rw [Array.length_toList]; exact hsl⟩
  · rw [hrun, hf]
    cases has D (.string x) <;> rfl
  · rw [hf] at hy
    cases hh : has D (.string x)
    · rw [hh] at hy; cases hy
    · rw [hh] at hy; injection hy
end
theorem look_none (w : World) {x : Str} (hx : x.length ≤ 9223372036854775807) :
    (Instr.lookup 108 (.map none) (encStr x) true).run Tryz.prog w = .ok (.tuple #[encStr [], .bool false]) w := by
  have := Maps.look_nil (P := Tryz.prog) (w := w) true key_law Tryz.underlying108 (zero_str w) (key_of hx)
  exact this
/-- A map's value: none, or a map in memory. -/
def NmAt (w : World) (v : Value) (n : Nat) (f : Str → Option Str) : Prop := (v = .map none ∧ ∀ s, f s = none) ∨ ∃ b, v = .map (some b) ∧ MapS w b n f
theorem NmAt.ext {w w' : World} {v : Value} {n : Nat} {f : Str → Option Str} (h : NmAt w v n f) (e : Ext w w') : NmAt w' v n f := by
  rcases h with h | ⟨b, h1, h2⟩
  · exact .inl h
  · exact .inr ⟨b, h1, h2.ext e⟩

theorem encStr_inj {x y : Str} (h : encStr x = encStr y) : x = y := by
  unfold encStr at h
  injection h with h
  injection h with h
  have := congrArg Array.toList h
  simpa using this

/-- The range's step, names and names. -/
theorem wpList_next_ranges_ss {P : Program} (w : World) {ops : Array Oper} {rest : List Oper} {o : Oper} {a : Act} {Q : Exit → Act → World → Prop}
    (hg : o.guard = none) (it : Operand) (hop : o.op = Op.next it false) (k e : TypeId) (K : Keyed P k) (hk : P.underlying k = some .string) (he : P.underlying e = some .string)
    (b r n : Nat) (D : SD) (left : Lit → Bool) (cnt : Nat) (hit : a.eval it = .pointer (some ⟨r, 0, none⟩)) (h : w.ranges P k (plainElem P e) b r n D left cnt)
    (hDone : cnt = 0 → (∀ kl, left kl = false) → wpList P ops Q rest (a.put o.dst (.tuple #[.bool false])) w)
    (hMore : ∀ (x c : Str) (w' : World) (cnt' : Nat), x.length ≤ 9223372036854775807 → c.length ≤ 9223372036854775807 → left (.string x) = true → (∀ zd, D.atKey (.string x) zd = strD c) → w'.ranges P k (plainElem P e) b r n D (fun z => left z && !z.sameKey (.string x)) cnt' → cnt' < cnt →
      w.grownBy w' (some r) → w'.heap.size = w.heap.size → (Instr.entry (.pointer (some ⟨r, 0, none⟩))).run P w' = .ok (.tuple #[encStr x, encStr c]) w' → wpList P ops Q rest (a.put o.dst (.tuple #[.bool true, encStr x, encStr c])) w') :
    wpList P ops Q (o :: rest) a w :=
  wpList_next_ranges w hg it hop k K (plainElem P e) encStr encStr (fun key kl hkey => by obtain ⟨x, hx, -⟩ := Maps.keyOf_str hk hkey; exact ⟨x, hx⟩)
    (fun v y hv => by obtain ⟨c, rfl, _⟩ := plainElem_string_inv he hv; exact ⟨c.data.toList, rfl⟩)
    b r n D left cnt hit h hDone (fun x c kl y w' cnt' hkey hlk hv hat hrg hlt hgr hsz hen => by
      obtain ⟨x', ex, rfl, hwx⟩ := Maps.keyOf_str hk hkey
      have ex : x = x' := encStr_inj ex
      subst ex
      obtain ⟨c', ec, rfl, hwc⟩ := plainElem_string_inv he hv
      have ec : c = c'.data.toList := by
        have := ec
        unfold encStr at this
        injection this with this
        rw [← this]
      have hl : c.length ≤ 9223372036854775807 := by
        rw [ec]
        have h2 := hwc
        unfold maxLen at h2
        rw [Array.length_toList]
        exact h2
      exact hMore x c w' cnt' (by have := hwx; unfold maxLen at this; omega) hl hlk (fun zd => by rw [hat zd, ec]; rfl) hrg hlt hgr hsz hen)

end Go.Proofs.YtjacjpeeinnkcaaGreat
