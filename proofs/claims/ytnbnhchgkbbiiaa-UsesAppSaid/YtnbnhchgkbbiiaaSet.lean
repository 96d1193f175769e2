/- The program's sets, against finite maps. -/
import Derived.Test.YtnbnhchgkbbiiaaStrP
import Derived.Test.YtnbnhchgkbbiiaaIter
import Derived.Maps.Own
import Derived.Maps.OwnOps
import Derived.Maps.OwnSet
import Derived.Maps.Views
namespace Go.Proofs.Ytnbnhchgkbbiiaa
open Go.RowKit Go.Sort Go.Maps

abbrev SD := DataW Unit
def kx (x : Str) : Lit := .string x
def mem (D : SD) (x : Str) : Bool := has D (.string x)
def zeroD : SD := .lit (.int .i64 0)
def oneD : SD := .lit (.int .i64 1)

theorem key_law : Keyed Try.prog 9 := string_keyed Try.underlying9
theorem zero_elem (w : World) : (zeroValue 3).run Try.prog w = .ok (.int .i64 0) w := by kernel_rfl
theorem key_of {x : Str} (hx : x.length ≤ 9223372036854775807) : keyOf Try.prog 9 (encStr x) = some (.string x) := by
  have := WideMaps.keyOf_string_mk (P := Try.prog) (k := 9) Try.underlying9 (s := ⟨x.toArray⟩) (by simp [maxLen, ByteArray.size]; omega)
  simpa using this

/-- A set in memory: the struct's block, the map's block. -/
structure SetAt (w : World) (s r n : Nat) (D : SD) : Prop where
  box : w.heap[s]? = some (.cells #[.map (some r)] 101 (0, 0))
  own : w.ownsMap Try.prog 9 (plainElem Try.prog 3) r n D
  one : ∀ x : Str, D.atKey (.string x) zeroD = if mem D x then oneD else zeroD

section
variable {w w' : World} {s r n : Nat} {D : SD}
theorem SetAt.lts (h : SetAt w s r n D) : s < w.heap.size := lt_of_obj h.box
theorem SetAt.ltr (h : SetAt w s r n D) : r < w.heap.size := h.own.lt
theorem SetAt.ne (h : SetAt w s r n D) : s ≠ r := by
  rintro rfl
  obtain ⟨es, clock, hb, _⟩ := h.own
  rw [h.box] at hb
  cases hb
theorem SetAt.tidy (h : SetAt w s r n D) : Tidy D := h.own.tidy key_law
theorem SetAt.grown (h : SetAt w s r n D) {row : Option Nat} (g : w.grownBy w' row) (h1 : row ≠ some s) (h2 : row ≠ some r) : SetAt w' s r n D :=
  ⟨(g.block s h.lts (fun e => h1 e.symm)).trans h.box, h.own.kept g (fun e => h2 e.symm), h.one⟩
theorem SetAt.ext (h : SetAt w s r n D) (e : Ext w w') : SetAt w' s r n D :=
  h.grown (row := none) ⟨e.below.os, e.below.tape, e.below.output, e.size, fun k hk _ => e.heap hk⟩ (by simp) (by simp)
theorem SetAt.cell (h : SetAt w s r n D) : w.cell? ⟨s, 0, none⟩ = some (.map (some r)) := by simp [World.cell?, h.box]
theorem SetAt.look (h : SetAt w s r n D) {x : Str} (hx : x.length ≤ 9223372036854775807) :
    (Instr.lookup 99 (.map (some r)) (encStr x) false).run Try.prog w = .ok (.int .i64 (if mem D x then 1 else 0)) w := by
  obtain ⟨c, hrun, hat, _⟩ := h.own.lookup_int key_law Try.underlying99 Try.underlying3 (zero_elem w) (key_of hx)
  have h1 := h.one x
  have e0 : zeroD = (.lit (.int .i64 0) : SD) := rfl
  rw [e0, hat] at h1
  have hc : c = if mem D x then 1 else 0 := by
    cases hm : mem D x
    · simp only [hm, Bool.false_eq_true, ↓reduceIte, DataW.lit.injEq, Lit.int.injEq, true_and] at h1 ⊢
      exact h1
    · simp only [hm, ↓reduceIte, oneD, DataW.lit.injEq, Lit.int.injEq, true_and] at h1 ⊢
      exact h1
  rw [hrun, hc]
end

theorem mem_put (D : SD) (h : IsMap D) (x y : Str) : mem (D.put (.string x) oneD) y = (mem D y || y == x) := by
  unfold mem
  by_cases e : y = x
  · subst e
    rw [has_put_same (k := .string y) h trivial]; simp
  · rw [has_put_other (by intro h; injection h with h; exact e h)]
    simp [e]

/-- What holds of a set's map. -/
def Ones (D : SD) : Prop := ∀ x : Str, D.atKey (.string x) zeroD = if mem D x then oneD else zeroD
theorem Ones.put {D : SD} (h : Ones D) (hD : IsMap D) (x : Str) : Ones (D.put (.string x) oneD) := by
  intro y
  rw [mem_put D hD]
  by_cases e : y = x
  · subst e
    rw [atKey_put_same (k := .string y) hD trivial]; simp
  · rw [atKey_put_other (by intro h; injection h with h; exact e h), h y]
    simp [e]
theorem ones_empty : Ones (.map []) := by intro x; rfl
theorem mem_del (D : SD) (x y : Str) : mem (D.del (.string x)) y = (mem D y && !(y == x)) := by
  unfold mem
  by_cases e : y = x
  · subst e
    rw [has_del_same]; simp
  · rw [has_del_other (by intro h; injection h with h; exact e h)]
    simp [e]
theorem Ones.del {D : SD} (h : Ones D) (x : Str) : Ones (D.del (.string x)) := by
  intro y
  rw [mem_del]
  by_cases e : y = x
  · subst e
    rw [atKey_del_same]; simp
  · rw [atKey_del_other (by intro h; injection h with h; exact e h), h y]
    simp [e]

set_option maxHeartbeats 1000000 in
theorem set_has {w : World} {s r n : Nat} {D : SD} (h : SetAt w s r n D) (x : Str) (hx : x.length ≤ 9223372036854775807) :
    Calls Try.prog 64 #[.pointer (some ⟨s, 0, none⟩), encStr x] w fun e w' => e = .returned (.bool (mem D x)) ∧ w' = w := by
  have hl := h.look hx
  have hc := h.cell
  clear h
  cases hm : mem D x
  all_goals
    simp only [hm, Bool.false_eq_true, ↓reduceIte] at hl
    go_enter Try.func64, Try.ntmps64
    go_wp2
    go_ret
    exact ⟨rfl, rfl⟩
theorem none_has (x : Str) (w : World) : Calls Try.prog 64 #[.pointer none, encStr x] w fun e w' => e = .returned (.bool false) ∧ w' = w := by
  go_enter Try.func64, Try.ntmps64
  go_wp2
  go_ret
  exact ⟨rfl, rfl⟩

set_option maxHeartbeats 1000000 in
theorem set_add {w : World} {s r n : Nat} {D : SD} (h : SetAt w s r n D) (x : Str) (hx : x.length ≤ 9223372036854775807) (hn : n < 100000) :
    Calls Try.prog 50 #[.pointer (some ⟨s, 0, none⟩), encStr x] w fun e w' => e = .returned (.bool (!mem D x)) ∧ SetAt w' s r (n + 1) (if mem D x then D else D.put (.string x) oneD) ∧ w.grownBy w' (some r) := by
  have hH := hide (set_has h x hx)
  have hc := h.cell
  cases hm : mem D x
  · have Hh := hide h
    clear h
    rw [hm] at hH
    go_enter Try.func50, Try.ntmps50
    go_wp2_with fail
    refine hH.out.mono ?_
    rintro e w1 ⟨rfl, rfl⟩
    go_wp2_with (at_mapUpdate; refine wpList_mapUpdate_own _ rfl _ _ _ 99 rfl 9 3 key_law Try.underlying99 _ r n D rfl Hh.out.own (by unfold maxLen; omega) _ _ _ rfl rfl (key_of hx) oneD [] (plainElem_int Try.underlying3 (by decide)) ?_; intro w2 hown2 hgrow2)
    go_ret
    refine ⟨rfl, ⟨(hgrow2.block s Hh.out.lts (fun e => by injection e with e; exact Hh.out.ne e)).trans Hh.out.box, hown2, ?_⟩, hgrow2⟩
    exact Ones.put Hh.out.one Hh.out.tidy.isMap x
  · have Hh := hide h
    clear h
    rw [hm] at hH
    go_enter Try.func50, Try.ntmps50
    go_wp2_with fail
    refine hH.out.mono ?_
    rintro e w1 ⟨rfl, rfl⟩
    go_wp2
    go_ret
    exact ⟨rfl, ⟨Hh.out.box, Hh.out.own.mono (by omega), Hh.out.one⟩, World.grownBy.refl _ _⟩
theorem none_add (x : Str) (w : World) : Calls Try.prog 50 #[.pointer none, encStr x] w fun e w' => e = .returned (.bool false) ∧ w' = w := by
  go_enter Try.func50, Try.ntmps50
  go_wp2
  go_ret
  exact ⟨rfl, rfl⟩

end Go.Proofs.Ytnbnhchgkbbiiaa
