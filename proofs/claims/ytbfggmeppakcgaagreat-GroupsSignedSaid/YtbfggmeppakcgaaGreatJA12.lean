/- The program's sets, against finite maps. -/
import Derived.Test.YtbfggmeppakcgaaGreatJA11
import Derived.Test.YtbfggmeppakcgaaGreatIter
import Derived.Maps.Own
import Derived.Maps.OwnOps
import Derived.Maps.OwnSet
import Derived.Maps.Views
import Derived.WalkSpells
import Derived.WalkLawsBesides
/- The program's sets, against finite maps. -/
namespace Go.Proofs.YtbfggmeppakcgaaGreat
open Go.RowKit Go.Sort Go.Maps

abbrev SD := DataW Unit
def kx (x : Str) : Lit := .string x
def mem (D : SD) (x : Str) : Bool := has D (.string x)
def zeroD : SD := .lit (.int .i64 0)
def oneD : SD := .lit (.int .i64 1)

theorem key_law : Keyed Tryz.prog 9 := string_keyed Tryz.underlying9
theorem zero_elem (w : World) : (zeroValue 3).run Tryz.prog w = .ok (.int .i64 0) w := by kernel_rfl
theorem key_of {x : Str} (hx : x.length ≤ 9223372036854775807) : keyOf Tryz.prog 9 (encStr x) = some (.string x) := by
  have := WideMaps.keyOf_string_mk (P := Tryz.prog) (k := 9) Tryz.underlying9 (s := ⟨x.toArray⟩) (by simp [maxLen, ByteArray.size]; omega)
  simpa using this

/-- A set in memory: the struct's block, the map's block. -/
structure SetAt (w : World) (s r n : Nat) (D : SD) : Prop where
  box : w.heap[s]? = some (.cells #[.map (some r)] 54 (0, 0))
  own : w.ownsMap Tryz.prog 9 (plainElem Tryz.prog 3) r n D
  one : ∀ x : Str, D.atKey (.string x) zeroD = if mem D x then oneD else zeroD

section
variable {w w' : World} {s r n : Nat} {D : SD}
theorem SetAt.lts (h : SetAt w s r n D) : s < w.heap.size := lt_of_obj h.box
theorem SetAt.ltr (h : SetAt w s r n D) : r < w.heap.size := h.own.lt
theorem SetAt.ne (h : SetAt w s r n D) : s ≠ r := by
  rintro rfl
  obtain ⟨es, clock, hb, _⟩ := h.own
  rw [h.box] at hb
  cases hb
theorem SetAt.tidy (h : SetAt w s r n D) : Tidy D := h.own.tidy key_law
theorem SetAt.grown (h : SetAt w s r n D) {row : Option Nat} (g : w.grownBy w' row) (h1 : row ≠ some s) (h2 : row ≠ some r) : SetAt w' s r n D :=
  ⟨(g.block s h.lts (fun e => h1 e.symm)).trans h.box, h.own.kept g (fun e => h2 e.symm), h.one⟩
theorem SetAt.ext (h : SetAt w s r n D) (e : Ext w w') : SetAt w' s r n D :=
  h.grown (row := none) ⟨e.below.os, e.below.tape, e.below.output, e.size, fun k hk _ => e.heap hk⟩ (by simp) (by simp)
theorem SetAt.cell (h : SetAt w s r n D) : w.cell? ⟨s, 0, none⟩ = some (.map (some r)) := by simp [World.cell?, h.box]
theorem SetAt.look (h : SetAt w s r n D) {x : Str} (hx : x.length ≤ 9223372036854775807) :
    (Instr.lookup 39 (.map (some r)) (encStr x) false).run Tryz.prog w = .ok (.int .i64 (if mem D x then 1 else 0)) w := by
  obtain ⟨c, hrun, hat, _⟩ := h.own.lookup_int key_law Tryz.underlying39 Tryz.underlying3 (zero_elem w) (key_of hx)
  have h1 := h.one x
  have e0 : zeroD = (.lit (.int .i64 0) : SD) := rfl
  rw [e0, hat] at h1
  have hc : c = if mem D x then 1 else 0 := by
    cases hm : mem D x
    · simp only [hm, Bool.false_eq_true, ↓reduceIte, DataW.lit.injEq, Lit.int.injEq, true_and] at h1 ⊢
      exact h1
    · simp only [hm, ↓reduceIte, oneD, DataW.lit.injEq, Lit.int.injEq, true_and] at h1 ⊢
      exact h1
  rw [hrun, hc]
end

theorem mem_put (D : SD) (h : IsMap D) (x y : Str) : mem (D.put (.string x) oneD) y = (mem D y || y == x) := by
  unfold mem
  by_cases e : y = x
  · subst e
    rw [has_put_same (k := .string y) h trivial]; simp
  · rw [has_put_other (by intro h; injection h with h; exact e h)]
    simp [e]

/-- What holds of a set's map. -/
def Ones (D : SD) : Prop := ∀ x : Str, D.atKey (.string x) zeroD = if mem D x then oneD else zeroD
theorem Ones.put {D : SD} (h : Ones D) (hD : IsMap D) (x : Str) : Ones (D.put (.string x) oneD) := by
  intro y
  rw [mem_put D hD]
  by_cases e : y = x
  · subst e
    rw [atKey_put_same (k := .string y) hD trivial]; simp
  · rw [atKey_put_other (by intro h; injection h with h; exact e h), h y]
    simp [e]
theorem ones_empty : Ones (.map []) := by intro x; rfl
theorem mem_del (D : SD) (x y : Str) : mem (D.del (.string x)) y = (mem D y && !(y == x)) := by
  unfold mem
  by_cases e : y = x
  · subst e
    rw [has_del_same]; simp
  · rw [has_del_other (by intro h; injection h with h; exact e h)]
    simp [e]
theorem Ones.del {D : SD} (h : Ones D) (x : Str) : Ones (D.del (.string x)) := by
  intro y
  rw [mem_del]
  by_cases e : y = x
  · subst e
    rw [atKey_del_same]; simp
  · rw [atKey_del_other (by intro h; injection h with h; exact e h), h y]
    simp [e]

set_option maxHeartbeats 1000000 in
theorem set_has {w : World} {s r n : Nat} {D : SD} (h : SetAt w s r n D) (x : Str) (hx : x.length ≤ 9223372036854775807) :
    Calls Tryz.prog 16 #[.pointer (some ⟨s, 0, none⟩), encStr x] w fun e w' => e = .returned (.bool (mem D x)) ∧ w' = w := by
  have hl := h.look hx
  have hc := h.cell
  clear h
  cases hm : mem D x
  all_goals
    simp only [hm, Bool.false_eq_true, ↓reduceIte] at hl
    go_enter Tryz.func16, Tryz.ntmps16
    go_wp2
    go_ret
    exact ⟨rfl, rfl⟩
theorem none_has (x : Str) (w : World) : Calls Tryz.prog 16 #[.pointer none, encStr x] w fun e w' => e = .returned (.bool false) ∧ w' = w := by
  go_enter Tryz.func16, Tryz.ntmps16
  go_wp2
  go_ret
  exact ⟨rfl, rfl⟩

set_option maxHeartbeats 1000000 in
theorem set_add {w : World} {s r n : Nat} {D : SD} (h : SetAt w s r n D) (x : Str) (hx : x.length ≤ 9223372036854775807) (hn : n < 100000) :
    Calls Tryz.prog 30 #[.pointer (some ⟨s, 0, none⟩), encStr x] w fun e w' => e = .returned (.bool (!mem D x)) ∧ SetAt w' s r (n + 1) (if mem D x then D else D.put (.string x) oneD) ∧ w.grownBy w' (some r) := by
  have hH := hide (set_has h x hx)
  have hc := h.cell
  cases hm : mem D x
  · have Hh := hide h
    clear h
    rw [hm] at hH
    go_enter Tryz.func30, Tryz.ntmps30
    go_wp2_with fail
    refine hH.out.mono ?_
    rintro e w1 ⟨rfl, rfl⟩
    go_wp2_with (at_mapUpdate; refine wpList_mapUpdate_own _ rfl _ _ _ 39 rfl 9 3 key_law Tryz.underlying39 _ r n D rfl Hh.out.own (by unfold maxLen; omega) _ _ _ rfl rfl (key_of hx) oneD [] (plainElem_int Tryz.underlying3 (by decide)) ?_; intro w2 hown2 hgrow2)
    go_ret
    refine ⟨rfl, ⟨(hgrow2.block s Hh.out.lts (fun e => by injection e with e; exact Hh.out.ne e)).trans Hh.out.box, hown2, ?_⟩, hgrow2⟩
    exact Ones.put Hh.out.one Hh.out.tidy.isMap x
  · have Hh := hide h
    clear h
    rw [hm] at hH
    go_enter Tryz.func30, Tryz.ntmps30
    go_wp2_with fail
    refine hH.out.mono ?_
    rintro e w1 ⟨rfl, rfl⟩
    go_wp2
    go_ret
    exact ⟨rfl, ⟨Hh.out.box, Hh.out.own.mono (by omega), Hh.out.one⟩, World.grownBy.refl _ _⟩
theorem none_add (x : Str) (w : World) : Calls Tryz.prog 30 #[.pointer none, encStr x] w fun e w' => e = .returned (.bool false) ∧ w' = w := by
  go_enter Tryz.func30, Tryz.ntmps30
  go_wp2
  go_ret
  exact ⟨rfl, rfl⟩

end Go.Proofs.YtbfggmeppakcgaaGreat

/- The program's sets: counting, making. -/
namespace Go.Proofs.YtbfggmeppakcgaaGreat
open Go.RowKit Go.Sort Go.Maps

set_option maxHeartbeats 1000000 in
theorem set_len {w : World} {s r n : Nat} {D : SD} (h : SetAt w s r n D) :
    Calls Tryz.prog 40 #[.pointer (some ⟨s, 0, none⟩)] w fun e w' => e = .returned (.int .i64 (Maps.size D)) ∧ w' = w := by
  have hc := h.cell
  have Hh := hide h
  clear h
  go_enter Tryz.func40, Tryz.ntmps40
  go_wp2_with (at_len; refine wpList_len_own _ rfl _ 39 rfl 9 3 Tryz.underlying39 _ r n D rfl Hh.out.own ?_)
  go_ret
  exact ⟨rfl, rfl⟩
theorem none_len (w : World) : Calls Tryz.prog 40 #[.pointer none] w fun e w' => e = .returned (.int .i64 0) ∧ w' = w := by
  go_enter Tryz.func40, Tryz.ntmps40
  go_wp2
  go_ret
  exact ⟨rfl, rfl⟩

theorem obj_alloc_at (w : World) (o : Obj) (n : Nat) (h : n = w.heap.size) : (w.alloc o).heap[n]? = some o := by subst h; exact heap_alloc_new w o

/-- The map of some texts. -/
def ofD (l : List Str) : SD := l.foldl (fun D x => D.put (.string x) oneD) (.map [])
theorem ofD_snoc (l : List Str) (x : Str) : ofD (l ++ [x]) = (ofD l).put (.string x) oneD := by simp [ofD, List.foldl_append]
theorem ofD_fold : ∀ (l : List Str) (D : SD), IsMap D → Ones D → IsMap (l.foldl (fun D x => D.put (.string x) oneD) D) ∧ Ones (l.foldl (fun D x => D.put (.string x) oneD) D) ∧
    ∀ x, mem (l.foldl (fun D x => D.put (.string x) oneD) D) x = (mem D x || l.any (x == ·))
  | [], D, h1, h2 => ⟨h1, h2, fun x => by simp⟩
  | y :: l, D, h1, h2 => by
    obtain ⟨a, b, c⟩ := ofD_fold l (D.put (.string y) oneD) (h1.put _ _) (h2.put h1 y)
    refine ⟨a, b, fun x => ?_⟩
    rw [List.foldl_cons, c, mem_put _ h1]
    simp [Bool.or_assoc]
theorem ofD_map (l : List Str) : IsMap (ofD l) ∧ Ones (ofD l) ∧ ∀ x, mem (ofD l) x = l.any (x == ·) := by
  obtain ⟨a, b, c⟩ := ofD_fold l (.map []) isMap_empty ones_empty
  exact ⟨a, b, fun x => by rw [ofD, c]; rfl⟩

set_option maxRecDepth 10000 in
set_option maxHeartbeats 1000000 in
theorem set_new (A : Option Addr) (cap : Nat) (l : List Str) (w : World) (h : Strs w A l) (hs : ∀ x ∈ l, x.length ≤ 9223372036854775807) (hn : l.length ≤ 10000) :
    Calls Tryz.prog 20 #[.slice A l.length cap] w fun e w' => (∃ s r n, e = .returned (.pointer (some ⟨s, 0, none⟩)) ∧ w.heap.size ≤ s ∧ w.heap.size ≤ r ∧ n ≤ 10000 ∧ SetAt w' s r n (ofD l)) ∧ Ext w w' := by
  have hmm := @run_makeMap Tryz.prog
  have Hs := hide hs
  have Hr := hide h
  clear hs h
  go_enter Tryz.func20, Tryz.ntmps20
  go_wp2
  go_loopw [11] (fun iv wr => ∃ k : Nat, k ≤ l.length ∧ iv = .int .i64 k ∧ Hid (Ext w wr) ∧ Hid (SetAt wr (w.heap.size + 1) w.heap.size k (ofD (l.take k)))) (fun iv _ => l.length - (intOf iv).toNat)
  case atStart =>
    refine ⟨0, Nat.zero_le _, rfl, hide (by repeat (first | exact Ext.refl _ | exact Ext.pre (by simp) | exact Ext.alloc (by assumption) _ | refine Ext.alloc ?_ _ |  refine Ext.more ?_ _ _ | refine Ext.drew ?_ | refine Ext.drewN ?_ _)), hide ⟨?_, ?_, ones_empty⟩⟩
    · exact obj_alloc_at _ _ _ (by simp)
    · exact (World.ownsMap_made w _ _ _).alloc _
  case round =>
    obtain ⟨k, hk, rfl, HX, HS⟩ := hrel
    have hc := HS.out.cell
    by_cases hlt : k < l.length
    · obtain ⟨b, o, rfl, hb, q0⟩ := (Hr.out.ext HX.out).at_ hlt
      have hlt' : (k : Int) < (l.length : Int) := by omega
      have hxs : (l.getD k []).length ≤ 9223372036854775807 := Hs.out _ (by simp [hlt])
      have Htk : Hid (l.take (k + 1) = l.take k ++ [l.getD k []]) := hide (by rw [List.take_succ_eq_append_getElem hlt]; simp [hlt])
      generalize l.getD k [] = x at *
      go_wp2_with (at_mapUpdate; refine wpList_mapUpdate_own _ rfl _ _ _ 39 rfl 9 3 key_law Tryz.underlying39 _ w.heap.size k (ofD (l.take k)) rfl HS.out.own (by unfold maxLen; omega) _ _ _ rfl rfl (key_of hxs) oneD [] (plainElem_int Tryz.underlying3 (by decide)) ?_; intro w2 hown2 hgrow2)
      go_roundw
      case rel =>
        refine ⟨k + 1, hlt, by go_num, hide (HX.out.grown hgrow2 (fun j hj => by injection hj with hj; omega)), hide ⟨(hgrow2.block _ HS.out.lts (fun e => by injection e with e; omega)).trans HS.out.box, ?_, ?_⟩⟩
        · rw [Htk.out, ofD_snoc]; exact hown2
        · exact (ofD_map _).2.1
      case measure => simp [intOf]; omega
    · have hge : (l.length : Int) ≤ (k : Int) := by omega
      have hkl : k = l.length := by omega
      rw [hkl, List.take_length] at HS
      go_wp2
      go_ret
      exact ⟨⟨_, _, _, rfl, by omega, Nat.le_refl _, hn, HS.out⟩, HX.out⟩

end Go.Proofs.YtbfggmeppakcgaaGreat
