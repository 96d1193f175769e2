/- The program's sets as rising lists: all methods, of a set or of none. -/
import Derived.Test.YtnbnhchgkbbiiaaStC
import Derived.Test.YtnbnhchgkbbiiaaStPl
namespace Go.Proofs.Ytnbnhchgkbbiiaa
open Go.RowKit Go.Sort Go.Maps

theorem SetAt.sorted {w : World} {s r n : Nat} {D : SD} (h : SetAt w s r n D) : Rising (sortedD D) ∧ ∀ x, x ∈ sortedD D ↔ mem D x = true := by
  obtain ⟨es, hD, hpw, _⟩ := h.own.entries key_law
  obtain ⟨es', hD', hko⟩ := h.own.keysOf
  obtain rfl : es = es' := by rw [hD] at hD'; simpa using hD'
  subst hD
  have hk : ∀ p ∈ es, ∃ x, p.1 = .string x := fun p hp => by obtain ⟨v, hv⟩ := hko p hp; obtain ⟨x, _, hx, _⟩ := Maps.keyOf_str Try.underlying9 hv; exact ⟨x, hx⟩
  have hnd : (es.map fun p => strOf p.1).Nodup := by
    refine List.pairwise_map.2 (hpw.imp_of_mem fun {p q} hp' hq' hne e => hne ?_)
    obtain ⟨a, ha⟩ := hk p hp'
    obtain ⟨b, hb⟩ := hk q hq'
    rw [ha, hb] at e ⊢
    exact congrArg _ e
  have hm : ∀ x, x ∈ (es.map fun p => strOf p.1) ↔ has (.map es : SD) (.string x) = true := by
    intro x
    rw [has_eq, List.any_eq_true, List.mem_map]
    constructor
    · rintro ⟨p, hp', rfl⟩
      obtain ⟨a, ha⟩ := hk p hp'
      exact ⟨p, hp', by rw [ha]; simp [Lit.sameKey, strOf]⟩
    · rintro ⟨p, hp', hs⟩
      obtain ⟨a, ha⟩ := hk p hp'
      rw [ha] at hs
      exact ⟨p, hp', by rw [ha]; simpa [Lit.sameKey, strOf] using hs⟩
  have tr : ∀ a b c : Str, leB a b = true → leB b c = true → leB a c = true := fun a b c h1 h2 => by simp only [leB, decide_eq_true_eq] at *; exact List.le_trans h1 h2
  have to : ∀ a b : Str, (leB a b || leB b a) = true := fun a b => by simp only [leB, Bool.or_eq_true, decide_eq_true_eq]; exact List.le_total a b
  have hp := List.mergeSort_perm (es.map fun p => strOf p.1) leB
  refine ⟨?_, fun x => (hp.mem_iff).trans (hm x)⟩
  have h1 := List.pairwise_mergeSort tr to (es.map fun p => strOf p.1)
  have h2 : ((es.map fun p => strOf p.1).mergeSort leB).Nodup := hp.nodup_iff.2 hnd
  refine (List.Pairwise.and h1 h2).imp ?_
  rintro a b ⟨h3, h4⟩
  simp only [leB, decide_eq_true_eq] at h3
  rcases slt_total a b with h5 | h5 | h5
  · exact h5
  · exact absurd h5 h4
  · exact absurd h5 (List.not_lt.2 h3)

/-- A set in memory, as the list of its texts. -/
def SetL (w : World) (s r n : Nat) (L : List Str) : Prop := ∃ D, SetAt w s r n D ∧ sortedD D = L

section
variable {w w' : World} {s r n : Nat} {L M : List Str}
theorem SetL.rising (h : SetL w s r n L) : Rising L := by obtain ⟨D, h, rfl⟩ := h; exact h.sorted.1
theorem SetL.ext (h : SetL w s r n L) (e : Ext w w') : SetL w' s r n L := by obtain ⟨D, h, hL⟩ := h; exact ⟨D, h.ext e, hL⟩
theorem SetL.grown (h : SetL w s r n L) {row : Option Nat} (g : w.grownBy w' row) (h1 : row ≠ some s) (h2 : row ≠ some r) : SetL w' s r n L := by obtain ⟨D, h, hL⟩ := h; exact ⟨D, h.grown g h1 h2, hL⟩
theorem SetL.lts (h : SetL w s r n L) : s < w.heap.size := by obtain ⟨D, h, _⟩ := h; exact h.lts
theorem SetL.ltr (h : SetL w s r n L) : r < w.heap.size := by obtain ⟨D, h, _⟩ := h; exact h.ltr
theorem SetL.len_le (h : SetL w s r n L) : L.length ≤ n := by obtain ⟨D, h, rfl⟩ := h; rw [sorted_len h]; exact h.size_le
/-- A row is in another block than a set's map. -/
theorem SetL.row (h : SetL w s r n L) (g : w.grownBy w' (some r)) {A : Option Addr} {k m : Nat} {xs : List Value} (hk : 0 < k) (hr : Row w A k m xs) : Row w' A k m xs := by
  obtain ⟨D, h, _⟩ := h
  rcases Nat.eq_zero_or_pos m with h0 | h0
  · exact ⟨hr.1, fun hm => absurd hm (by omega)⟩
  · refine hr.keep g.size fun b o e hb => g.block b hb fun hbr => ?_
    injection hbr with hbr
    subst hbr
    obtain ⟨b', o', e', _, hc⟩ := hr.2 h0
    rw [e] at e'
    injection e' with e'
    injection e' with e1 e2
    subst e1 e2
    have hl : 0 < xs.length := by rw [hr.1]; exact Nat.mul_pos h0 hk
    have := hc 0 _ (List.getElem?_eq_getElem hl)
    obtain ⟨es, clock, hbk, _⟩ := h.own
    simp [World.cell?, hbk] at this
end

theorem sorted_ofD {w : World} {s r n : Nat} {l : List Str} (h : SetAt w s r n (ofD l)) : sortedD (ofD l) = ofL l :=
  h.sorted.1.ext (ofL_rising l) fun x => by rw [h.sorted.2, ofL_mem, (ofD_map l).2.2, List.any_eq_true]; simp
theorem mem_findB_set {w : World} {s r n : Nat} {D : SD} (h : SetAt w s r n D) (x : Str) : mem D x = findB (sortedD D) x := by
  rw [Bool.eq_iff_iff, mem_findB h.sorted.1, h.sorted.2]
theorem sorted_add {w w' : World} {s r n s' r' n' : Nat} {D : SD} {x : Str} (h : SetAt w s r n D) (h' : SetAt w' s' r' n' (if mem D x then D else D.put (.string x) oneD)) :
    sortedD (if mem D x then D else D.put (.string x) oneD) = addL (sortedD D) x :=
  h'.sorted.1.ext (addL_rising h.sorted.1 x) fun y => by
    rw [h'.sorted.2, addL_mem h.sorted.1, h.sorted.2]
    cases hm : mem D x
    · simp only [Bool.false_eq_true, ↓reduceIte]
      rw [mem_put D h.tidy.isMap]; simp
    · simp only [↓reduceIte]
      constructor
      · exact .inl
      · rintro (h1 | rfl)
        · exact h1
        · exact hm
/-! ### Contracts on sets as lists -/
theorem setl_has {w : World} {s r n : Nat} {L : List Str} (h : SetL w s r n L) (x : Str) (hx : x.length ≤ 9223372036854775807) :
    Calls Try.prog 64 #[.pointer (some ⟨s, 0, none⟩), encStr x] w fun e w' => e = .returned (.bool (findB L x)) ∧ w' = w := by
  obtain ⟨D, h, rfl⟩ := h
  rw [← mem_findB_set h]
  exact set_has h x hx
theorem setl_add {w : World} {s r n : Nat} {L : List Str} (h : SetL w s r n L) (x : Str) (hx : x.length ≤ 9223372036854775807) (hn : n < 100000) :
    Calls Try.prog 50 #[.pointer (some ⟨s, 0, none⟩), encStr x] w fun e w' => e = .returned (.bool (!findB L x)) ∧ SetL w' s r (n + 1) (addL L x) ∧ w.grownBy w' (some r) := by
  obtain ⟨D, h, rfl⟩ := h
  rw [← mem_findB_set h]
  exact (set_add h x hx hn).mono fun e w' ⟨h1, h2, h3⟩ => ⟨h1, ⟨_, h2, sorted_add h h2⟩, h3⟩
theorem setl_len {w : World} {s r n : Nat} {L : List Str} (h : SetL w s r n L) :
    Calls Try.prog 79 #[.pointer (some ⟨s, 0, none⟩)] w fun e w' => e = .returned (.int .i64 L.length) ∧ w' = w := by
  obtain ⟨D, h, rfl⟩ := h
  rw [sorted_len h]
  exact set_len h
theorem setl_list {w : World} {s r n : Nat} {L : List Str} (h : SetL w s r n L) (hn : n ≤ 100000) :
    Calls Try.prog 57 #[.pointer (some ⟨s, 0, none⟩)] w fun e w' => (∃ v, e = .returned v ∧ w'.ownsRow w.heap.size 9 1 v L.length (L.map encStr)) ∧ Ext w w' := by
  obtain ⟨D, h, rfl⟩ := h
  exact set_list_own h hn
theorem setl_new (A : Option Addr) (cap : Nat) (l : List Str) (w : World) (h : Strs w A l) (hs : ∀ x ∈ l, x.length ≤ 9223372036854775807) (hn : l.length ≤ 10000) :
    Calls Try.prog 49 #[.slice A l.length cap] w fun e w' => (∃ s r n, e = .returned (.pointer (some ⟨s, 0, none⟩)) ∧ w.heap.size ≤ s ∧ w.heap.size ≤ r ∧ n ≤ 10000 ∧ SetL w' s r n (ofL l)) ∧ Ext w w' :=
  (set_new A cap l w h hs hn).mono fun _ _ ⟨⟨s, r, n, h1, h2, h3, h4, h5⟩, h6⟩ => ⟨⟨s, r, n, h1, h2, h3, h4, _, h5, sorted_ofD h5⟩, h6⟩

/-- A set's pointer, or none. -/
def SetO (w : World) (v : Value) (L : List Str) : Prop := (v = .pointer none ∧ L = []) ∨ ∃ s r n, v = .pointer (some ⟨s, 0, none⟩) ∧ n ≤ 20000 ∧ SetL w s r n L
theorem SetO.ext {w w' : World} {v : Value} {L : List Str} (h : SetO w v L) (e : Ext w w') : SetO w' v L := by
  rcases h with h | ⟨s, r, n, h1, h2, h3⟩
  · exact .inl h
  · exact .inr ⟨s, r, n, h1, h2, h3.ext e⟩
theorem SetO.rising {w : World} {v : Value} {L : List Str} (h : SetO w v L) : Rising L := by
  rcases h with ⟨_, rfl⟩ | ⟨s, r, n, h1, h2, h3⟩
  · exact List.Pairwise.nil
  · exact h3.rising
theorem seto_has {w : World} {v : Value} {L : List Str} (h : SetO w v L) (x : Str) (hx : x.length ≤ 9223372036854775807) :
    Calls Try.prog 64 #[v, encStr x] w fun e w' => e = .returned (.bool (findB L x)) ∧ w' = w := by
  rcases h with ⟨rfl, rfl⟩ | ⟨s, r, n, rfl, h2, h3⟩
  · exact none_has x w
  · exact setl_has h3 x hx
theorem seto_len {w : World} {v : Value} {L : List Str} (h : SetO w v L) : Calls Try.prog 79 #[v] w fun e w' => e = .returned (.int .i64 L.length) ∧ w' = w := by
  rcases h with ⟨rfl, rfl⟩ | ⟨s, r, n, rfl, h2, h3⟩
  · exact none_len w
  · exact setl_len h3
theorem seto_list {w : World} {v : Value} {L : List Str} (h : SetO w v L) :
    Calls Try.prog 57 #[v] w fun e w' => (∃ v, e = .returned v ∧ w'.ownsRow w.heap.size 9 1 v L.length (L.map encStr)) ∧ Ext w w' := by
  rcases h with ⟨rfl, rfl⟩ | ⟨s, r, n, rfl, h2, h3⟩
  · exact (none_list w).mono fun _ _ ⟨h1, h2⟩ => by subst h2; exact ⟨⟨_, h1, World.ownsRow_nil _ _ _ _⟩, Ext.refl _⟩
  · exact setl_list h3 (by omega)

end Go.Proofs.Ytnbnhchgkbbiiaa

