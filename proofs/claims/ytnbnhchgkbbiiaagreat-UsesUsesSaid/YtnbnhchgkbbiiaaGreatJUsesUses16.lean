/- Plain facts on rising lists of texts. No program in sight. -/
import Derived.Test.YtnbnhchgkbbiiaaGreatJUsesUses15
import Derived.Sort.Walk0
/- Plain facts on rising lists of texts. No program in sight. -/
namespace Go.Proofs.YtnbnhchgkbbiiaaGreat
open Go.RowKit Go.Sort

def lessB (a b : Str) : Bool := Op.bytesLess a b
/-- How many texts stand ahead of `x`. -/
def findN (l : List Str) (x : Str) : Nat := (l.takeWhile (lessB · x)).length
def findB (l : List Str) (x : Str) : Bool := decide (findN l x < l.length) && (l.getD (findN l x) [] == x)

theorem findN_le (l : List Str) (x : Str) : findN l x ≤ l.length := (List.takeWhile_sublist _).length_le
theorem findN_at : ∀ (l : List Str) (x : Str) (k : Nat), k ≤ l.length → (∀ i, i < k → lessB (l.getD i []) x = true) → (k < l.length → lessB (l.getD k []) x = false) → findN l x = k
  | [], x, k, hk, _, _ => by simp at hk; subst hk; rfl
  | y :: l, x, 0, _, _, h => by
    have : lessB y x = false := by simpa using h (by simp)
    simp [findN, this]
  | y :: l, x, k + 1, hk, h1, h2 => by
    have h0 : lessB y x = true := by simpa using h1 0 (by omega)
    have := findN_at l x k (by simpa using hk) (fun i hi => by simpa using h1 (i + 1) (by omega)) (fun hl => by simpa using h2 (by simpa using hl))
    unfold findN at this ⊢
    simp [h0, this]

/-- With a text. -/
def addL (l : List Str) (x : Str) : List Str := if findB l x then l else l.take (findN l x) ++ [x] ++ l.drop (findN l x)
/-- Without a text. -/
def remL (l : List Str) (x : Str) : List Str := if findB l x then l.take (findN l x) ++ l.drop (findN l x + 1) else l

theorem findB_lt {l : List Str} {x : Str} (h : findB l x = true) : findN l x < l.length := by
  unfold findB at h
  simp at h
  exact h.1

/-- Rising texts, each once. -/
abbrev Rising (l : List Str) : Prop := l.Pairwise (· < ·)
theorem slt_irrefl (a : Str) : ¬ a < a := List.lt_irrefl a
theorem slt_trans {a b c : Str} (h : a < b) (k : b < c) : a < c := List.lt_trans h k
theorem slt_total (a b : Str) : a < b ∨ a = b ∨ b < a := by
  by_cases h : a < b
  · exact .inl h
  · by_cases k : b < a
    · exact .inr (.inr k)
    · exact .inr (.inl (List.le_antisymm (List.not_lt.1 k) (List.not_lt.1 h)))
theorem Rising.nodup {l : List Str} (h : Rising l) : l.Nodup := List.Pairwise.imp (R := (· < ·)) (S := (· ≠ ·)) (fun {a b} (hab : a < b) (e : a = b) => slt_irrefl b (e ▸ hab)) h
theorem Rising.ext {l m : List Str} (hl : Rising l) (hm : Rising m) (h : ∀ x, x ∈ l ↔ x ∈ m) : l = m :=
  List.Perm.eq_of_pairwise (le := (· < ·)) (fun a _ _ _ h1 h2 => absurd (slt_trans h1 h2) (slt_irrefl a)) hl hm ((List.perm_ext_iff_of_nodup hl.nodup hm.nodup).2 h)
theorem lessB_eq (a b : Str) : lessB a b = decide (a < b) := bytesLess_eq a b

theorem find_parts (x : Str) : ∀ l : List Str, Rising l → ∃ p q, l = p ++ q ∧ findN l x = p.length ∧ (∀ y ∈ p, y < x) ∧ (∀ y ∈ q, x < y ∨ x = y) ∧ (findB l x = true ↔ q.head? = some x)
  | [], _ => ⟨[], [], rfl, rfl, by simp, by simp, by simp [findB]⟩
  | y :: l, h => by
    by_cases hy : y < x
    · obtain ⟨p, q, e, hn, hp, hq, hb⟩ := find_parts x l (List.pairwise_cons.1 h).2
      have hN : findN (y :: l) x = findN l x + 1 := by simp [findN, lessB_eq, hy]
      refine ⟨y :: p, q, by rw [e]; rfl, by rw [hN, hn]; rfl, ?_, hq, ?_⟩
      · intro z hz
        rcases List.mem_cons.1 hz with rfl | hz
        · exact hy
        · exact hp z hz
      · rw [← hb]
        unfold findB
        rw [hN]
        simp
    · have hN : findN (y :: l) x = 0 := by simp [findN, lessB_eq, hy]
      refine ⟨[], y :: l, rfl, by rw [hN]; rfl, by simp, ?_, ?_⟩
      · have hxy : x < y ∨ x = y := by
          rcases slt_total y x with h1 | h1 | h1
          · exact absurd h1 hy
          · exact .inr h1.symm
          · exact .inl h1
        intro z hz
        rcases List.mem_cons.1 hz with rfl | hz
        · exact hxy
        · have := (List.pairwise_cons.1 h).1 z hz
          rcases hxy with h1 | h1
          · exact .inl (slt_trans h1 this)
          · subst h1; exact .inl this
      · unfold findB
        rw [hN]
        simp

theorem mem_findB {l : List Str} (h : Rising l) (x : Str) : findB l x = true ↔ x ∈ l := by
  obtain ⟨p, q, e, hn, hp, hq, hb⟩ := find_parts x l h
  rw [hb, e]
  constructor
  · intro hh
    rcases q with _ | ⟨z, q⟩
    · cases hh
    · simp at hh; subst hh; simp
  · intro hh
    rcases List.mem_append.1 hh with h1 | h1
    · exact absurd (hp x h1) (slt_irrefl x)
    · rcases q with _ | ⟨z, q⟩
      · cases h1
      · rcases List.mem_cons.1 h1 with rfl | h2
        · rfl
        · rw [e] at h
          have h3 := (List.pairwise_cons.1 (List.pairwise_append.1 h).2.1).1 x h2
          rcases hq z (by simp) with h4 | h4
          · exact absurd (slt_trans h3 h4) (slt_irrefl z)
          · subst h4; exact absurd h3 (slt_irrefl x)
theorem findB_any {l : List Str} (h : Rising l) (x : Str) : findB l x = l.any (· == x) := by
  rw [Bool.eq_iff_iff, mem_findB h, List.any_eq_true]
  constructor
  · exact fun hx => ⟨x, hx, by simp⟩
  · rintro ⟨y, hy, e⟩
    simp at e; subst e; exact hy

theorem addL_mem {l : List Str} (h : Rising l) (x y : Str) : y ∈ addL l x ↔ y ∈ l ∨ y = x := by
  unfold addL
  split
  · rename_i hb
    have := (mem_findB h x).1 hb
    constructor
    · exact .inl
    · rintro (h1 | rfl)
      · exact h1
      · exact this
  · have e : l.take (findN l x) ++ l.drop (findN l x) = l := List.take_append_drop _ _
    constructor
    · intro hy
      simp only [List.mem_append, List.mem_singleton] at hy
      rcases hy with (h1 | h1) | h1
      · exact .inl (List.mem_of_mem_take h1)
      · exact .inr h1
      · exact .inl (List.mem_of_mem_drop h1)
    · rintro (h1 | rfl)
      · rw [← e] at h1
        rcases List.mem_append.1 h1 with h2 | h2
        · simp [h2]
        · simp [h2]
      · simp
theorem addL_rising {l : List Str} (h : Rising l) (x : Str) : Rising (addL l x) := by
  unfold addL
  split
  · exact h
  · rename_i hb
    obtain ⟨p, q, e, hn, hp, hq, hb'⟩ := find_parts x l h
    have hx : x ∉ l := fun hh => hb ((mem_findB h x).2 hh)
    rw [hn, e, List.take_left, List.drop_left]
    rw [e] at h hx
    obtain ⟨h1, h2, h3⟩ := List.pairwise_append.1 h
    have hq' : ∀ y ∈ q, x < y := fun y hy => by
      rcases hq y hy with h4 | h4
      · exact h4
      · subst h4; exact absurd (List.mem_append.2 (.inr hy)) hx
    refine List.pairwise_append.2 ⟨List.pairwise_append.2 ⟨h1, by simp, fun a ha b hb => ?_⟩, h2, fun a ha b hbq => ?_⟩
    · simp at hb; subst hb; exact hp a ha
    · rcases List.mem_append.1 ha with h4 | h4
      · exact h3 a h4 b hbq
      · simp at h4; subst h4; exact hq' b hbq
theorem remL_parts {l : List Str} (h : Rising l) (x : Str) : Rising (remL l x) ∧ ∀ y, y ∈ remL l x ↔ y ∈ l ∧ y ≠ x := by
  unfold remL
  split
  · rename_i hb
    obtain ⟨p, q, e, hn, hp, hq, hb'⟩ := find_parts x l h
    rcases q with _ | ⟨z, q⟩
    · have := hb'.1 hb; cases this
    · have hz := hb'.1 hb
      simp at hz
      subst hz
      rw [hn, e, List.take_left, show p ++ z :: q = (p ++ [z]) ++ q by simp, show p.length + 1 = (p ++ [z]).length by simp, List.drop_left]
      rw [e] at h
      obtain ⟨h1, h2, h3⟩ := List.pairwise_append.1 h
      obtain ⟨h4, h5⟩ := List.pairwise_cons.1 h2
      refine ⟨List.pairwise_append.2 ⟨h1, h5, fun a ha b hb => h3 a ha b (by simp [hb])⟩, fun y => ?_⟩
      simp only [List.mem_append, List.mem_singleton]
      constructor
      · rintro (h6 | h6)
        · exact ⟨.inl (.inl h6), fun e => by subst e; exact slt_irrefl _ (hp y h6)⟩
        · exact ⟨.inr h6, fun e => by subst e; exact slt_irrefl _ (h4 y h6)⟩
      · rintro ⟨(h6 | h6) | h6, h7⟩
        · exact .inl h6
        · exact absurd h6 h7
        · exact .inr h6
  · rename_i hb
    refine ⟨h, fun y => ⟨fun hy => ⟨hy, fun e => hb ((mem_findB h x).2 (e ▸ hy))⟩, fun hy => hy.1⟩⟩

/-- All of a list. -/
def ofL (l : List Str) : List Str := l.foldl addL []
theorem fold_parts : ∀ (l a : List Str), Rising a → Rising (l.foldl addL a) ∧ ∀ y, y ∈ l.foldl addL a ↔ y ∈ a ∨ y ∈ l
  | [], a, h => ⟨h, by simp⟩
  | x :: l, a, h => by
    obtain ⟨h1, h2⟩ := fold_parts l (addL a x) (addL_rising h x)
    refine ⟨h1, fun y => ?_⟩
    rw [List.foldl_cons, h2, addL_mem h, List.mem_cons]
    exact or_assoc
theorem ofL_rising (l : List Str) : Rising (ofL l) := (fold_parts l [] List.Pairwise.nil).1
theorem ofL_mem (l : List Str) (y : Str) : y ∈ ofL l ↔ y ∈ l := by
  have := (fold_parts l [] List.Pairwise.nil).2 y
  unfold ofL
  simpa using this
theorem ofL_same {l : List Str} (h : Rising l) : ofL l = l := (ofL_rising l).ext h (ofL_mem l)
theorem ofL_snoc (l : List Str) (x : Str) : ofL (l ++ [x]) = addL (ofL l) x := by simp [ofL, List.foldl_append]
theorem addL_len (l : List Str) (x : Str) : (addL l x).length ≤ l.length + 1 := by
  unfold addL
  split
  · omega
  · have := findN_le l x
    simp; omega
theorem remL_len (l : List Str) (x : Str) : (remL l x).length ≤ l.length := by
  unfold remL
  split
  · have := findN_le l x
    simp; omega
  · omega
theorem ofL_len (l : List Str) : (ofL l).length ≤ l.length := by
  have : ∀ (l a : List Str), (l.foldl addL a).length ≤ a.length + l.length := by
    intro l
    induction l with
    | nil => simp
    | cons x l ih => intro a; have := ih (addL a x); have := addL_len a x; simp at *; omega
  have := this l []
  unfold ofL
  simpa using this
/-- Those that another one does not have. -/
def minusL (l m : List Str) : List Str := l.filter fun x => !findB m x
theorem minusL_rising {l : List Str} (m : List Str) (h : Rising l) : Rising (minusL l m) := h.sublist List.filter_sublist
theorem minusL_mem {m : List Str} (l : List Str) (h : Rising m) (y : Str) : y ∈ minusL l m ↔ y ∈ l ∧ y ∉ m := by
  unfold minusL
  rw [List.mem_filter]
  have := mem_findB h y
  cases hb : findB m y
  · rw [hb] at this; simp at this; simp [this]
  · rw [hb] at this; simp at this; simp [this]
theorem minusL_snoc (l m : List Str) (x : Str) : minusL (l ++ [x]) m = minusL l m ++ if findB m x then [] else [x] := by
  unfold minusL
  rw [List.filter_append]
  cases hb : findB m x <;> simp [hb]
theorem minusL_len (l m : List Str) : (minusL l m).length ≤ l.length := List.length_filter_le _ _

end Go.Proofs.YtnbnhchgkbbiiaaGreat

/- The program's sets as rising lists: all methods, of a set or of none. -/
namespace Go.Proofs.YtnbnhchgkbbiiaaGreat
open Go.RowKit Go.Sort Go.Maps

theorem SetAt.sorted {w : World} {s r n : Nat} {D : SD} (h : SetAt w s r n D) : Rising (sortedD D) ∧ ∀ x, x ∈ sortedD D ↔ mem D x = true := by
  obtain ⟨es, hD, hpw, _⟩ := h.own.entries key_law
  obtain ⟨es', hD', hko⟩ := h.own.keysOf
  obtain rfl : es = es' := by rw [hD] at hD'; simpa using hD'
  subst hD
  have hk : ∀ p ∈ es, ∃ x, p.1 = .string x := fun p hp => by obtain ⟨v, hv⟩ := hko p hp; obtain ⟨x, _, hx, _⟩ := Maps.keyOf_str Tryz.underlying9 hv; exact ⟨x, hx⟩
  have hnd : (es.map fun p => strOf p.1).Nodup := by
    refine List.pairwise_map.2 (hpw.imp_of_mem fun {p q} hp' hq' hne e => hne ?_)
    obtain ⟨a, ha⟩ := hk p hp'
    obtain ⟨b, hb⟩ := hk q hq'
    rw [ha, hb] at e ⊢
    exact congrArg _ e
  have hm : ∀ x, x ∈ (es.map fun p => strOf p.1) ↔ has (.map es : SD) (.string x) = true := by
    intro x
    rw [has_eq, List.any_eq_true, List.mem_map]
    constructor
    · rintro ⟨p, hp', rfl⟩
      obtain ⟨a, ha⟩ := hk p hp'
      exact ⟨p, hp', by rw [ha]; simp [Lit.sameKey, strOf]⟩
    · rintro ⟨p, hp', hs⟩
      obtain ⟨a, ha⟩ := hk p hp'
      rw [ha] at hs
      exact ⟨p, hp', by rw [ha]; simpa [Lit.sameKey, strOf] using hs⟩
  have tr : ∀ a b c : Str, leB a b = true → leB b c = true → leB a c = true := fun a b c h1 h2 => by simp only [leB, decide_eq_true_eq] at *; exact List.le_trans h1 h2
  have to : ∀ a b : Str, (leB a b || leB b a) = true := fun a b => by simp only [leB, Bool.or_eq_true, decide_eq_true_eq]; exact List.le_total a b
  have hp := List.mergeSort_perm (es.map fun p => strOf p.1) leB
  refine ⟨?_, fun x => (hp.mem_iff).trans (hm x)⟩
  have h1 := List.pairwise_mergeSort tr to (es.map fun p => strOf p.1)
  have h2 : ((es.map fun p => strOf p.1).mergeSort leB).Nodup := hp.nodup_iff.2 hnd
  refine (List.Pairwise.and h1 h2).imp ?_
  rintro a b ⟨h3, h4⟩
  simp only [leB, decide_eq_true_eq] at h3
  rcases slt_total a b with h5 | h5 | h5
  · exact h5
  · exact absurd h5 h4
  · exact absurd h5 (List.not_lt.2 h3)

/-- A set in memory, as the list of its texts. -/
def SetL (w : World) (s r n : Nat) (L : List Str) : Prop := ∃ D, SetAt w s r n D ∧ sortedD D = L

section
variable {w w' : World} {s r n : Nat} {L M : List Str}
theorem SetL.rising (h : SetL w s r n L) : Rising L := by obtain ⟨D, h, rfl⟩ := h; exact h.sorted.1
theorem SetL.ext (h : SetL w s r n L) (e : Ext w w') : SetL w' s r n L := by obtain ⟨D, h, hL⟩ := h; exact ⟨D, h.ext e, hL⟩
theorem SetL.grown (h : SetL w s r n L) {row : Option Nat} (g : w.grownBy w' row) (h1 : row ≠ some s) (h2 : row ≠ some r) : SetL w' s r n L := by obtain ⟨D, h, hL⟩ := h; exact ⟨D, h.grown g h1 h2, hL⟩
theorem SetL.lts (h : SetL w s r n L) : s < w.heap.size := by obtain ⟨D, h, _⟩ := h; exact h.lts
theorem SetL.ltr (h : SetL w s r n L) : r < w.heap.size := by obtain ⟨D, h, _⟩ := h; exact h.ltr
theorem SetL.len_le (h : SetL w s r n L) : L.length ≤ n := by obtain ⟨D, h, rfl⟩ := h; rw [sorted_len h]; exact h.size_le
/-- A row is in another block than a set's map. -/
theorem SetL.row (h : SetL w s r n L) (g : w.grownBy w' (some r)) {A : Option Addr} {k m : Nat} {xs : List Value} (hk : 0 < k) (hr : Row w A k m xs) : Row w' A k m xs := by
  obtain ⟨D, h, _⟩ := h
  rcases Nat.eq_zero_or_pos m with h0 | h0
  · exact ⟨hr.1, fun hm => absurd hm (by omega)⟩
  · refine hr.keep g.size fun b o e hb => g.block b hb fun hbr => ?_
    injection hbr with hbr
    subst hbr
    obtain ⟨b', o', e', _, hc⟩ := hr.2 h0
    rw [e] at e'
    injection e' with e'
    injection e' with e1 e2
    subst e1 e2
    have hl : 0 < xs.length := by rw [hr.1]; exact Nat.mul_pos h0 hk
    have := hc 0 _ (List.getElem?_eq_getElem hl)
    obtain ⟨es, clock, hbk, _⟩ := h.own
    simp [World.cell?, hbk] at this
end

theorem sorted_ofD {w : World} {s r n : Nat} {l : List Str} (h : SetAt w s r n (ofD l)) : sortedD (ofD l) = ofL l :=
  h.sorted.1.ext (ofL_rising l) fun x => by rw [h.sorted.2, ofL_mem, (ofD_map l).2.2, List.any_eq_true]; simp
theorem mem_findB_set {w : World} {s r n : Nat} {D : SD} (h : SetAt w s r n D) (x : Str) : mem D x = findB (sortedD D) x := by
  rw [Bool.eq_iff_iff, mem_findB h.sorted.1, h.sorted.2]
theorem sorted_add {w w' : World} {s r n s' r' n' : Nat} {D : SD} {x : Str} (h : SetAt w s r n D) (h' : SetAt w' s' r' n' (if mem D x then D else D.put (.string x) oneD)) :
    sortedD (if mem D x then D else D.put (.string x) oneD) = addL (sortedD D) x :=
  h'.sorted.1.ext (addL_rising h.sorted.1 x) fun y => by
    rw [h'.sorted.2, addL_mem h.sorted.1, h.sorted.2]
    cases hm : mem D x
    · simp only [Bool.false_eq_true, ↓reduceIte]
      rw [mem_put D h.tidy.isMap]; simp
    · simp only [↓reduceIte]
      constructor
      · exact .inl
      · rintro (h1 | rfl)
        · exact h1
        · exact hm
/-! ### Contracts on sets as lists -/
theorem setl_has {w : World} {s r n : Nat} {L : List Str} (h : SetL w s r n L) (x : Str) (hx : x.length ≤ 9223372036854775807) :
    Calls Tryz.prog 41 #[.pointer (some ⟨s, 0, none⟩), encStr x] w fun e w' => e = .returned (.bool (findB L x)) ∧ w' = w := by
  obtain ⟨D, h, rfl⟩ := h
  rw [← mem_findB_set h]
  exact set_has h x hx
theorem setl_add {w : World} {s r n : Nat} {L : List Str} (h : SetL w s r n L) (x : Str) (hx : x.length ≤ 9223372036854775807) (hn : n < 100000) :
    Calls Tryz.prog 25 #[.pointer (some ⟨s, 0, none⟩), encStr x] w fun e w' => e = .returned (.bool (!findB L x)) ∧ SetL w' s r (n + 1) (addL L x) ∧ w.grownBy w' (some r) := by
  obtain ⟨D, h, rfl⟩ := h
  rw [← mem_findB_set h]
  exact (set_add h x hx hn).mono fun e w' ⟨h1, h2, h3⟩ => ⟨h1, ⟨_, h2, sorted_add h h2⟩, h3⟩
theorem setl_len {w : World} {s r n : Nat} {L : List Str} (h : SetL w s r n L) :
    Calls Tryz.prog 42 #[.pointer (some ⟨s, 0, none⟩)] w fun e w' => e = .returned (.int .i64 L.length) ∧ w' = w := by
  obtain ⟨D, h, rfl⟩ := h
  rw [sorted_len h]
  exact set_len h
theorem setl_list {w : World} {s r n : Nat} {L : List Str} (h : SetL w s r n L) (hn : n ≤ 100000) :
    Calls Tryz.prog 26 #[.pointer (some ⟨s, 0, none⟩)] w fun e w' => (∃ v, e = .returned v ∧ w'.ownsRow w.heap.size 9 1 v L.length (L.map encStr)) ∧ Ext w w' := by
  obtain ⟨D, h, rfl⟩ := h
  exact set_list_own h hn
theorem setl_new (A : Option Addr) (cap : Nat) (l : List Str) (w : World) (h : Strs w A l) (hs : ∀ x ∈ l, x.length ≤ 9223372036854775807) (hn : l.length ≤ 10000) :
    Calls Tryz.prog 24 #[.slice A l.length cap] w fun e w' => (∃ s r n, e = .returned (.pointer (some ⟨s, 0, none⟩)) ∧ w.heap.size ≤ s ∧ w.heap.size ≤ r ∧ n ≤ 10000 ∧ SetL w' s r n (ofL l)) ∧ Ext w w' :=
  (set_new A cap l w h hs hn).mono fun _ _ ⟨⟨s, r, n, h1, h2, h3, h4, h5⟩, h6⟩ => ⟨⟨s, r, n, h1, h2, h3, h4, _, h5, sorted_ofD h5⟩, h6⟩

/-- A set's pointer, or none. -/
def SetO (w : World) (v : Value) (L : List Str) : Prop := (v = .pointer none ∧ L = []) ∨ ∃ s r n, v = .pointer (some ⟨s, 0, none⟩) ∧ n ≤ 20000 ∧ SetL w s r n L
theorem SetO.ext {w w' : World} {v : Value} {L : List Str} (h : SetO w v L) (e : Ext w w') : SetO w' v L := by
  rcases h with h | ⟨s, r, n, h1, h2, h3⟩
  · exact .inl h
  · exact .inr ⟨s, r, n, h1, h2, h3.ext e⟩
theorem SetO.rising {w : World} {v : Value} {L : List Str} (h : SetO w v L) : Rising L := by
  rcases h with ⟨_, rfl⟩ | ⟨s, r, n, h1, h2, h3⟩
  · exact List.Pairwise.nil
  · exact h3.rising
theorem seto_has {w : World} {v : Value} {L : List Str} (h : SetO w v L) (x : Str) (hx : x.length ≤ 9223372036854775807) :
    Calls Tryz.prog 41 #[v, encStr x] w fun e w' => e = .returned (.bool (findB L x)) ∧ w' = w := by
  rcases h with ⟨rfl, rfl⟩ | ⟨s, r, n, rfl, h2, h3⟩
  · exact none_has x w
  · exact setl_has h3 x hx
theorem seto_len {w : World} {v : Value} {L : List Str} (h : SetO w v L) : Calls Tryz.prog 42 #[v] w fun e w' => e = .returned (.int .i64 L.length) ∧ w' = w := by
  rcases h with ⟨rfl, rfl⟩ | ⟨s, r, n, rfl, h2, h3⟩
  · exact none_len w
  · exact setl_len h3
theorem seto_list {w : World} {v : Value} {L : List Str} (h : SetO w v L) :
    Calls Tryz.prog 26 #[v] w fun e w' => (∃ v, e = .returned v ∧ w'.ownsRow w.heap.size 9 1 v L.length (L.map encStr)) ∧ Ext w w' := by
  rcases h with ⟨rfl, rfl⟩ | ⟨s, r, n, rfl, h2, h3⟩
  · exact (none_list w).mono fun _ _ ⟨h1, h2⟩ => by subst h2; exact ⟨⟨_, h1, World.ownsRow_nil _ _ _ _⟩, Ext.refl _⟩
  · exact setl_list h3 (by omega)

end Go.Proofs.YtnbnhchgkbbiiaaGreat


/- Contracts: the names that a tree uses, its constructors. -/
namespace Go.Proofs.YtnbnhchgkbbiiaaGreat
open Go.RowKit Go.Sort

set_option maxRecDepth 10000 in
set_option maxHeartbeats 1000000 in
theorem u_walk_sig (t : Tree) (h21 : (t.kind == 21) = false) (h25 : (t.kind == 25) = false) (h26 : (t.kind == 26) = false) (h15 : (t.kind == 15) = false) (h32 : (t.kind == 32) = true) : WalksT t := by
  intro w0 w c base v fv us p h hB hw0 hO hA hok hsz
  obtain ⟨f, lb, rfl, eg, hA2⟩ := id hA
  have HU : Hid (us ++ usesL t p = us) := hide (by rw [usesL_eq, if_pos (by simpa using h32)]; simp)
  have HO := hide hO
  clear hA hA2 h hB hO hok
  unfold treeV
  go_enter Tryz.func19, Tryz.ntmps19
  go_wp2
  ((try simp only [Exit.inBlock, Exit.then]); refine bodyPost_ret (results_none rfl _ _ _) rfl ?_)
  exact ⟨rfl, v, by rw [HU.out]; exact HO.out.ext (by repeat (first | exact Ext.refl _ | exact Ext.pre (by simp) | exact Ext.alloc (by assumption) _ | refine Ext.alloc ?_ _ |  refine Ext.more ?_ _ _ | refine Ext.drew ?_ | refine Ext.drewN ?_ _)), Tr.of_ext (by repeat (first | exact Ext.refl _ | exact Ext.pre (by simp) | exact Ext.alloc (by assumption) _ | refine Ext.alloc ?_ _ |  refine Ext.more ?_ _ _ | refine Ext.drew ?_ | refine Ext.drewN ?_ _))⟩

theorem u_walk (t : Tree) : WalksT t := by
  induction t using Tree.ind with
  | h t ih =>
  have no : ∀ n m : Int, n ≠ m → t.kind = n → (t.kind == m) = false := fun n m hnm e => by rw [e]; simpa using hnm
  by_cases h1 : t.kind = 21
  · exact u_walk_var t ih (by simpa using h1) (no _ _ (by decide) h1) (no _ _ (by decide) h1) (no _ _ (by decide) h1) (no _ _ (by decide) h1)
  by_cases h2 : t.kind = 25
  · exact u_walk_lam t ih (no _ _ (by decide) h2) (by simpa using h2) (no _ _ (by decide) h2) (no _ _ (by decide) h2) (no _ _ (by decide) h2)
  by_cases h3 : t.kind = 26
  · exact u_walk_let t ih (no _ _ (by decide) h3) (no _ _ (by decide) h3) (by simpa using h3) (no _ _ (by decide) h3) (no _ _ (by decide) h3)
  by_cases h4 : t.kind = 15
  · exact u_walk_alt t ih (no _ _ (by decide) h4) (no _ _ (by decide) h4) (no _ _ (by decide) h4) (by simpa using h4) (no _ _ (by decide) h4)
  by_cases h5 : t.kind = 32
  · exact u_walk_sig t (no _ _ (by decide) h5) (no _ _ (by decide) h5) (no _ _ (by decide) h5) (no _ _ (by decide) h5) (by simpa using h5)
  exact u_walk_else t ih (by simpa using h1) (by simpa using h2) (by simpa using h3) (by simpa using h4) (by simpa using h5)

/-- What a tree uses. -/
noncomputable def usesE (t : Tree) : List Use := if isExpB t then usesL t (fun _ => false) else []
noncomputable def consE (t : Tree) : List Use := if isExpB t then consL t else []

set_option maxRecDepth 10000 in
set_option maxHeartbeats 1000000 in
theorem u_uses (t : Tree) (w : World) (h : NodeIn w t) (hsz : t.size ≤ 90000) :
    Calls Tryz.prog 7 #[treeV t] w fun e w' => (∃ A cap, e = .returned (.slice A (usesE t).length cap) ∧ (usesE t).length ≤ cap ∧ cap ≤ 9223372036854775807 ∧ Uses w' A (usesE t)) ∧ Ext w w' := by
  have HX := hide (fun w' (e : Ext w w') => hide (n_exp t w' (h.ext e) (by omega)))
  have Hh := hide h
  have X1 : Hid (Ext w (w.alloc (.cells #[.int .i64 t.kind, .int .i64 t.pos, .int .i64 t.n, encStr t.text, .slice t.A t.kids.length t.cap] 24))) := hide ((Ext.refl _).alloc _)
  have HB1 := hide (NBox.new w t)
  have HW := hide (u_walk t)
  cases he : isExpB t
  · have hU : usesE t = [] := by unfold usesE; rw [he]; rfl
    rw [hU]
    rw [he] at HX
    clear h he hU HW
    unfold treeV at *
    go_enter Tryz.func7, Tryz.ntmps7
    go_wp2_with fail
    refine (HX.out _ X1.out).out.mono ?_
    rintro e w2 ⟨rfl, hx2⟩
    go_wp2
    go_ret
    exact ⟨⟨none, 0, rfl, Nat.le_refl _, by omega, RowOf.nil _ _ _⟩, X1.out.trans hx2⟩
  · have hU : usesE t = usesL t (fun _ => false) := by unfold usesE; rw [he]; rfl
    have hok : walkOk t := by
      unfold isExpB at he
      rw [Bool.and_eq_true] at he
      exact expB_walk he.2
    have HOk := hide hok
    rw [hU]
    rw [he] at HX
    clear h he hU hok
    unfold WalksT at HW
    generalize hL : usesL t (fun _ => false) = L at *
    have HL := hide hL
    clear hL
    unfold treeV at *
    go_enter Tryz.func7, Tryz.ntmps7
    go_wp2_with fail
    refine (HX.out _ X1.out).out.mono ?_
    rintro e w2 ⟨rfl, hx2⟩
    have X2 := hide (X1.out.trans hx2)
    have HB2 := hide (HB1.out.ext hx2)
    have c0 := HB2.out.c0
    have c1 := HB2.out.c1
    have c2 := HB2.out.c2
    have c3 := HB2.out.c3
    have c4 := HB2.out.c4
    have hlt := HB2.out.lt
    clear hx2
    have OS : Hid (OutAt w2.heap.size (w2.heap.size + 1) (w2.alloc (.cells #[.slice none 0 0] 28)) (.slice none 0 0) []) := hide ⟨at_newB _ _ _ rfl, World.ownsRow_nil _ _ _ _, by omega, by simp⟩
    have X3 : Hid (Ext w (w2.alloc (.cells #[.slice none 0 0] 28))) := hide (X2.out.alloc _)
    go_wp2_with fail
    refine (HW.out w (w2.alloc (.cells #[.slice none 0 0] 28)) w2.heap.size (w2.heap.size + 1) (.slice none 0 0) (.func (.func 20) #[] #[]) [] (fun _ => false) Hh.out X3.out.below X2.out.size OS.out (none_asks _ _ _ uuses1_opens) HOk.out (by simp; omega)).mono ?_
    rintro e w4 ⟨rfl, v4, hO4, hT4⟩
    rw [List.nil_append, HL.out] at hO4
    obtain ⟨A4, cp4, rfl, p1, p2, p3, -⟩ := Use.own hO4.own
    have hc4 : w4.cell? ⟨w2.heap.size, 0, none⟩ = some (.slice A4 L.length cp4) := by simp [World.cell?, hO4.cell]
    have HX4 : Hid (Ext w w4) := hide (X2.out.trans (Ext.of_below (((Below.refl _ w2).alloc (Nat.le_refl _) _).trans (hT4.below (B := w2.heap.size) (by simp) (Nat.le_refl _) (fun k hk => by cases hk))) (Nat.le_refl _)))
    have P3 := hide p3
    clear hO4 hT4 p3
    go_wp2
    go_ret
    exact ⟨⟨A4, cp4, rfl, p1, p2, P3.out⟩, HX4.out⟩

set_option maxRecDepth 10000 in
set_option maxHeartbeats 1000000 in
theorem u_cons (t : Tree) (w : World) (h : NodeIn w t) (hsz : t.size ≤ 90000) :
    Calls Tryz.prog 12 #[treeV t] w fun e w' => (∃ A cap, e = .returned (.slice A (consE t).length cap) ∧ (consE t).length ≤ cap ∧ cap ≤ 9223372036854775807 ∧ Uses w' A (consE t)) ∧ Ext w w' := by
  have HX := hide (fun w' (e : Ext w w') => hide (n_exp t w' (h.ext e) (by omega)))
  have Hh := hide h
  have X1 : Hid (Ext w (w.alloc (.cells #[.int .i64 t.kind, .int .i64 t.pos, .int .i64 t.n, encStr t.text, .slice t.A t.kids.length t.cap] 24))) := hide ((Ext.refl _).alloc _)
  have HB1 := hide (NBox.new w t)
  have HC := hide (fun w' (e : Ext w w') => hide (u_consI t w w' w'.heap.size (.slice none 0 0) [] h e.below e.size (Nat.le_refl _) (World.ownsRow_nil _ _ _ _) (by simp; omega)))
  cases he : isExpB t
  · have hU : consE t = [] := by unfold consE; rw [he]; rfl
    rw [hU]
    rw [he] at HX
    clear h he hU HC
    unfold treeV at *
    go_enter Tryz.func12, Tryz.ntmps12
    go_wp2_with fail
    refine (HX.out _ X1.out).out.mono ?_
    rintro e w2 ⟨rfl, hx2⟩
    go_wp2
    go_ret
    exact ⟨⟨none, 0, rfl, Nat.le_refl _, by omega, RowOf.nil _ _ _⟩, X1.out.trans hx2⟩
  · have hU : consE t = consL t := by unfold consE; rw [he]; rfl
    rw [hU]
    rw [he] at HX
    clear h he hU
    generalize consL t = L at *
    unfold treeV at *
    go_enter Tryz.func12, Tryz.ntmps12
    go_wp2_with fail
    refine (HX.out _ X1.out).out.mono ?_
    rintro e w2 ⟨rfl, hx2⟩
    have X2 := hide (X1.out.trans hx2)
    have HB2 := hide (HB1.out.ext hx2)
    have c0 := HB2.out.c0
    have c1 := HB2.out.c1
    have c2 := HB2.out.c2
    have c3 := HB2.out.c3
    have c4 := HB2.out.c4
    clear hx2
    go_wp2_with fail
    refine (HC.out _ X2.out).out.mono ?_
    rintro e w3 ⟨⟨v3, rfl, hO3⟩, hB3⟩
    rw [List.nil_append] at hO3
    obtain ⟨A4, cp4, rfl, p1, p2, p3, -⟩ := Use.own hO3
    have P3 := hide p3
    have X3 := hide (X2.out.trans (Ext.of_below hB3 (Nat.le_refl _)))
    clear hO3 hB3 p3
    go_wp2
    go_ret
    exact ⟨⟨A4, cp4, rfl, p1, p2, P3.out⟩, X3.out⟩

/-- The names of uses, rising. -/
noncomputable def freeE (t : Tree) : List Str := ofL ((usesE t).map Use.name)
theorem usesE_len (t : Tree) : (usesE t).length ≤ t.size := by
  unfold usesE
  split
  · exact usesL_len t _
  · simp

set_option maxRecDepth 10000 in
set_option maxHeartbeats 2000000 in
theorem u_free (t : Tree) (w : World) (h : NodeIn w t) (hsz : t.size ≤ 9000) (htx : ∀ u ∈ usesE t, u.name.length ≤ 9223372036854775807) :
    Calls Tryz.prog 10 #[treeV t] w fun e w' => (∃ v, e = .returned v ∧ w'.ownsRow w.heap.size 9 1 v (freeE t).length ((freeE t).map encStr)) ∧ Ext w w' := by
  have X1 : Hid (Ext w (w.alloc (.cells #[.int .i64 t.kind, .int .i64 t.pos, .int .i64 t.n, encStr t.text, .slice t.A t.kids.length t.cap] 24))) := hide ((Ext.refl _).alloc _)
  have HB1 := hide (NBox.new w t)
  have HU := hide (fun w' (e : Ext w w') => hide (u_uses t w' (h.ext e) (by omega)))
  have hln := usesE_len t
  have HF : Hid (freeE t = ofL ((usesE t).map Use.name)) := hide rfl
  have Htx := hide htx
  clear h htx
  generalize freeE t = R at *
  generalize usesE t = L at *
  unfold treeV at *
  go_enter Tryz.func10, Tryz.ntmps10
  go_wp2_with fail
  refine (setl_new none 0 [] _ (Strs.nil _) (by simp) (by simp)).mono ?_
  rintro e w2 ⟨⟨s1, r1, n1, rfl, a1, a2, a3, hS1⟩, hx2⟩
  have S1 := hide hS1
  have X2 := hide (X1.out.trans hx2)
  have HB2 := hide (HB1.out.ext hx2)
  have c0 := HB2.out.c0
  have c1 := HB2.out.c1
  have c2 := HB2.out.c2
  have c3 := HB2.out.c3
  have c4 := HB2.out.c4
  simp only [World.size_alloc] at a1 a2
  clear hS1 hx2
  go_wp2_with fail
  refine (HU.out _ X2.out).out.mono ?_
  rintro e w3 ⟨⟨A3, cp3, rfl, p1, p2, hR3⟩, hx3⟩
  have S3 := hide (S1.out.ext hx3)
  have X3 := hide (X2.out.trans hx3)
  have R3 := hide hR3
  have e1 := S1.out.lts
  have e2 := S1.out.ltr
  have e3 := hx3.size
  clear hR3 hx3 S1
  go_wp2
  go_loopw [10] (fun iv wr => ∃ i m1 : Nat, i ≤ L.length ∧ iv = .int .i64 i ∧ m1 ≤ 10000 + i ∧ Hid (Ext w wr) ∧ w3.heap.size ≤ wr.heap.size ∧ Hid (SetL wr s1 r1 m1 (ofL ((L.take i).map Use.name))) ∧ Hid (Uses wr A3 L)) (fun iv _ => L.length - (intOf iv).toNat)
  case atStart => exact ⟨0, n1, Nat.zero_le _, rfl, by omega, X3, Nat.le_refl _, S3, R3⟩
  case round =>
    obtain ⟨i, m1, hi, rfl, hm1, HX, hsz4, T1, HR⟩ := hrel
    by_cases hlt : i < L.length
    · have hlt' : (i : Int) < (L.length : Int) := by omega
      have hi0 : (0 : Int) ≤ (i : Int) := by omega
      obtain ⟨b, o, rfl, hb, hc⟩ := RowOf.at_ useC HR.out hlt
      have q0 := hc 0 (by decide)
      have q1 := hc 1 (by decide)
      have hx := Htx.out _ (List.getElem_mem hlt)
      have HMt : Hid ((L.take (i + 1)).map Use.name = (L.take i).map Use.name ++ [(L[i]'hlt).name]) := hide (by rw [List.take_succ_eq_append_getElem hlt, List.map_append]; rfl)
      simp only [useC, List.getElem?_cons_zero, List.getElem?_cons_succ, Nat.add_zero] at q0 q1
      clear hc
      generalize L[i]'hlt = u at *
      generalize (L.take i).map Use.name = L1 at *
      have HA := hide (setl_add (T1.out.ext ((Ext.refl _).alloc (.cells #[encStr u.name, .int .i64 u.pos] 39))) u.name hx (by omega))
      have XA : Hid (Ext w (wr.alloc (.cells #[encStr u.name, .int .i64 u.pos] 39))) := hide (HX.out.alloc _)
      have HRa : Hid (Uses (wr.alloc (.cells #[encStr u.name, .int .i64 u.pos] 39)) (some ⟨b, o, none⟩) L) := hide (RowOf.ext useC HR.out ((Ext.refl _).alloc _))
      have hsA : (wr.alloc (.cells #[encStr u.name, .int .i64 u.pos] 39)).heap.size = wr.heap.size + 1 := by simp
      have HTa : Hid (SetL (wr.alloc (.cells #[encStr u.name, .int .i64 u.pos] 39)) s1 r1 m1 (ofL L1)) := hide (T1.out.ext ((Ext.refl _).alloc _))
      go_wp2_with fail
      refine HA.out.mono ?_
      rintro e w5 ⟨rfl, hS5, hg5⟩
      have S5 := hide hS5
      have X5 := hide (XA.out.grown hg5 (fun j hj => by injection hj with hj; omega))
      have R5 : Hid (Uses w5 (some ⟨b, o, none⟩) L) := hide (HTa.out.row hg5 useC.pos HRa.out)
      have hs5 := hg5.size
      clear hS5 hg5
      go_wp2
      go_roundw
      case rel => exact ⟨i + 1, m1 + 1, hlt, by go_num, by omega, X5, by omega, hide (by rw [HMt.out, ofL_snoc]; exact S5.out), R5⟩
      case measure => simp [intOf]; omega
    · have hge : ¬ (i : Int) < (L.length : Int) := by omega
      have hiL : L.take i = L := List.take_of_length_le (by omega)
      have HT2 : Hid (SetL wr s1 r1 m1 R) := hide (by rw [HF.out]; have := T1.out; rwa [hiL] at this)
      have HL := hide (setl_list HT2.out (by omega))
      have hsw := HX.out.size
      clear hiL
      go_wp2_with fail
      refine HL.out.mono ?_
      rintro e w6 ⟨⟨v6, rfl, hO6⟩, hx6⟩
      have O6 := hide hO6
      clear hO6
      go_wp2
      go_ret
      exact ⟨⟨v6, rfl, own_mono O6.out hsw⟩, HX.out.trans hx6⟩

end Go.Proofs.YtnbnhchgkbbiiaaGreat

/- What a lambda of a tree uses: the plain law. -/
namespace Go.Proofs.YtnbnhchgkbbiiaaGreat
open Go.RowKit Go.Sort

theorem bp_or (t : Tree) (q p : Str → Bool) : bp t (fun x => q x || p x) = fun x => q x || bp t p x := by
  unfold bp
  split
  · funext x; dsimp only; cases q x <;> simp
  · split
    · funext x; dsimp only; cases q x <;> simp
    · split
      · funext x; dsimp only; cases q x <;> simp
      · rfl
theorem uses_or (t : Tree) : ∀ q p : Str → Bool, usesL t (fun x => q x || p x) = (usesL t p).filter (fun u => !q u.name) := by
  induction t using Tree.ind with
  | h t ih =>
  intro q p
  rw [usesL_eq, usesL_eq, bp_or]
  split
  · rfl
  · rw [List.filter_append]
    congr 1
    · unfold ownU
      cases h1 : (t.kind == 21) <;> cases h2 : q t.text <;> cases h3 : p t.text <;> simp [h2, h3]
    · unfold usesesL
      rw [List.filter_flatten, List.map_map]
      congr 1
      refine List.map_congr_left (fun k hk => ?_)
      exact ih k (inner_mem hk) q (bp t p)
theorem uses_txt {w : World} {t : Tree} (h : NodeIn w t) : ∀ p, ∀ u ∈ usesL t p, u.name.length ≤ 9223372036854775807 := by
  revert h
  induction t using Tree.ind with
  | h t ih =>
  intro h p u hu
  rw [usesL_eq] at hu
  split at hu
  · cases hu
  · rcases List.mem_append.1 hu with hu | hu
    · unfold ownU at hu
      split at hu
      · rw [List.mem_singleton] at hu
        subst hu
        exact h.txt
      · cases hu
    · unfold usesesL at hu
      obtain ⟨_, hl, hu⟩ := List.mem_flatten.1 hu
      obtain ⟨k, hk, rfl⟩ := List.mem_map.1 hl
      exact ih k (inner_mem hk) (h.nodes.kids k (inner_mem hk)) _ u hu
theorem usesE_txt {w : World} {t : Tree} (h : NodeIn w t) : ∀ u ∈ usesE t, u.name.length ≤ 9223372036854775807 := by
  unfold usesE
  split
  · exact uses_txt h _
  · intro u hu; cases hu
/-- A lambda of one node. -/
def lamT (s : Str) (b : Nat) (t : Tree) : Tree := .mk 25 0 0 s (some ⟨b, 0, none⟩) 1 [t]
theorem lamT_in {w : World} {s : Str} {b : Nat} {t : Tree} (hs : s.length ≤ 9223372036854775807) (h : NodeIn w t) (hb : w.heap[b]? = some (.cells #[.int .i64 t.kind, .int .i64 t.pos, .int .i64 t.n, encStr t.text, .slice t.A t.kids.length t.cap] 24 (0, 0))) : NodeIn w (lamT s b t) := by
  refine NodeIn.mk (Nat.le_refl 1) (by show (1 : Nat) ≤ _; decide) hs (RowOf.block treeC [t] hb) (fun k hk => ?_)
  have hk2 : k ∈ [t] := hk
  rw [List.mem_singleton] at hk2
  subst hk2
  exact h
theorem lamT_size (s : Str) (b : Nat) (t : Tree) : (lamT s b t).size = t.size + 1 := by rw [Tree.size_eq]; simp [lamT, Tree.kids]
theorem lam_uses {s : Str} {b : Nat} {t : Tree} (h1 : isExpB t = true) (h2 : isExpB (lamT s b t) = true) : usesE (lamT s b t) = (usesE t).filter (fun u => !(s == u.name)) := by
  unfold usesE
  rw [if_pos h1, if_pos h2, usesL_eq]
  have e1 : bp (lamT s b t) (fun _ => false) = fun x => (s == x) || (fun _ => false) x := by
    unfold bp
    rw [if_pos (show (lamT s b t).kind = 25 from rfl)]
    funext x
    simp [lamT, Tree.text]
  rw [if_neg (by show ¬ (25 : Int) = 32; decide), e1]
  have e2 : ownU (lamT s b t) (fun _ => false) = [] := rfl
  have e3 : inner (lamT s b t) = [t] := rfl
  rw [e2, e3, List.nil_append]
  unfold usesesL
  simp only [List.map_cons, List.map_nil, List.flatten_cons, List.flatten_nil, List.append_nil]
  exact uses_or t (fun x => s == x) (fun _ => false)
theorem lam_free {s : Str} {b : Nat} {t : Tree} (h1 : isExpB t = true) (h2 : isExpB (lamT s b t) = true) : freeE (lamT s b t) = (freeE t).filter (fun x => !(x == s)) := by
  unfold freeE
  rw [lam_uses h1 h2]
  refine (ofL_rising _).ext ((ofL_rising _).sublist List.filter_sublist) (fun x => ?_)
  rw [ofL_mem, List.mem_filter, ofL_mem]
  simp only [List.mem_map, List.mem_filter, Bool.not_eq_true', beq_eq_false_iff_ne]
  constructor
  · rintro ⟨u, ⟨hu, hne⟩, rfl⟩
    exact ⟨⟨u, hu, rfl⟩, fun e => hne e.symm⟩
  · rintro ⟨⟨u, hu, rfl⟩, hne⟩
    exact ⟨u, ⟨hu, fun e => hne e.symm⟩, rfl⟩
theorem freeE_len (t : Tree) : (freeE t).length ≤ t.size := by
  unfold freeE
  have := ofL_len ((usesE t).map Use.name)
  rw [List.length_map] at this
  have := usesE_len t
  omega

end Go.Proofs.YtnbnhchgkbbiiaaGreat

/- Contracts on the reference's names. -/
namespace Go.Proofs.YtnbnhchgkbbiiaaGreat
open Go.RowKit

def digitI (z : Int) : Bool := decide (z ≥ 48) && decide (z ≤ 57)
theorem r_small03 (z : Int) (w : World) : Calls Tryz.prog 78 #[.int .u8 z] w fun e w' => e = .returned (.bool (smallI z)) ∧ w' = w := by
  have HR : Hid (smallI z = ((decide (z ≥ 97) && decide (z ≤ 122)) || z == 95)) := hide rfl
  generalize smallI z = R at *
  by_cases h1 : z ≥ 97
  · by_cases h2 : z ≤ 122
    · go_enter Tryz.func78, Tryz.ntmps78
      go_wp2
      go_ret
      exact ⟨by rw [HR.out]; simp [h1, h2], rfl⟩
    · by_cases h3 : z = 95
      · omega
      · go_enter Tryz.func78, Tryz.ntmps78
        go_wp2
        go_ret
        exact ⟨by rw [HR.out]; simp [h2, h3], rfl⟩
  · by_cases h3 : z = 95
    · go_enter Tryz.func78, Tryz.ntmps78
      go_wp2
      go_ret
      exact ⟨by rw [HR.out]; simp [h3]; try omega, rfl⟩
    · go_enter Tryz.func78, Tryz.ntmps78
      go_wp2
      go_ret
      exact ⟨by rw [HR.out]; simp [h3]; try omega, rfl⟩
theorem r_great03 (z : Int) (w : World) : Calls Tryz.prog 81 #[.int .u8 z] w fun e w' => e = .returned (.bool (greatI z)) ∧ w' = w := by
  have HR : Hid (greatI z = (decide (z ≥ 65) && decide (z ≤ 90))) := hide rfl
  generalize greatI z = R at *
  by_cases h1 : z ≥ 65
  · go_enter Tryz.func81, Tryz.ntmps81
    go_wp2
    go_ret
    exact ⟨by rw [HR.out]; simp [h1], rfl⟩
  · go_enter Tryz.func81, Tryz.ntmps81
    go_wp2
    go_ret
    exact ⟨by rw [HR.out]; simp; omega, rfl⟩
theorem r_digit03 (z : Int) (w : World) : Calls Tryz.prog 104 #[.int .u8 z] w fun e w' => e = .returned (.bool (digitI z)) ∧ w' = w := by
  have HR : Hid (digitI z = (decide (z ≥ 48) && decide (z ≤ 57))) := hide rfl
  generalize digitI z = R at *
  by_cases h1 : z ≥ 48
  · go_enter Tryz.func104, Tryz.ntmps104
    go_wp2
    go_ret
    exact ⟨by rw [HR.out]; simp [h1], rfl⟩
  · go_enter Tryz.func104, Tryz.ntmps104
    go_wp2
    go_ret
    exact ⟨by rw [HR.out]; simp; omega, rfl⟩

theorem r_On03 (z : Int) (w : World) : Calls Tryz.prog 90 #[.int .u8 z] w fun e w' => e = .returned (.bool (onI z)) ∧ w' = w := by
  have HR : Hid (onI z = (smallI z || greatI z || digitI z || z == 39)) := hide rfl
  have H1 := hide (r_small03 z w)
  have H2 := hide (r_great03 z w)
  have H3 := hide (r_digit03 z w)
  generalize onI z = R at *
  generalize smallI z = B1 at *
  generalize greatI z = B2 at *
  generalize digitI z = B3 at *
  cases B1
  · cases B2
    · cases B3
      · have hR : R = (z == 39) := by rw [HR.out]; rfl
        clear HR
        subst hR
        go_enter Tryz.func90, Tryz.ntmps90
        go_wp2_with fail
        refine H1.out.mono ?_
        rintro e w1 ⟨rfl, rfl⟩
        go_wp2_with fail
        refine H2.out.mono ?_
        rintro e w1 ⟨rfl, rfl⟩
        go_wp2_with fail
        refine H3.out.mono ?_
        rintro e w1 ⟨rfl, rfl⟩
        go_wp2
        go_ret
        exact ⟨rfl, rfl⟩
      · have hR : R = true := by rw [HR.out]; rfl
        clear HR
        subst hR
        go_enter Tryz.func90, Tryz.ntmps90
        go_wp2_with fail
        refine H1.out.mono ?_
        rintro e w1 ⟨rfl, rfl⟩
        go_wp2_with fail
        refine H2.out.mono ?_
        rintro e w1 ⟨rfl, rfl⟩
        go_wp2_with fail
        refine H3.out.mono ?_
        rintro e w1 ⟨rfl, rfl⟩
        go_wp2
        go_ret
        exact ⟨rfl, rfl⟩
    · have hR : R = true := by rw [HR.out]; rfl
      clear HR
      subst hR
      go_enter Tryz.func90, Tryz.ntmps90
      go_wp2_with fail
      refine H1.out.mono ?_
      rintro e w1 ⟨rfl, rfl⟩
      go_wp2_with fail
      refine H2.out.mono ?_
      rintro e w1 ⟨rfl, rfl⟩
      go_wp2
      go_ret
      exact ⟨rfl, rfl⟩
  · have hR : R = true := by rw [HR.out]; rfl
    clear HR
    subst hR
    go_enter Tryz.func90, Tryz.ntmps90
    go_wp2_with fail
    refine H1.out.mono ?_
    rintro e w1 ⟨rfl, rfl⟩
    go_wp2
    go_ret
    exact ⟨rfl, rfl⟩

/-- May all bytes but the first go on? -/
def onB (s : Str) : Bool := (s.drop 1).all fun b => onI (b.toNat : Nat)
set_option maxRecDepth 10000 in
set_option maxHeartbeats 1000000 in
theorem r_on03 (s : Str) (w : World) (hl : s.length ≤ 9223372036854775807) (h0 : 0 < s.length) : Calls Tryz.prog 79 #[encStr s] w fun e w' => e = .returned (.bool (onB s)) ∧ w' = w := by
  have HR : Hid ((s.drop 1).all (fun b => onI (b.toNat : Nat)) = onB s) := hide rfl
  generalize onB s = R at *
  go_enter Tryz.func79, Tryz.ntmps79
  go_wp2
  go_loop [3] (fun i => ∃ k : Nat, 1 ≤ k ∧ k ≤ s.length ∧ i = .int .i64 k ∧ Hid ((s.drop k).all (fun b => onI (b.toNat : Nat)) = R)) (fun i => s.length - (intOf i).toNat)
  case atStart => exact ⟨1, Nat.le_refl _, h0, rfl, HR⟩
  case round =>
    obtain ⟨k, hk1, hk, rfl, HK⟩ := hrel
    by_cases hlt : k < s.length
    · have hlt' : (k : Int) < (s.length : Int) := by omega
      have hk0 : (0 : Int) ≤ (k : Int) := by omega
      have Hb : Hid (s.drop k = s[k]'hlt :: s.drop (k + 1)) := hide (List.drop_eq_getElem_cons hlt)
      generalize hb2 : s[k]'hlt = b at *
      rw [Hb.out, List.all_cons] at HK
      have HN := hide (fun w' => r_On03 (b.toNat : Nat) w')
      generalize onI (b.toNat : Nat) = B1 at *
      cases B1
      · have hG : R = false := by have := HK.out; simpa using this.symm
        clear HK HR
        subst hG
        go_wp2_with fail
        refine (HN.out _).mono ?_
        rintro e w1 ⟨rfl, rfl⟩
        go_wp2
        go_ret
        exact ⟨rfl, rfl⟩
      · go_wp2_with fail
        refine (HN.out _).mono ?_
        rintro e w1 ⟨rfl, rfl⟩
        go_wp2
        go_round
        case rel => exact ⟨k + 1, by omega, hlt, by go_num, hide (by simpa using HK.out)⟩
        case measure => simp [intOf]; omega
    · have hge : (s.length : Int) ≤ (k : Int) := by omega
      have hG : R = true := by have := HK.out; rw [List.drop_eq_nil_of_le (by omega)] at this; exact this.symm
      clear HK HR
      subst hG
      go_wp2
      go_ret
      exact ⟨rfl, rfl⟩

end Go.Proofs.YtnbnhchgkbbiiaaGreat
