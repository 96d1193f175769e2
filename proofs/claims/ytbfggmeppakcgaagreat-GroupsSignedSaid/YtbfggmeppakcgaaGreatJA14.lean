/- Plain facts on rising lists of texts. No program in sight. -/
import Derived.Test.YtbfggmeppakcgaaGreatJA13
import Derived.Sort.Walk0
/- Plain facts on rising lists of texts. No program in sight. -/
namespace Go.Proofs.YtbfggmeppakcgaaGreat
open Go.RowKit Go.Sort

def lessB (a b : Str) : Bool := Op.bytesLess a b
/-- How many texts stand ahead of `x`. -/
def findN (l : List Str) (x : Str) : Nat := (l.takeWhile (lessB · x)).length
def findB (l : List Str) (x : Str) : Bool := decide (findN l x < l.length) && (l.getD (findN l x) [] == x)

theorem findN_le (l : List Str) (x : Str) : findN l x ≤ l.length := (List.takeWhile_sublist _).length_le
theorem findN_at : ∀ (l : List Str) (x : Str) (k : Nat), k ≤ l.length → (∀ i, i < k → lessB (l.getD i []) x = true) → (k < l.length → lessB (l.getD k []) x = false) → findN l x = k
  | [], x, k, hk, _, _ => by simp at hk; subst hk; rfl
  | y :: l, x, 0, _, _, h => by
    have : lessB y x = false := by simpa using h (by simp)
    simp [findN, this]
  | y :: l, x, k + 1, hk, h1, h2 => by
    have h0 : lessB y x = true := by simpa using h1 0 (by omega)
    have := findN_at l x k (by simpa using hk) (fun i hi => by simpa using h1 (i + 1) (by omega)) (fun hl => by simpa using h2 (by simpa using hl))
    unfold findN at this ⊢
    simp [h0, this]

/-- With a text. -/
def addL (l : List Str) (x : Str) : List Str := if findB l x then l else l.take (findN l x) ++ [x] ++ l.drop (findN l x)
/-- Without a text. -/
def remL (l : List Str) (x : Str) : List Str := if findB l x then l.take (findN l x) ++ l.drop (findN l x + 1) else l

theorem findB_lt {l : List Str} {x : Str} (h : findB l x = true) : findN l x < l.length := by
  unfold findB at h
  simp at h
  exact h.1

/-- Rising texts, each once. -/
abbrev Rising (l : List Str) : Prop := l.Pairwise (· < ·)
theorem slt_irrefl (a : Str) : ¬ a < a := List.lt_irrefl a
theorem slt_trans {a b c : Str} (h : a < b) (k : b < c) : a < c := List.lt_trans h k
theorem slt_total (a b : Str) : a < b ∨ a = b ∨ b < a := by
  by_cases h : a < b
  · exact .inl h
  · by_cases k : b < a
    · exact .inr (.inr k)
    · exact .inr (.inl (List.le_antisymm (List.not_lt.1 k) (List.not_lt.1 h)))
theorem Rising.nodup {l : List Str} (h : Rising l) : l.Nodup := List.Pairwise.imp (R := (· < ·)) (S := (· ≠ ·)) (fun {a b} (hab : a < b) (e : a = b) => slt_irrefl b (e ▸ hab)) h
theorem Rising.ext {l m : List Str} (hl : Rising l) (hm : Rising m) (h : ∀ x, x ∈ l ↔ x ∈ m) : l = m :=
  List.Perm.eq_of_pairwise (le := (· < ·)) (fun a _ _ _ h1 h2 => absurd (slt_trans h1 h2) (slt_irrefl a)) hl hm ((List.perm_ext_iff_of_nodup hl.nodup hm.nodup).2 h)
theorem lessB_eq (a b : Str) : lessB a b = decide (a < b) := bytesLess_eq a b

theorem find_parts (x : Str) : ∀ l : List Str, Rising l → ∃ p q, l = p ++ q ∧ findN l x = p.length ∧ (∀ y ∈ p, y < x) ∧ (∀ y ∈ q, x < y ∨ x = y) ∧ (findB l x = true ↔ q.head? = some x)
  | [], _ => ⟨[], [], rfl, rfl, by simp, by simp, by simp [findB]⟩
  | y :: l, h => by
    by_cases hy : y < x
    · obtain ⟨p, q, e, hn, hp, hq, hb⟩ := find_parts x l (List.pairwise_cons.1 h).2
      have hN : findN (y :: l) x = findN l x + 1 := by simp [findN, lessB_eq, hy]
      refine ⟨y :: p, q, by rw [e]; rfl, by rw [hN, hn]; rfl, ?_, hq, ?_⟩
      · intro z hz
        rcases List.mem_cons.1 hz with rfl | hz
        · exact hy
        · exact hp z hz
      · rw [← hb]
        unfold findB
        rw [hN]
        simp
    · have hN : findN (y :: l) x = 0 := by simp [findN, lessB_eq, hy]
      refine ⟨[], y :: l, rfl, by rw [hN]; rfl, by simp, ?_, ?_⟩
      · have hxy : x < y ∨ x = y := by
          rcases slt_total y x with h1 | h1 | h1
          · exact absurd h1 hy
          · exact .inr h1.symm
          · exact .inl h1
        intro z hz
        rcases List.mem_cons.1 hz with rfl | hz
        · exact hxy
        · have := (List.pairwise_cons.1 h).1 z hz
          rcases hxy with h1 | h1
          · exact .inl (slt_trans h1 this)
          · subst h1; exact .inl this
      · unfold findB
        rw [hN]
        simp

theorem mem_findB {l : List Str} (h : Rising l) (x : Str) : findB l x = true ↔ x ∈ l := by
  obtain ⟨p, q, e, hn, hp, hq, hb⟩ := find_parts x l h
  rw [hb, e]
  constructor
  · intro hh
    rcases q with _ | ⟨z, q⟩
    · cases hh
    · simp at hh; subst hh; simp
  · intro hh
    rcases List.mem_append.1 hh with h1 | h1
    · exact absurd (hp x h1) (slt_irrefl x)
    · rcases q with _ | ⟨z, q⟩
      · cases h1
      · rcases List.mem_cons.1 h1 with rfl | h2
        · rfl
        · rw [e] at h
          have h3 := (List.pairwise_cons.1 (List.pairwise_append.1 h).2.1).1 x h2
          rcases hq z (by simp) with h4 | h4
          · exact absurd (slt_trans h3 h4) (slt_irrefl z)
          · subst h4; exact absurd h3 (slt_irrefl x)
theorem findB_any {l : List Str} (h : Rising l) (x : Str) : findB l x = l.any (· == x) := by
  rw [Bool.eq_iff_iff, mem_findB h, List.any_eq_true]
  constructor
  · exact fun hx => ⟨x, hx, by simp⟩
  · rintro ⟨y, hy, e⟩
    simp at e; subst e; exact hy

theorem addL_mem {l : List Str} (h : Rising l) (x y : Str) : y ∈ addL l x ↔ y ∈ l ∨ y = x := by
  unfold addL
  split
  · rename_i hb
    have := (mem_findB h x).1 hb
    constructor
    · exact .inl
    · rintro (h1 | rfl)
      · exact h1
      · exact this
  · have e : l.take (findN l x) ++ l.drop (findN l x) = l := List.take_append_drop _ _
    constructor
    · intro hy
      simp only [List.mem_append, List.mem_singleton] at hy
      rcases hy with (h1 | h1) | h1
      · exact .inl (List.mem_of_mem_take h1)
      · exact .inr h1
      · exact .inl (List.mem_of_mem_drop h1)
    · rintro (h1 | rfl)
      · rw [← e] at h1
        rcases List.mem_append.1 h1 with h2 | h2
        · simp [h2]
        · simp [h2]
      · simp
theorem addL_rising {l : List Str} (h : Rising l) (x : Str) : Rising (addL l x) := by
  unfold addL
  split
  · exact h
  · rename_i hb
    obtain ⟨p, q, e, hn, hp, hq, hb'⟩ := find_parts x l h
    have hx : x ∉ l := fun hh => hb ((mem_findB h x).2 hh)
    rw [hn, e, List.take_left, List.drop_left]
    rw [e] at h hx
    obtain ⟨h1, h2, h3⟩ := List.pairwise_append.1 h
    have hq' : ∀ y ∈ q, x < y := fun y hy => by
      rcases hq y hy with h4 | h4
      · exact h4
      · subst h4; exact absurd (List.mem_append.2 (.inr hy)) hx
    refine List.pairwise_append.2 ⟨List.pairwise_append.2 ⟨h1, by simp, fun a ha b hb => ?_⟩, h2, fun a ha b hbq => ?_⟩
    · simp at hb; subst hb; exact hp a ha
    · rcases List.mem_append.1 ha with h4 | h4
      · exact h3 a h4 b hbq
      · simp at h4; subst h4; exact hq' b hbq
theorem remL_parts {l : List Str} (h : Rising l) (x : Str) : Rising (remL l x) ∧ ∀ y, y ∈ remL l x ↔ y ∈ l ∧ y ≠ x := by
  unfold remL
  split
  · rename_i hb
    obtain ⟨p, q, e, hn, hp, hq, hb'⟩ := find_parts x l h
    rcases q with _ | ⟨z, q⟩
    · have := hb'.1 hb; cases this
    · have hz := hb'.1 hb
      simp at hz
      subst hz
      rw [hn, e, List.take_left, show p ++ z :: q = (p ++ [z]) ++ q by simp, show p.length + 1 = (p ++ [z]).length by simp, List.drop_left]
      rw [e] at h
      obtain ⟨h1, h2, h3⟩ := List.pairwise_append.1 h
      obtain ⟨h4, h5⟩ := List.pairwise_cons.1 h2
      refine ⟨List.pairwise_append.2 ⟨h1, h5, fun a ha b hb => h3 a ha b (by simp [hb])⟩, fun y => ?_⟩
      simp only [List.mem_append, List.mem_singleton]
      constructor
      · rintro (h6 | h6)
        · exact ⟨.inl (.inl h6), fun e => by subst e; exact slt_irrefl _ (hp y h6)⟩
        · exact ⟨.inr h6, fun e => by subst e; exact slt_irrefl _ (h4 y h6)⟩
      · rintro ⟨(h6 | h6) | h6, h7⟩
        · exact .inl h6
        · exact absurd h6 h7
        · exact .inr h6
  · rename_i hb
    refine ⟨h, fun y => ⟨fun hy => ⟨hy, fun e => hb ((mem_findB h x).2 (e ▸ hy))⟩, fun hy => hy.1⟩⟩

/-- All of a list. -/
def ofL (l : List Str) : List Str := l.foldl addL []
theorem fold_parts : ∀ (l a : List Str), Rising a → Rising (l.foldl addL a) ∧ ∀ y, y ∈ l.foldl addL a ↔ y ∈ a ∨ y ∈ l
  | [], a, h => ⟨h, by simp⟩
  | x :: l, a, h => by
    obtain ⟨h1, h2⟩ := fold_parts l (addL a x) (addL_rising h x)
    refine ⟨h1, fun y => ?_⟩
    rw [List.foldl_cons, h2, addL_mem h, List.mem_cons]
    exact or_assoc
theorem ofL_rising (l : List Str) : Rising (ofL l) := (fold_parts l [] List.Pairwise.nil).1
theorem ofL_mem (l : List Str) (y : Str) : y ∈ ofL l ↔ y ∈ l := by
  have := (fold_parts l [] List.Pairwise.nil).2 y
  unfold ofL
  simpa using this
theorem ofL_same {l : List Str} (h : Rising l) : ofL l = l := (ofL_rising l).ext h (ofL_mem l)
theorem ofL_snoc (l : List Str) (x : Str) : ofL (l ++ [x]) = addL (ofL l) x := by simp [ofL, List.foldl_append]
theorem addL_len (l : List Str) (x : Str) : (addL l x).length ≤ l.length + 1 := by
  unfold addL
  split
  · omega
  · have := findN_le l x
    simp; omega
theorem remL_len (l : List Str) (x : Str) : (remL l x).length ≤ l.length := by
  unfold remL
  split
  · have := findN_le l x
    simp; omega
  · omega
theorem ofL_len (l : List Str) : (ofL l).length ≤ l.length := by
  have : ∀ (l a : List Str), (l.foldl addL a).length ≤ a.length + l.length := by
    intro l
    induction l with
    | nil => simp
    | cons x l ih => intro a; have := ih (addL a x); have := addL_len a x; simp at *; omega
  have := this l []
  unfold ofL
  simpa using this
/-- Those that another one does not have. -/
def minusL (l m : List Str) : List Str := l.filter fun x => !findB m x
theorem minusL_rising {l : List Str} (m : List Str) (h : Rising l) : Rising (minusL l m) := h.sublist List.filter_sublist
theorem minusL_mem {m : List Str} (l : List Str) (h : Rising m) (y : Str) : y ∈ minusL l m ↔ y ∈ l ∧ y ∉ m := by
  unfold minusL
  rw [List.mem_filter]
  have := mem_findB h y
  cases hb : findB m y
  · rw [hb] at this; simp at this; simp [this]
  · rw [hb] at this; simp at this; simp [this]
theorem minusL_snoc (l m : List Str) (x : Str) : minusL (l ++ [x]) m = minusL l m ++ if findB m x then [] else [x] := by
  unfold minusL
  rw [List.filter_append]
  cases hb : findB m x <;> simp [hb]
theorem minusL_len (l m : List Str) : (minusL l m).length ≤ l.length := List.length_filter_le _ _

end Go.Proofs.YtbfggmeppakcgaaGreat

/- The program's sets as rising lists: all methods, of a set or of none. -/
namespace Go.Proofs.YtbfggmeppakcgaaGreat
open Go.RowKit Go.Sort Go.Maps

theorem SetAt.sorted {w : World} {s r n : Nat} {D : SD} (h : SetAt w s r n D) : Rising (sortedD D) ∧ ∀ x, x ∈ sortedD D ↔ mem D x = true := by
  obtain ⟨es, hD, hpw, _⟩ := h.own.entries key_law
  obtain ⟨es', hD', hko⟩ := h.own.keysOf
  obtain rfl : es = es' := by rw [hD] at hD'; simpa using hD'
  subst hD
  have hk : ∀ p ∈ es, ∃ x, p.1 = .string x := fun p hp => by obtain ⟨v, hv⟩ := hko p hp; obtain ⟨x, _, hx, _⟩ := Maps.keyOf_str Tryz.underlying9 hv; exact ⟨x, hx⟩
  have hnd : (es.map fun p => strOf p.1).Nodup := by
    refine List.pairwise_map.2 (hpw.imp_of_mem fun {p q} hp' hq' hne e => hne ?_)
    obtain ⟨a, ha⟩ := hk p hp'
    obtain ⟨b, hb⟩ := hk q hq'
    rw [ha, hb] at e ⊢
    exact congrArg _ e
  have hm : ∀ x, x ∈ (es.map fun p => strOf p.1) ↔ has (.map es : SD) (.string x) = true := by
    intro x
    rw [has_eq, List.any_eq_true, List.mem_map]
    constructor
    · rintro ⟨p, hp', rfl⟩
      obtain ⟨a, ha⟩ := hk p hp'
      exact ⟨p, hp', by rw [ha]; simp [Lit.sameKey, strOf]⟩
    · rintro ⟨p, hp', hs⟩
      obtain ⟨a, ha⟩ := hk p hp'
      rw [ha] at hs
      exact ⟨p, hp', by rw [ha]; simpa [Lit.sameKey, strOf] using hs⟩
  have tr : ∀ a b c : Str, leB a b = true → leB b c = true → leB a c = true := fun a b c h1 h2 => by simp only [leB, decide_eq_true_eq] at *; exact List.le_trans h1 h2
  have tot : ∀ a b : Str, (leB a b || leB b a) = true := fun a b => by simp only [leB, Bool.or_eq_true, decide_eq_true_eq]; exact List.le_total a b
  have hp := List.mergeSort_perm (es.map fun p => strOf p.1) leB
  refine ⟨?_, fun x => (hp.mem_iff).trans (hm x)⟩
  have h1 := List.pairwise_mergeSort tr tot (es.map fun p => strOf p.1)
  have h2 : ((es.map fun p => strOf p.1).mergeSort leB).Nodup := hp.nodup_iff.2 hnd
  refine (List.Pairwise.and h1 h2).imp ?_
  rintro a b ⟨h3, h4⟩
  simp only [leB, decide_eq_true_eq] at h3
  rcases slt_total a b with h5 | h5 | h5
  · exact h5
  · exact absurd h5 h4
  · exact absurd h5 (List.not_lt.2 h3)

/-- A set in memory, as the list of its texts. -/
def SetL (w : World) (s r n : Nat) (L : List Str) : Prop := ∃ D, SetAt w s r n D ∧ sortedD D = L

section
variable {w w' : World} {s r n : Nat} {L M : List Str}
theorem SetL.rising (h : SetL w s r n L) : Rising L := by obtain ⟨D, h, rfl⟩ := h; exact h.sorted.1
theorem SetL.ext (h : SetL w s r n L) (e : Ext w w') : SetL w' s r n L := by obtain ⟨D, h, hL⟩ := h; exact ⟨D, h.ext e, hL⟩
theorem SetL.grown (h : SetL w s r n L) {row : Option Nat} (g : w.grownBy w' row) (h1 : row ≠ some s) (h2 : row ≠ some r) : SetL w' s r n L := by obtain ⟨D, h, hL⟩ := h; exact ⟨D, h.grown g h1 h2, hL⟩
theorem SetL.lts (h : SetL w s r n L) : s < w.heap.size := by obtain ⟨D, h, _⟩ := h; exact h.lts
theorem SetL.ltr (h : SetL w s r n L) : r < w.heap.size := by obtain ⟨D, h, _⟩ := h; exact h.ltr
theorem SetL.len_le (h : SetL w s r n L) : L.length ≤ n := by obtain ⟨D, h, rfl⟩ := h; rw [sorted_len h]; exact h.size_le
/-- A row is in another block than a set's map. -/
theorem SetL.row (h : SetL w s r n L) (g : w.grownBy w' (some r)) {A : Option Addr} {k m : Nat} {xs : List Value} (hk : 0 < k) (hr : Row w A k m xs) : Row w' A k m xs := by
  obtain ⟨D, h, _⟩ := h
  rcases Nat.eq_zero_or_pos m with h0 | h0
  · exact ⟨hr.1, fun hm => absurd hm (by omega)⟩
  · refine hr.keep g.size fun b o e hb => g.block b hb fun hbr => ?_
    injection hbr with hbr
    subst hbr
    obtain ⟨b', o', e', _, hc⟩ := hr.2 h0
    rw [e] at e'
    injection e' with e'
    injection e' with e1 e2
    subst e1 e2
    have hl : 0 < xs.length := by rw [hr.1]; exact Nat.mul_pos h0 hk
    have := hc 0 _ (List.getElem?_eq_getElem hl)
    obtain ⟨es, clock, hbk, _⟩ := h.own
    simp [World.cell?, hbk] at this
end

theorem sorted_ofD {w : World} {s r n : Nat} {l : List Str} (h : SetAt w s r n (ofD l)) : sortedD (ofD l) = ofL l :=
  h.sorted.1.ext (ofL_rising l) fun x => by rw [h.sorted.2, ofL_mem, (ofD_map l).2.2, List.any_eq_true]; simp
theorem mem_findB_set {w : World} {s r n : Nat} {D : SD} (h : SetAt w s r n D) (x : Str) : mem D x = findB (sortedD D) x := by
  rw [Bool.eq_iff_iff, mem_findB h.sorted.1, h.sorted.2]
theorem sorted_add {w w' : World} {s r n s' r' n' : Nat} {D : SD} {x : Str} (h : SetAt w s r n D) (h' : SetAt w' s' r' n' (if mem D x then D else D.put (.string x) oneD)) :
    sortedD (if mem D x then D else D.put (.string x) oneD) = addL (sortedD D) x :=
  h'.sorted.1.ext (addL_rising h.sorted.1 x) fun y => by
    rw [h'.sorted.2, addL_mem h.sorted.1, h.sorted.2]
    cases hm : mem D x
    · simp only [Bool.false_eq_true, ↓reduceIte]
      rw [mem_put D h.tidy.isMap]; simp
    · simp only [↓reduceIte]
      constructor
      · exact .inl
      · rintro (h1 | rfl)
        · exact h1
        · exact hm
/-! ### Contracts on sets as lists -/
theorem setl_has {w : World} {s r n : Nat} {L : List Str} (h : SetL w s r n L) (x : Str) (hx : x.length ≤ 9223372036854775807) :
    Calls Tryz.prog 16 #[.pointer (some ⟨s, 0, none⟩), encStr x] w fun e w' => e = .returned (.bool (findB L x)) ∧ w' = w := by
  obtain ⟨D, h, rfl⟩ := h
  rw [← mem_findB_set h]
  exact set_has h x hx
theorem setl_add {w : World} {s r n : Nat} {L : List Str} (h : SetL w s r n L) (x : Str) (hx : x.length ≤ 9223372036854775807) (hn : n < 100000) :
    Calls Tryz.prog 30 #[.pointer (some ⟨s, 0, none⟩), encStr x] w fun e w' => e = .returned (.bool (!findB L x)) ∧ SetL w' s r (n + 1) (addL L x) ∧ w.grownBy w' (some r) := by
  obtain ⟨D, h, rfl⟩ := h
  rw [← mem_findB_set h]
  exact (set_add h x hx hn).mono fun e w' ⟨h1, h2, h3⟩ => ⟨h1, ⟨_, h2, sorted_add h h2⟩, h3⟩
theorem setl_len {w : World} {s r n : Nat} {L : List Str} (h : SetL w s r n L) :
    Calls Tryz.prog 40 #[.pointer (some ⟨s, 0, none⟩)] w fun e w' => e = .returned (.int .i64 L.length) ∧ w' = w := by
  obtain ⟨D, h, rfl⟩ := h
  rw [sorted_len h]
  exact set_len h
theorem setl_list {w : World} {s r n : Nat} {L : List Str} (h : SetL w s r n L) (hn : n ≤ 100000) :
    Calls Tryz.prog 31 #[.pointer (some ⟨s, 0, none⟩)] w fun e w' => (∃ v, e = .returned v ∧ w'.ownsRow w.heap.size 9 1 v L.length (L.map encStr)) ∧ Ext w w' := by
  obtain ⟨D, h, rfl⟩ := h
  exact set_list_own h hn
theorem setl_new (A : Option Addr) (cap : Nat) (l : List Str) (w : World) (h : Strs w A l) (hs : ∀ x ∈ l, x.length ≤ 9223372036854775807) (hn : l.length ≤ 10000) :
    Calls Tryz.prog 20 #[.slice A l.length cap] w fun e w' => (∃ s r n, e = .returned (.pointer (some ⟨s, 0, none⟩)) ∧ w.heap.size ≤ s ∧ w.heap.size ≤ r ∧ n ≤ 10000 ∧ SetL w' s r n (ofL l)) ∧ Ext w w' :=
  (set_new A cap l w h hs hn).mono fun _ _ ⟨⟨s, r, n, h1, h2, h3, h4, h5⟩, h6⟩ => ⟨⟨s, r, n, h1, h2, h3, h4, _, h5, sorted_ofD h5⟩, h6⟩

/-- A set's pointer, or none. -/
def SetO (w : World) (v : Value) (L : List Str) : Prop := (v = .pointer none ∧ L = []) ∨ ∃ s r n, v = .pointer (some ⟨s, 0, none⟩) ∧ n ≤ 20000 ∧ SetL w s r n L
theorem SetO.ext {w w' : World} {v : Value} {L : List Str} (h : SetO w v L) (e : Ext w w') : SetO w' v L := by
  rcases h with h | ⟨s, r, n, h1, h2, h3⟩
  · exact .inl h
  · exact .inr ⟨s, r, n, h1, h2, h3.ext e⟩
theorem SetO.rising {w : World} {v : Value} {L : List Str} (h : SetO w v L) : Rising L := by
  rcases h with ⟨_, rfl⟩ | ⟨s, r, n, h1, h2, h3⟩
  · exact List.Pairwise.nil
  · exact h3.rising
theorem seto_has {w : World} {v : Value} {L : List Str} (h : SetO w v L) (x : Str) (hx : x.length ≤ 9223372036854775807) :
    Calls Tryz.prog 16 #[v, encStr x] w fun e w' => e = .returned (.bool (findB L x)) ∧ w' = w := by
  rcases h with ⟨rfl, rfl⟩ | ⟨s, r, n, rfl, h2, h3⟩
  · exact none_has x w
  · exact setl_has h3 x hx
theorem seto_len {w : World} {v : Value} {L : List Str} (h : SetO w v L) : Calls Tryz.prog 40 #[v] w fun e w' => e = .returned (.int .i64 L.length) ∧ w' = w := by
  rcases h with ⟨rfl, rfl⟩ | ⟨s, r, n, rfl, h2, h3⟩
  · exact none_len w
  · exact setl_len h3
theorem seto_list {w : World} {v : Value} {L : List Str} (h : SetO w v L) :
    Calls Tryz.prog 31 #[v] w fun e w' => (∃ v, e = .returned v ∧ w'.ownsRow w.heap.size 9 1 v L.length (L.map encStr)) ∧ Ext w w' := by
  rcases h with ⟨rfl, rfl⟩ | ⟨s, r, n, rfl, h2, h3⟩
  · exact (none_list w).mono fun _ _ ⟨h1, h2⟩ => by subst h2; exact ⟨⟨_, h1, World.ownsRow_nil _ _ _ _⟩, Ext.refl _⟩
  · exact setl_list h3 (by omega)

end Go.Proofs.YtbfggmeppakcgaaGreat


/- Contracts: the names that a tree uses, its constructors. -/
namespace Go.Proofs.YtbfggmeppakcgaaGreat
open Go.RowKit Go.Sort

set_option maxRecDepth 10000 in
set_option maxHeartbeats 1000000 in
theorem u_walk_sig (t : Tree) (h21 : (t.kind == 21) = false) (h25 : (t.kind == 25) = false) (h26 : (t.kind == 26) = false) (h15 : (t.kind == 15) = false) (h32 : (t.kind == 32) = true) : WalksT t := by
  intro w0 w c base v fv us p h hB hw0 hO hA hok hsz
  obtain ⟨f, lb, rfl, eg, hA2⟩ := id hA
  have HU : Hid (us ++ usesL t p = us) := hide (by rw [usesL_eq, if_pos (by simpa using h32)]; simp)
  have HO := hide hO
  clear hA hA2 h hB hO hok
  unfold treeV
  go_enter Tryz.func37, Tryz.ntmps37
  go_wp2
  ((try simp only [Exit.inBlock, Exit.then]); refine bodyPost_ret (results_none rfl _ _ _) rfl ?_)
  exact ⟨rfl, v, by rw [HU.out]; exact HO.out.ext (by repeat (first | exact Ext.refl _ | exact Ext.pre (by simp) | exact Ext.alloc (by assumption) _ | refine Ext.alloc ?_ _ |  refine Ext.more ?_ _ _ | refine Ext.drew ?_ | refine Ext.drewN ?_ _)), Tr.of_ext (by repeat (first | exact Ext.refl _ | exact Ext.pre (by simp) | exact Ext.alloc (by assumption) _ | refine Ext.alloc ?_ _ |  refine Ext.more ?_ _ _ | refine Ext.drew ?_ | refine Ext.drewN ?_ _))⟩

theorem u_walk (t : Tree) : WalksT t := by
  induction t using Tree.ind with
  | h t ih =>
  have no : ∀ n m : Int, n ≠ m → t.kind = n → (t.kind == m) = false := fun n m hnm e => by rw [e]; simpa using hnm
  by_cases h1 : t.kind = 21
  · exact u_walk_var t ih (by simpa using h1) (no _ _ (by decide) h1) (no _ _ (by decide) h1) (no _ _ (by decide) h1) (no _ _ (by decide) h1)
  by_cases h2 : t.kind = 25
  · exact u_walk_lam t ih (no _ _ (by decide) h2) (by simpa using h2) (no _ _ (by decide) h2) (no _ _ (by decide) h2) (no _ _ (by decide) h2)
  by_cases h3 : t.kind = 26
  · exact u_walk_let t ih (no _ _ (by decide) h3) (no _ _ (by decide) h3) (by simpa using h3) (no _ _ (by decide) h3) (no _ _ (by decide) h3)
  by_cases h4 : t.kind = 15
  · exact u_walk_alt t ih (no _ _ (by decide) h4) (no _ _ (by decide) h4) (no _ _ (by decide) h4) (by simpa using h4) (no _ _ (by decide) h4)
  by_cases h5 : t.kind = 32
  · exact u_walk_sig t (no _ _ (by decide) h5) (no _ _ (by decide) h5) (no _ _ (by decide) h5) (no _ _ (by decide) h5) (by simpa using h5)
  exact u_walk_else t ih (by simpa using h1) (by simpa using h2) (by simpa using h3) (by simpa using h4) (by simpa using h5)

/-- What a tree uses. -/
noncomputable def usesE (t : Tree) : List Use := if isExpB t then usesL t (fun _ => false) else []
noncomputable def consE (t : Tree) : List Use := if isExpB t then consL t else []

set_option maxRecDepth 10000 in
set_option maxHeartbeats 1000000 in
theorem u_uses (t : Tree) (w : World) (h : NodeIn w t) (hsz : t.size ≤ 90000) :
    Calls Tryz.prog 29 #[treeV t] w fun e w' => (∃ A cap, e = .returned (.slice A (usesE t).length cap) ∧ (usesE t).length ≤ cap ∧ cap ≤ 9223372036854775807 ∧ Uses w' A (usesE t)) ∧ Ext w w' := by
  have HX := hide (fun w' (e : Ext w w') => hide (n_exp t w' (h.ext e) (by omega)))
  have Hh := hide h
  have X1 : Hid (Ext w (w.alloc (.cells #[.int .i64 t.kind, .int .i64 t.pos, .int .i64 t.n, encStr t.text, .slice t.A t.kids.length t.cap] 28))) := hide ((Ext.refl _).alloc _)
  have HB1 := hide (NBox.new w t)
  have HW := hide (u_walk t)
  cases he : isExpB t
  · have hU : usesE t = [] := by unfold usesE; rw [he]; rfl
    rw [hU]
    rw [he] at HX
    clear h he hU HW
    unfold treeV at *
    go_enter Tryz.func29, Tryz.ntmps29
    go_wp2_with fail
    refine (HX.out _ X1.out).out.mono ?_
    rintro e w2 ⟨rfl, hx2⟩
    go_wp2
    go_ret
    exact ⟨⟨none, 0, rfl, Nat.le_refl _, by omega, RowOf.nil _ _ _⟩, X1.out.trans hx2⟩
  · have hU : usesE t = usesL t (fun _ => false) := by unfold usesE; rw [he]; rfl
    have hok : walkOk t := by
      unfold isExpB at he
      rw [Bool.and_eq_true] at he
      exact expB_walk he.2
    have HOk := hide hok
    rw [hU]
    rw [he] at HX
    clear h he hU hok
    unfold WalksT at HW
    generalize hL : usesL t (fun _ => false) = L at *
    have HL := hide hL
    clear hL
    unfold treeV at *
    go_enter Tryz.func29, Tryz.ntmps29
    go_wp2_with fail
    refine (HX.out _ X1.out).out.mono ?_
    rintro e w2 ⟨rfl, hx2⟩
    have X2 := hide (X1.out.trans hx2)
    have HB2 := hide (HB1.out.ext hx2)
    have c0 := HB2.out.c0
    have c1 := HB2.out.c1
    have c2 := HB2.out.c2
    have c3 := HB2.out.c3
    have c4 := HB2.out.c4
    have hlt := HB2.out.lt
    clear hx2
    have OS : Hid (OutAt w2.heap.size (w2.heap.size + 1) (w2.alloc (.cells #[.slice none 0 0] 69)) (.slice none 0 0) []) := hide ⟨at_newB _ _ _ rfl, World.ownsRow_nil _ _ _ _, by omega, by simp⟩
    have X3 : Hid (Ext w (w2.alloc (.cells #[.slice none 0 0] 69))) := hide (X2.out.alloc _)
    go_wp2_with fail
    refine (HW.out w (w2.alloc (.cells #[.slice none 0 0] 69)) w2.heap.size (w2.heap.size + 1) (.slice none 0 0) (.func (.func 38) #[] #[]) [] (fun _ => false) Hh.out X3.out.below X2.out.size OS.out (none_asks _ _ _ uuses1_opens) HOk.out (by simp; omega)).mono ?_
    rintro e w4 ⟨rfl, v4, hO4, hT4⟩
    rw [List.nil_append, HL.out] at hO4
    obtain ⟨A4, cp4, rfl, p1, p2, p3, -⟩ := Use.own hO4.own
    have hc4 : w4.cell? ⟨w2.heap.size, 0, none⟩ = some (.slice A4 L.length cp4) := by simp [World.cell?, hO4.cell]
    have HX4 : Hid (Ext w w4) := hide (X2.out.trans (Ext.of_below (((Below.refl _ w2).alloc (Nat.le_refl _) _).trans (hT4.below (B := w2.heap.size) (by simp) (Nat.le_refl _) (fun k hk => by cases hk))) (Nat.le_refl _)))
    have P3 := hide p3
    clear hO4 hT4 p3
    go_wp2
    go_ret
    exact ⟨⟨A4, cp4, rfl, p1, p2, P3.out⟩, HX4.out⟩


/-- The names of uses, rising. -/
noncomputable def freeE (t : Tree) : List Str := ofL ((usesE t).map Use.name)
theorem usesE_len (t : Tree) : (usesE t).length ≤ t.size := by
  unfold usesE
  split
  · exact usesL_len t _
  · simp

set_option maxRecDepth 10000 in
set_option maxHeartbeats 2000000 in
theorem u_free (t : Tree) (w : World) (h : NodeIn w t) (hsz : t.size ≤ 9000) (htx : ∀ u ∈ usesE t, u.name.length ≤ 9223372036854775807) :
    Calls Tryz.prog 21 #[treeV t] w fun e w' => (∃ v, e = .returned v ∧ w'.ownsRow w.heap.size 9 1 v (freeE t).length ((freeE t).map encStr)) ∧ Ext w w' := by
  have X1 : Hid (Ext w (w.alloc (.cells #[.int .i64 t.kind, .int .i64 t.pos, .int .i64 t.n, encStr t.text, .slice t.A t.kids.length t.cap] 28))) := hide ((Ext.refl _).alloc _)
  have HB1 := hide (NBox.new w t)
  have HU := hide (fun w' (e : Ext w w') => hide (u_uses t w' (h.ext e) (by omega)))
  have hln := usesE_len t
  have HF : Hid (freeE t = ofL ((usesE t).map Use.name)) := hide rfl
  have Htx := hide htx
  clear h htx
  generalize freeE t = R at *
  generalize usesE t = L at *
  unfold treeV at *
  go_enter Tryz.func21, Tryz.ntmps21
  go_wp2_with fail
  refine (setl_new none 0 [] _ (Strs.nil _) (by simp) (by simp)).mono ?_
  rintro e w2 ⟨⟨s1, r1, n1, rfl, a1, a2, a3, hS1⟩, hx2⟩
  have S1 := hide hS1
  have X2 := hide (X1.out.trans hx2)
  have HB2 := hide (HB1.out.ext hx2)
  have c0 := HB2.out.c0
  have c1 := HB2.out.c1
  have c2 := HB2.out.c2
  have c3 := HB2.out.c3
  have c4 := HB2.out.c4
  simp only [World.size_alloc] at a1 a2
  clear hS1 hx2
  go_wp2_with fail
  refine (HU.out _ X2.out).out.mono ?_
  rintro e w3 ⟨⟨A3, cp3, rfl, p1, p2, hR3⟩, hx3⟩
  have S3 := hide (S1.out.ext hx3)
  have X3 := hide (X2.out.trans hx3)
  have R3 := hide hR3
  have e1 := S1.out.lts
  have e2 := S1.out.ltr
  have e3 := hx3.size
  clear hR3 hx3 S1
  go_wp2
  go_loopw [10] (fun iv wr => ∃ i m1 : Nat, i ≤ L.length ∧ iv = .int .i64 i ∧ m1 ≤ 10000 + i ∧ Hid (Ext w wr) ∧ w3.heap.size ≤ wr.heap.size ∧ Hid (SetL wr s1 r1 m1 (ofL ((L.take i).map Use.name))) ∧ Hid (Uses wr A3 L)) (fun iv _ => L.length - (intOf iv).toNat)
  case atStart => exact ⟨0, n1, Nat.zero_le _, rfl, by omega, X3, Nat.le_refl _, S3, R3⟩
  case round =>
    obtain ⟨i, m1, hi, rfl, hm1, HX, hsz4, T1, HR⟩ := hrel
    by_cases hlt : i < L.length
    · have hlt' : (i : Int) < (L.length : Int) := by omega
      have hi0 : (0 : Int) ≤ (i : Int) := by omega
      obtain ⟨b, o, rfl, hb, hc⟩ := RowOf.at_ useC HR.out hlt
      have q0 := hc 0 (by decide)
      have q1 := hc 1 (by decide)
      have hx := Htx.out _ (List.getElem_mem hlt)
      have HMt : Hid ((L.take (i + 1)).map Use.name = (L.take i).map Use.name ++ [(L[i]'hlt).name]) := hide (by rw [List.take_succ_eq_append_getElem hlt, List.map_append]; rfl)
      simp only [useC, List.getElem?_cons_zero, List.getElem?_cons_succ, Nat.add_zero] at q0 q1
      clear hc
      generalize L[i]'hlt = u at *
      generalize (L.take i).map Use.name = L1 at *
      have HA := hide (setl_add (T1.out.ext ((Ext.refl _).alloc (.cells #[encStr u.name, .int .i64 u.pos] 72))) u.name hx (by omega))
      have XA : Hid (Ext w (wr.alloc (.cells #[encStr u.name, .int .i64 u.pos] 72))) := hide (HX.out.alloc _)
      have HRa : Hid (Uses (wr.alloc (.cells #[encStr u.name, .int .i64 u.pos] 72)) (some ⟨b, o, none⟩) L) := hide (RowOf.ext useC HR.out ((Ext.refl _).alloc _))
      have hsA : (wr.alloc (.cells #[encStr u.name, .int .i64 u.pos] 72)).heap.size = wr.heap.size + 1 := by simp
      have HTa : Hid (SetL (wr.alloc (.cells #[encStr u.name, .int .i64 u.pos] 72)) s1 r1 m1 (ofL L1)) := hide (T1.out.ext ((Ext.refl _).alloc _))
      go_wp2_with fail
      refine HA.out.mono ?_
      rintro e w5 ⟨rfl, hS5, hg5⟩
      have S5 := hide hS5
      have X5 := hide (XA.out.grown hg5 (fun j hj => by injection hj with hj; omega))
      have R5 : Hid (Uses w5 (some ⟨b, o, none⟩) L) := hide (HTa.out.row hg5 useC.pos HRa.out)
      have hs5 := hg5.size
      clear hS5 hg5
      go_wp2
      go_roundw
      case rel => exact ⟨i + 1, m1 + 1, hlt, by go_num, by omega, X5, by omega, hide (by rw [HMt.out, ofL_snoc]; exact S5.out), R5⟩
      case measure => simp [intOf]; omega
    · have hge : ¬ (i : Int) < (L.length : Int) := by omega
      have hiL : L.take i = L := List.take_of_length_le (by omega)
      have HT2 : Hid (SetL wr s1 r1 m1 R) := hide (by rw [HF.out]; have := T1.out; rwa [hiL] at this)
      have HL := hide (setl_list HT2.out (by omega))
      have hsw := HX.out.size
      clear hiL
      go_wp2_with fail
      refine HL.out.mono ?_
      rintro e w6 ⟨⟨v6, rfl, hO6⟩, hx6⟩
      have O6 := hide hO6
      clear hO6
      go_wp2
      go_ret
      exact ⟨⟨v6, rfl, own_monoS O6.out hsw⟩, HX.out.trans hx6⟩

end Go.Proofs.YtbfggmeppakcgaaGreat

/- What a lambda of a tree uses: the plain law. -/
namespace Go.Proofs.YtbfggmeppakcgaaGreat
open Go.RowKit Go.Sort

theorem bp_or (t : Tree) (q p : Str → Bool) : bp t (fun x => q x || p x) = fun x => q x || bp t p x := by
  unfold bp
  split
  · funext x; dsimp only; cases q x <;> simp
  · split
    · funext x; dsimp only; cases q x <;> simp
    · split
      · funext x; dsimp only; cases q x <;> simp
      · rfl
theorem uses_or (t : Tree) : ∀ q p : Str → Bool, usesL t (fun x => q x || p x) = (usesL t p).filter (fun u => !q u.name) := by
  induction t using Tree.ind with
  | h t ih =>
  intro q p
  rw [usesL_eq, usesL_eq, bp_or]
  split
  · rfl
  · rw [List.filter_append]
    congr 1
    · unfold ownU
      cases h1 : (t.kind == 21) <;> cases h2 : q t.text <;> cases h3 : p t.text <;> simp [h2, h3]
    · unfold usesesL
      rw [List.filter_flatten, List.map_map]
      congr 1
      refine List.map_congr_left (fun k hk => ?_)
      exact ih k (inner_mem hk) q (bp t p)
theorem uses_txt {w : World} {t : Tree} (h : NodeIn w t) : ∀ p, ∀ u ∈ usesL t p, u.name.length ≤ 9223372036854775807 := by
  revert h
  induction t using Tree.ind with
  | h t ih =>
  intro h p u hu
  rw [usesL_eq] at hu
  split at hu
  · cases hu
  · rcases List.mem_append.1 hu with hu | hu
    · unfold ownU at hu
      split at hu
      · rw [List.mem_singleton] at hu
        subst hu
        exact h.txt
      · cases hu
    · unfold usesesL at hu
      obtain ⟨_, hl, hu⟩ := List.mem_flatten.1 hu
      obtain ⟨k, hk, rfl⟩ := List.mem_map.1 hl
      exact ih k (inner_mem hk) (h.nodes.kids k (inner_mem hk)) _ u hu
theorem usesE_txt {w : World} {t : Tree} (h : NodeIn w t) : ∀ u ∈ usesE t, u.name.length ≤ 9223372036854775807 := by
  unfold usesE
  split
  · exact uses_txt h _
  · intro u hu; cases hu
/-- A lambda of one node. -/
def lamT (s : Str) (b : Nat) (t : Tree) : Tree := .mk 25 0 0 s (some ⟨b, 0, none⟩) 1 [t]
theorem lamT_in {w : World} {s : Str} {b : Nat} {t : Tree} (hs : s.length ≤ 9223372036854775807) (h : NodeIn w t) (hb : w.heap[b]? = some (.cells #[.int .i64 t.kind, .int .i64 t.pos, .int .i64 t.n, encStr t.text, .slice t.A t.kids.length t.cap] 28 (0, 0))) : NodeIn w (lamT s b t) := by
  refine NodeIn.mk (Nat.le_refl 1) (by show (1 : Nat) ≤ _; decide) hs (RowOf.block treeC [t] hb) (fun k hk => ?_)
  have hk2 : k ∈ [t] := hk
  rw [List.mem_singleton] at hk2
  subst hk2
  exact h
theorem lamT_size (s : Str) (b : Nat) (t : Tree) : (lamT s b t).size = t.size + 1 := by rw [Tree.size_eq]; simp [lamT, Tree.kids]
theorem lam_uses {s : Str} {b : Nat} {t : Tree} (h1 : isExpB t = true) (h2 : isExpB (lamT s b t) = true) : usesE (lamT s b t) = (usesE t).filter (fun u => !(s == u.name)) := by
  unfold usesE
  rw [if_pos h1, if_pos h2, usesL_eq]
  have e1 : bp (lamT s b t) (fun _ => false) = fun x => (s == x) || (fun _ => false) x := by
    unfold bp
    rw [if_pos (show (lamT s b t).kind = 25 from rfl)]
    funext x
    simp [lamT, Tree.text]
  rw [if_neg (by show ¬ (25 : Int) = 32; decide), e1]
  have e2 : ownU (lamT s b t) (fun _ => false) = [] := rfl
  have e3 : inner (lamT s b t) = [t] := rfl
  rw [e2, e3, List.nil_append]
  unfold usesesL
  simp only [List.map_cons, List.map_nil, List.flatten_cons, List.flatten_nil, List.append_nil]
  exact uses_or t (fun x => s == x) (fun _ => false)
theorem lam_free {s : Str} {b : Nat} {t : Tree} (h1 : isExpB t = true) (h2 : isExpB (lamT s b t) = true) : freeE (lamT s b t) = (freeE t).filter (fun x => !(x == s)) := by
  unfold freeE
  rw [lam_uses h1 h2]
  refine (ofL_rising _).ext ((ofL_rising _).sublist List.filter_sublist) (fun x => ?_)
  rw [ofL_mem, List.mem_filter, ofL_mem]
  simp only [List.mem_map, List.mem_filter, Bool.not_eq_true', beq_eq_false_iff_ne]
  constructor
  · rintro ⟨u, ⟨hu, hne⟩, rfl⟩
    exact ⟨⟨u, hu, rfl⟩, fun e => hne e.symm⟩
  · rintro ⟨⟨u, hu, rfl⟩, hne⟩
    exact ⟨u, ⟨hu, fun e => hne e.symm⟩, rfl⟩
theorem freeE_len (t : Tree) : (freeE t).length ≤ t.size := by
  unfold freeE
  have := ofL_len ((usesE t).map Use.name)
  rw [List.length_map] at this
  have := usesE_len t
  omega

end Go.Proofs.YtbfggmeppakcgaaGreat

/- Contract on looking for a number in a row. -/
namespace Go.Proofs.YtbfggmeppakcgaaGreat
open Go.RowKit

set_option maxHeartbeats 1000000 in
theorem index_i (A : Option Addr) (cap : Nat) (l : List Int) (x : Int) (w : World) (h : Ints w A l) (hle : l.length ≤ 9223372036854775807) :
    Calls Tryz.prog 32 #[.slice A l.length cap, .int .i64 x] w fun e w' => e = .returned (.int .i64 (idxI l x)) ∧ w' = w := by
  have Hat := hide (fun k => @idxI_at _ _ l x 0 k)
  have Hno := hide (idxI_no l x 0)
  have Hr := hide h
  clear h
  generalize idxI l x = R at *
  go_enter Tryz.func32, Tryz.ntmps32
  go_wp2
  go_loop [8] (fun i => ∃ j : Nat, j ≤ l.length ∧ i = .int .i64 j ∧ Hid (∀ i, i < j → (l.getD i 0 == x) = false)) (fun i => l.length - (intOf i).toNat)
  case atStart => exact ⟨0, Nat.zero_le _, rfl, hide (fun i hi => absurd hi (by omega))⟩
  case round =>
    obtain ⟨j, hj, rfl, Hj⟩ := hrel
    by_cases hlt : j < l.length
    · obtain ⟨b, o, rfl, hb, hc⟩ := Hr.out.at_ hlt
      have hlt' : (j : Int) < (l.length : Int) := by omega
      have Hg : Hid (l.getD j 0 = l[j]'hlt) := hide (by simp [hlt])
      generalize l[j]'hlt = y at *
      cases hs : (x == y)
      · go_wp2
        go_round
        case rel =>
          refine ⟨j + 1, hlt, by go_num, hide (fun i hi => ?_)⟩
          by_cases hij : i = j
          · rw [hij, Hg.out]; rw [Bool.eq_false_iff] at hs ⊢; simp at hs ⊢; exact fun e => hs e.symm
          · exact Hj.out i (by omega)
        case measure => simp [intOf]; omega
      · have hR := Hat.out j hlt Hj.out (by rw [Hg.out]; simp at hs ⊢; exact hs.symm)
        subst hR
        go_wp2
        go_ret
        exact ⟨rfl, rfl⟩
    · have hge : (l.length : Int) ≤ (j : Int) := by omega
      have hR := Hno.out (fun i hi => Hj.out i (by omega))
      subst hR
      go_wp2
      go_ret
      exact ⟨rfl, rfl⟩

end Go.Proofs.YtbfggmeppakcgaaGreat

/- Contract on a number that is in a row, or not. -/
namespace Go.Proofs.YtbfggmeppakcgaaGreat
open Go.RowKit


end Go.Proofs.YtbfggmeppakcgaaGreat

/- Contracts of chapter 15: which are signed, what a binding uses, where a signature stands alone; few; a binding of a name. (A program of ours has printed this.) -/
namespace Go.Proofs.YtbfggmeppakcgaaGreat
open Go.RowKit Go.Sort Go.Maps

/-- The names of all signatures. -/
def sigsL (l : List Tree) : List Str := (l.filter fun t => t.kind == 32).map Tree.text
theorem sigsL_take (l : List Tree) {k : Nat} (h : k < l.length) : sigsL (l.take (k + 1)) = sigsL (l.take k) ++ if (l[k]'h).kind == 32 then [(l[k]'h).text] else [] := by
  unfold sigsL
  rw [List.take_succ_eq_append_getElem h, List.filter_append, List.map_append]
  congr 1
  cases hk : ((l[k]'h).kind == 32) <;> simp [hk]
theorem sigsL_len (l : List Tree) : (sigsL l).length ≤ l.length := by
  unfold sigsL
  rw [List.length_map]
  exact List.length_filter_le _ _

set_option maxRecDepth 10000 in
set_option maxHeartbeats 1000000 in
theorem g_signed (A : Option Addr) (cap : Nat) (l : List Tree) (w : World) (h : NodesIn w A l) (hl : l.length ≤ 100000) :
    Calls Tryz.prog 13 #[.slice A l.length cap] w fun e w' => (∃ A' cap', e = .returned (.slice A' (sigsL l).length cap') ∧ (sigsL l).length ≤ cap' ∧ cap' ≤ 9223372036854775807 ∧ Strs w' A' (sigsL l) ∧ ∀ c o, A' = some ⟨c, o, none⟩ → w.heap.size ≤ c) ∧ Ext w w' := by
  obtain ⟨i0, hi, hz0, hz1, hz2⟩ := info_parts str_infoU
  have HK := hide h
  have Htk := hide (fun k (hk : k < l.length) => sigsL_take l hk)
  have Hln := hide (fun k => sigsL_len (l.take k))
  have HR : Hid (sigsL (l.take l.length) = sigsL l) := hide (by rw [List.take_length])
  generalize sigsL l = R at *
  clear h
  go_enter Tryz.func13, Tryz.ntmps13
  go_wp2
  go_loopw [3, 8] (fun v i wr => ∃ k : Nat, k ≤ l.length ∧ i = .int .i64 k ∧ Hid (Ext w wr) ∧ Hid (wr.ownsRow w.heap.size 9 1 v (sigsL (l.take k)).length ((sigsL (l.take k)).map encStr))) (fun _ i _ => l.length - (intOf i).toNat)
  case atStart => exact ⟨0, Nat.zero_le _, rfl, hide (Ext.refl _), hide (World.ownsRow_nil _ _ _ _)⟩
  case round =>
    obtain ⟨k, hk, rfl, HX, HO⟩ := hrel
    by_cases hlt : k < l.length
    · have hlt' : (k : Int) < (l.length : Int) := by omega
      have hk0 : (0 : Int) ≤ (k : Int) := by omega
      obtain ⟨b, o, rfl, hb, q0, q1, q2, q3, q4⟩ := (HK.out.ext HX.out).at_ hlt
      have Hst := hide (Htk.out k hlt)
      have hol : (sigsL (l.take k)).length ≤ k := by have := Hln.out k; rw [List.length_take] at this; omega
      generalize sigsL (l.take k) = L at *
      generalize l[k]'hlt = c at *
      cases hc : (c.kind == 32)
      · rw [hc] at Hst
        go_wp2
        go_roundw
        case rel => exact ⟨k + 1, hlt, by go_num, hide (HX.out.alloc _), hide (by rw [Hst.out]; simpa using own_extB HO.out ((Ext.refl _).alloc _))⟩
        case measure => simp [intOf]; omega
      · rw [hc] at Hst
        go_wp2_with (at_builtin; refine wpList_append_row _ rfl _ _ 25 rfl w.heap.size 9 i0 _ 1 16 Tryz.underlying25 hi hz0 hz1 hz2 rfl (by decide) u3 L.length (L.map encStr) rfl (own_extB HO.out (((Ext.refl _).alloc _).alloc _)) _ 1 1 [encStr c.text] rfl ?c2 ?c3 ?c4 ?c5 ?c6 ?_)
        case c2 => exact Strs.boxedU _ (at_newB _ _ _ (by simp))
        case c3 => first | rfl | (intro y hy; simp at hy; subst hy; rfl)
        case c4 => unfold maxLen; omega
        case c5 => omega
        case c6 => have := HX.out.size; simp; omega
        intro v4 w4 hown4 hg4 _
        have X4 := hide (Ext.appU ((HX.out.alloc _).alloc _) hg4 (own_extB HO.out (((Ext.refl _).alloc _).alloc _)) (Nat.le_refl _))
        have O4 := hide hown4
        clear hown4 hg4
        go_wp2
        go_roundw
        case rel => exact ⟨k + 1, hlt, by go_num, X4, hide (by rw [Hst.out]; simpa using O4.out)⟩
        case measure => simp [intOf]; omega
    · have hge : ¬ (k : Int) < (l.length : Int) := by omega
      have hkl : k = l.length := by omega
      rw [hkl, HR.out] at HO
      obtain ⟨A5, c5, rfl, p1, p2, p3, p4⟩ := Strs.of_own HO.out
      have P3 := hide p3
      have P4 := hide p4
      clear p3 p4 hkl
      go_wp2
      go_ret
      exact ⟨⟨A5, c5, rfl, p1, p2, P3.out, fun c o e => (P4.out c o e).1⟩, HX.out⟩

/-- What a binding uses. -/
noncomputable def firstN : List Tree → List Str
  | [] => []
  | k :: _ => freeE k
noncomputable def useN (t : Tree) : List Str := firstN t.kids
theorem firstN_some : ∀ {l : List Tree} (h : 0 < l.length), firstN l = freeE (l[0]'h)
  | _ :: _, _ => rfl
theorem useN_some {t : Tree} (h : 0 < t.kids.length) : useN t = freeE (t.kids[0]'h) := firstN_some h

set_option maxRecDepth 10000 in
set_option maxHeartbeats 1000000 in
theorem g_free (t : Tree) (w : World) (h : NodeIn w t) (hsz : t.size ≤ 9000) :
    Calls Tryz.prog 15 #[treeV t] w fun e w' => (∃ s r n, e = .returned (.pointer (some ⟨s, 0, none⟩)) ∧ w.heap.size ≤ s ∧ w.heap.size ≤ r ∧ SetAt w' s r n (ofD (useN t))) ∧ Ext w w' := by
  have X1 : Hid (Ext w (w.alloc (.cells #[.int .i64 t.kind, .int .i64 t.pos, .int .i64 t.n, encStr t.text, .slice t.A t.kids.length t.cap] 28))) := hide ((Ext.refl _).alloc _)
  have HB1 := hide (NBox.new w t)
  have c4 := HB1.out.c4
  have hbl := HB1.out.lt
  have hle := h.le
  have hmx := h.max
  by_cases h0 : t.kids.length = 0
  · have HU : Hid (useN t = []) := hide (by unfold useN; rw [List.length_eq_zero_iff.1 h0]; rfl)
    have HN := hide (fun w' => set_new none 0 [] w' (strs_iff.2 (RowOf.nil _ _ _)) (by simp) (by simp))
    rw [HU.out]
    rw [h0] at c4
    simp only [List.length_nil] at HN
    unfold treeV
    rw [h0]
    rw [h0] at X1
    clear h h0 hle HB1 HU
    go_enter Tryz.func15, Tryz.ntmps15
    go_wp2_with fail
    refine (HN.out _).mono ?_
    rintro e w2 ⟨⟨s, r, n, rfl, h1, h2, -, h3⟩, hx⟩
    have HS := hide h3
    have h1' : w.heap.size ≤ s := Nat.le_trans X1.out.size h1
    have h2' : w.heap.size ≤ r := Nat.le_trans X1.out.size h2
    clear h1 h2 h3
    go_wp2
    go_ret
    exact ⟨⟨s, r, n, rfl, h1', h2', HS.out⟩, X1.out.trans hx⟩
  · have hp : 0 < t.kids.length := by omega
    have hp1 : (0 : Int) < (t.kids.length : Int) := by omega
    have hp2 : ((t.kids.length : Int) == 0) = false := beq_eq_false_iff_ne.2 (by omega)
    have HU := hide (useN_some hp)
    rw [HU.out]
    obtain ⟨b, o, hA, hb, q0, q1, q2, q3, q4⟩ := h.nodes.at_ hp
    have hk := h.nodes.kids _ (List.getElem_mem hp)
    have hks : (t.kids[0]'hp).size ≤ 9000 := by have := Tree.size_kid (List.getElem_mem hp); omega
    have HF := hide (u_free (t.kids[0]'hp) _ (hk.ext X1.out) hks (usesE_txt hk))
    have HFl : Hid ((freeE (t.kids[0]'hp)).length ≤ 9000) := hide (by have := freeE_len (t.kids[0]'hp); omega)
    have HFt : Hid (∀ x ∈ freeE (t.kids[0]'hp), x.length ≤ 9223372036854775807) := hide (fun x hx => by
      unfold freeE at hx
      rw [ofL_mem] at hx
      obtain ⟨u, hu, rfl⟩ := List.mem_map.1 hx
      exact usesE_txt hk u hu)
    generalize t.kids[0]'hp = k at *
    generalize freeE k = L at *
    rw [hA] at c4 HF X1
    simp only [Nat.zero_mul, Nat.add_zero] at q0 q1 q2 q3 q4
    replace q3 : w.cell? ⟨b, o + 3, none⟩ = some (encStr k.text) := q3
    unfold treeV at *
    clear h hk hks HU HB1 h0
    go_enter Tryz.func15, Tryz.ntmps15
    go_wp2_with fail
    refine HF.out.mono ?_
    rintro e w2 ⟨⟨v, rfl, ho⟩, hx⟩
    obtain ⟨A5, c5, rfl, p1, p2, p3, -⟩ := Strs.of_own ho
    have X2 := hide (X1.out.trans hx)
    have HN := hide (set_new A5 c5 L w2 p3 HFt.out (by have := HFl.out; omega))
    have hs2 := X2.out.size
    clear ho p3 hx HF
    go_wp2_with fail
    refine HN.out.mono ?_
    rintro e w3 ⟨⟨s, r, n, rfl, h1, h2, -, h3⟩, hx⟩
    have HS := hide h3
    have h1' : w.heap.size ≤ s := by omega
    have h2' : w.heap.size ≤ r := by omega
    clear h1 h2 h3
    go_wp2
    go_ret
    exact ⟨⟨s, r, n, rfl, h1', h2', HS.out⟩, X2.out.trans hx⟩

noncomputable def fewG (A : Option Addr) (cap : Nat) (l : List Tree) : Bool := decide (l.length ≤ 30) && fewB (.mk 0 0 0 [] A cap l)
set_option maxRecDepth 10000 in
set_option maxHeartbeats 1000000 in
theorem l_few15 (A : Option Addr) (cap : Nat) (l : List Tree) (w : World) (h : NodesIn w A l) (hle : l.length ≤ cap) (hcap : cap ≤ 9223372036854775807) :
    Calls Tryz.prog 4 #[.slice A l.length cap] w fun e w' => e = .returned (.bool (fewG A cap l)) ∧ Ext w w' := by
  have HF := hide (l_few06 (.mk 0 0 0 [] A cap l) w (NodeIn.mk hle hcap (by simp [Tree.text]) h.row h.kids))
  have HE : Hid (fewG A cap l = (decide (l.length ≤ 30) && fewB (.mk 0 0 0 [] A cap l))) := hide rfl
  generalize fewG A cap l = R at *
  generalize fewB (.mk 0 0 0 [] A cap l) = B at *
  by_cases hl : l.length ≤ 30
  · have hR : R = B := by rw [HE.out]; simp [hl]
    have hl' : (l.length : Int) ≤ 30 := by omega
    clear HE hl
    subst hR
    cases R
    · go_enter Tryz.func4, Tryz.ntmps4
      go_wp2_with fail
      refine HF.out.mono ?_
      rintro e w1 ⟨rfl, hx⟩
      go_wp2
      go_ret
      exact ⟨rfl, hx⟩
    · go_enter Tryz.func4, Tryz.ntmps4
      go_wp2_with fail
      refine HF.out.mono ?_
      rintro e w1 ⟨rfl, hx⟩
      go_wp2
      go_ret
      exact ⟨rfl, hx⟩
  · have hR : R = false := by rw [HE.out]; simp [hl]
    have hl' : ¬ (l.length : Int) ≤ 30 := by omega
    clear HE hl
    subst hR
    go_enter Tryz.func4, Tryz.ntmps4
    go_wp2
    go_ret
    exact ⟨rfl, Ext.refl _⟩

end Go.Proofs.YtbfggmeppakcgaaGreat

/- Graphs in memory: edges, and the slices of the vertices that each leads to. No walk here. -/
namespace Go.Proofs.YtbfggmeppakcgaaGreat
open Go.RowKit

structure Edge where
  a : Int
  b : Int
def edgeC : Coder Edge := ⟨2, fun e => [.int .i64 e.a, .int .i64 e.b], fun _ => rfl, by omega⟩
abbrev Edges (w : World) (A : Option Addr) (l : List Edge) : Prop := RowOf edgeC w A l
theorem Edges.at_ {w : World} {A : Option Addr} {l : List Edge} (h : Edges w A l) {i : Nat} (hi : i < l.length) :
    ∃ b o, A = some ⟨b, o, none⟩ ∧ b < w.heap.size ∧ w.cell? ⟨b, o + i * 2, none⟩ = some (.int .i64 (l[i]'hi).a) ∧ w.cell? ⟨b, o + i * 2 + 1, none⟩ = some (.int .i64 (l[i]'hi).b) := by
  obtain ⟨b, o, e, hb, hc⟩ := RowOf.at_ edgeC h hi
  refine ⟨b, o, e, hb, ?_, ?_⟩
  · have := hc 0 (by decide); simpa [edgeC] using this
  · have := hc 1 (by decide); simpa [edgeC] using this
def edgeOk (n : Int) (e : Edge) : Bool := decide (0 ≤ e.a) && decide (0 ≤ e.b) && (decide (e.a < n) && decide (e.b < n))
def graphOk (n : Int) (es : List Edge) : Bool := decide (0 ≤ n) && decide (n ≤ 1000) && es.all (edgeOk n)
/-- Where edges lead from a vertex. -/
def nextL (es : List Edge) (v : Nat) : List Int := (es.filter (·.a == (v : Int))).map (·.b)
theorem nextL_snoc (es : List Edge) (e : Edge) (v : Nat) : nextL (es ++ [e]) v = nextL es v ++ if e.a == (v : Int) then [e.b] else [] := by
  unfold nextL
  rw [List.filter_append, List.map_append]
  cases h : (e.a == (v : Int)) <;> simp [h]

/-- A slice value, and the numbers in it. -/
structure SlV where
  val : Value
  l : List Int
/-- The vertices that each leads to, in memory: the slice of slices is block `b`, all is the call's own from block `base` on. -/
structure TosI (ty int : TypeId) (base : Nat) (w : World) (b : Nat) (ts : List SlV) : Prop where
  blk : w.heap[b]? = some (.cells (ts.map (·.val)).toArray ty (0, 0))
  ge : base ≤ b
  own : ∀ i (h : i < ts.length), w.ownsRow base int 1 (ts[i]'h).val (ts[i]'h).l.length ((ts[i]'h).l.map (Value.int .i64))
  dis : ∀ i j (hi : i < ts.length) (hj : j < ts.length), i ≠ j → (ts[i]'hi).val.ownBlock = (ts[j]'hj).val.ownBlock → (ts[i]'hi).val.ownBlock = none
  nb : ∀ i (h : i < ts.length), (ts[i]'h).val.ownBlock ≠ some b

section
variable {ty int : TypeId} {base : Nat} {w w' : World} {b : Nat} {ts : List SlV}
theorem TosI.lt (h : TosI ty int base w b ts) : b < w.heap.size := lt_of_obj h.blk
/-- Kept, where all from block `base` on is as it was. -/
theorem TosI.keep (h : TosI ty int base w b ts) {row : Option Nat} (g : w.grownBy w' row) (hr : ∀ k, row = some k → k < base) : TosI ty int base w' b ts where
  blk := (g.block b h.lt (fun e => by have := hr b e.symm; have := h.ge; omega)).trans h.blk
  ge := h.ge
  own i hi := (h.own i hi).kept g (by
    cases hv : (ts[i]'hi).val.ownBlock with
    | none => exact .inl rfl
    | some k => exact .inr (fun e => by have := ((h.own i hi).lt k hv).1; have := hr k e.symm; omega))
  dis := h.dis
  nb := h.nb
theorem TosI.ext (h : TosI ty int base w b ts) (e : Ext w w') : TosI ty int base w' b ts :=
  h.keep (row := none) ⟨e.below.os, e.below.tape, e.below.output, e.size, fun k hk _ => e.heap hk⟩ (by intro k h; cases h)
theorem TosI.cell (h : TosI ty int base w b ts) {i : Nat} (hi : i < ts.length) : w.cell? ⟨b, i, none⟩ = some (ts[i]'hi).val := by
  simp [World.cell?, h.blk, hi]
theorem TosI.free (h : TosI ty int base w b ts) (i : Nat) : w.frozen? ⟨b, i, none⟩ = false := by simp [World.frozen?, h.blk]
theorem TosI.after (h : TosI ty int base w b ts) {v : Nat} (hv : v < ts.length) {sv : Value} (hsv : (ts[v]'hv).val = sv) {w2 : World} (hg0 : w.grownBy w2 sv.ownBlock) : w2.heap[b]? = some (.cells (ts.map (·.val)).toArray ty (0, 0)) :=
  ((hsv ▸ hg0 : w.grownBy w2 (ts[v]'hv).val.ownBlock).block b h.lt (fun e => h.nb v hv e.symm)).trans h.blk
/-- A number appended to one of them. -/
theorem TosI.put (h : TosI ty int base w b ts) {v : Nat} (hv : v < ts.length) {v' sv : Value} (hsv : (ts[v]'hv).val = sv) {w2 : World} {l' : List Int}
    (hown : w2.ownsRow base int 1 v' l'.length (l'.map (Value.int .i64))) (hg0 : w.grownBy w2 sv.ownBlock) (hat0 : v'.ownBlock = sv.ownBlock ∨ v'.ownBlock = some w.heap.size) :
    TosI ty int base (w2.setCell ⟨b, v, none⟩ v') b (ts.set v ⟨v', l'⟩) := by
  have hg : w.grownBy w2 (ts[v]'hv).val.ownBlock := hsv ▸ hg0
  have hat : v'.ownBlock = (ts[v]'hv).val.ownBlock ∨ v'.ownBlock = some w.heap.size := hsv ▸ hat0
  have hb := h.lt
  have hb2 : w2.heap[b]? = some (.cells (ts.map (·.val)).toArray ty (0, 0)) := (hg.block b hb (fun e => h.nb v hv e.symm)).trans h.blk
  have hother : ∀ k, k ≠ b → (w2.setCell ⟨b, v, none⟩ v').heap[k]? = w2.heap[k]? := by
    intro k hk
    unfold World.setCell
    simp only [Array.getElem?_modify]
    rw [if_neg (fun e => hk e.symm)]
  have hsz : (w2.setCell ⟨b, v, none⟩ v').heap.size = w2.heap.size := by simp [World.setCell]
  have hset : w2.grownBy (w2.setCell ⟨b, v, none⟩ v') (some b) := ⟨rfl, rfl, rfl, by omega, fun k hk hne => hother k (fun e => hne (by rw [e]))⟩
  have hvb : v'.ownBlock ≠ some b := by
    rcases hat with h1 | h1
    · rw [h1]; exact h.nb v hv
    · rw [h1]; intro e; injection e with e; omega
  have hown2 : ∀ i (hi : i < ts.length), i ≠ v → w2.ownsRow base int 1 (ts[i]'hi).val (ts[i]'hi).l.length ((ts[i]'hi).l.map (Value.int .i64)) := by
    intro i hi hiv
    refine (h.own i hi).kept hg ?_
    cases hk : (ts[i]'hi).val.ownBlock with
    | none => exact .inl rfl
    | some k => exact .inr (fun e => by have := h.dis i v hi hv hiv (hk.trans e); rw [hk] at this; cases this)
  constructor
  · have := blk_setCell hb2 v v'
    rw [this]
    congr 2
    rw [List.setIfInBounds_toArray, List.map_set]
  · exact h.ge
  · intro i hi
    have hi' : i < ts.length := by simpa using hi
    by_cases e : i = v
    · subst e
      simp only [List.getElem_set_self]
      exact hown.kept hset (.inr hvb)
    · rw [List.getElem_set_ne (fun h => e h.symm)]
      exact (hown2 i hi' e).kept hset (.inr (h.nb i hi'))
  · intro i j hi hj hij he
    have hi' : i < ts.length := by simpa using hi
    have hj' : j < ts.length := by simpa using hj
    by_cases e1 : i = v
    · subst e1
      rw [List.getElem_set_ne hij] at he
      simp only [List.getElem_set_self] at he ⊢
      rcases hat with h1 | h1
      · rw [h1] at he ⊢
        exact h.dis i j hi' hj' hij he
      · rw [h1] at he
        have := (h.own j hj').lt _ he.symm
        omega
    · rw [List.getElem_set_ne (fun h => e1 h.symm)] at he ⊢
      by_cases e2 : j = v
      · subst e2
        simp only [List.getElem_set_self] at he
        rcases hat with h1 | h1
        · rw [h1] at he
          exact h.dis i j hi' hj' hij he
        · rw [h1] at he
          have := (h.own i hi').lt _ he
          omega
      · rw [List.getElem_set_ne (fun h => e2 h.symm)] at he
        exact h.dis i j hi' hj' hij he
  · intro i hi
    have hi' : i < ts.length := by simpa using hi
    by_cases e : i = v
    · subst e
      simp only [List.getElem_set_self]
      exact hvb
    · rw [List.getElem_set_ne (fun h => e h.symm)]
      exact h.nb i hi'
end

def markCells (n : Nat) (M : Nat → Bool) : Array Value := ((List.range n).map fun j => Value.bool (M j)).toArray
theorem markCells_get (n : Nat) (M : Nat → Bool) {j : Nat} (hj : j < n) : (markCells n M)[j]? = some (.bool (M j)) := by
  unfold markCells
  simp [hj]
theorem markCells_set (n : Nat) (M : Nat → Bool) (j : Nat) : (markCells n M).setIfInBounds j (.bool true) = markCells n (fun i => i == j || M i) := by
  unfold markCells
  rw [List.setIfInBounds_toArray]
  congr 1
  apply List.ext_getElem?
  intro i
  by_cases hi : i < n
  · by_cases e : j = i
    · subst e; simp [hi]
    · have : (i == j) = false := by simp; exact fun h => e h.symm
      simp [e, hi, this]
  · simp [hi]
/-- Which vertices are so. -/
def Marks (ty : TypeId) (w : World) (mb : Nat) (M : Nat → Bool) : Prop := w.heap[mb]? = some (.cells (markCells 1000 M) ty (0, 0))
theorem Marks.cell {ty : TypeId} {w : World} {mb : Nat} {M : Nat → Bool} (h : Marks ty w mb M) {j : Nat} (hj : j < 1000) : w.cell? ⟨mb, j, none⟩ = some (.bool (M j)) := by
  unfold Marks at h
  rw [← markCells_get 1000 M hj]
  generalize markCells 1000 M = cs at *
  simp [World.cell?, h]
theorem Marks.free {ty : TypeId} {w : World} {mb : Nat} {M : Nat → Bool} (h : Marks ty w mb M) (i : Nat) : w.frozen? ⟨mb, i, none⟩ = false := by
  unfold Marks at h
  generalize markCells 1000 M = cs at *
  simp [World.frozen?, h]
theorem Marks.set {ty : TypeId} {w : World} {mb : Nat} {M : Nat → Bool} (h : Marks ty w mb M) (j : Nat) : Marks ty (w.setCell ⟨mb, j, none⟩ (.bool true)) mb (fun i => i == j || M i) := by
  unfold Marks
  rw [blk_setCell h j (.bool true), markCells_set]
theorem grown_set (w : World) (b i : Nat) (v : Value) : w.grownBy (w.setCell ⟨b, i, none⟩ v) (some b) := by
  refine ⟨rfl, rfl, rfl, by simp [World.setCell], fun k hk hne => ?_⟩
  unfold World.setCell
  simp only [Array.getElem?_modify]
  rw [if_neg (fun e => hne (by rw [e]))]
theorem grown_trans {a b c : World} {row : Option Nat} (h : a.grownBy b row) (k : b.grownBy c row) : a.grownBy c row :=
  ⟨k.os.trans h.os, k.tape.trans h.tape, k.output.trans h.output, Nat.le_trans h.size k.size, fun j hj hne => (k.block j (Nat.lt_of_lt_of_le hj h.size) hne).trans (h.block j hj hne)⟩
theorem grown_ext {a b : World} (h : Ext a b) (row : Option Nat) : a.grownBy b row := ⟨h.below.os, h.below.tape, h.below.output, h.size, fun _ hk _ => h.heap hk⟩

/-! ### What is reached -/
inductive SR (succ : Nat → List Nat) : Nat → Nat → Prop
  | one {a b} : b ∈ succ a → SR succ a b
  | step {a b c} : SR succ a b → c ∈ succ b → SR succ a c
theorem SR.trans {succ : Nat → List Nat} {a b c : Nat} (h : SR succ a b) (k : SR succ b c) : SR succ a c := by
  induction k with
  | one h1 => exact .step h h1
  | step _ h1 ih => exact .step ih h1
/-- What a search from `v` has done, over those in `l`. -/
structure Dfs (succ : Nat → List Nat) (M M' : Nat → Bool) (v : Nat) (l : List Nat) : Prop where
  sub : ∀ x, M x = true → M' x = true
  hit : ∀ x ∈ l, M' x = true
  new : ∀ x, M' x = true → M x = true ∨ (SR succ v x ∧ ∀ y ∈ succ x, M' y = true)
section
variable {succ : Nat → List Nat} {M M1 M2 : Nat → Bool} {v u : Nat} {l : List Nat}
theorem Dfs.start (succ : Nat → List Nat) (M : Nat → Bool) (v : Nat) : Dfs succ M M v [] := ⟨fun _ h => h, by simp, fun _ h => .inl h⟩
theorem Dfs.skip (h : Dfs succ M M1 v l) (hu : M1 u = true) : Dfs succ M M1 v (l ++ [u]) := by
  refine ⟨h.sub, fun x hx => ?_, h.new⟩
  rcases List.mem_append.1 hx with hx | hx
  · exact h.hit x hx
  · simp at hx; subst hx; exact hu
theorem Dfs.go (h : Dfs succ M M1 v l) (huv : u ∈ succ v) (k : Dfs succ (fun i => i == u || M1 i) M2 u (succ u)) : Dfs succ M M2 v (l ++ [u]) := by
  have hs : ∀ x, M1 x = true → M2 x = true := fun x hx => k.sub x (by simp [hx])
  refine ⟨fun x hx => hs x (h.sub x hx), fun x hx => ?_, fun x hx => ?_⟩
  · rcases List.mem_append.1 hx with hx | hx
    · exact hs x (h.hit x hx)
    · simp at hx; subst hx; exact k.sub x (by simp)
  · rcases k.new x hx with h1 | ⟨h1, h2⟩
    · simp only [Bool.or_eq_true, beq_iff_eq] at h1
      rcases h1 with rfl | h1
      · exact .inr ⟨.one huv, k.hit⟩
      · rcases h.new x h1 with h3 | ⟨h3, h4⟩
        · exact .inl h3
        · exact .inr ⟨h3, fun y hy => hs y (h4 y hy)⟩
    · exact .inr ⟨(SR.one huv).trans h1, h2⟩
theorem Dfs.all (h : Dfs succ (fun _ => false) M1 v (succ v)) (x : Nat) : M1 x = true ↔ SR succ v x := by
  constructor
  · intro hx
    rcases h.new x hx with h1 | ⟨h1, _⟩
    · cases h1
    · exact h1
  · intro hx
    induction hx with
    | one h1 => exact h.hit _ h1
    | step _ h1 ih =>
      rcases h.new _ ih with h2 | ⟨_, h2⟩
      · cases h2
      · exact h2 _ h1
end
/-- How many are not so. -/
def holes (M : Nat → Bool) (N : Nat) : Nat := ((List.range N).filter fun j => !M j).length
theorem holes_set {M : Nat → Bool} {u : Nat} (hu : M u = false) : ∀ N, u < N → holes (fun i => i == u || M i) N + 1 = holes M N
  | 0, h => absurd h (by omega)
  | N + 1, h => by
    unfold holes
    rw [List.range_succ, List.filter_append, List.filter_append, List.length_append, List.length_append]
    by_cases e : u = N
    · subst e
      have : (List.range u).filter (fun j => !(j == u || M j)) = (List.range u).filter (fun j => !M j) := by
        apply List.filter_congr
        intro x hx
        simp at hx
        have : (x == u) = false := by simp; omega
        simp [this]
      rw [this]
      simp [hu]
    · have ih := holes_set hu N (by omega)
      unfold holes at ih
      have hN : (N == u) = false := by simp; omega
      have : ([N].filter fun j => !(j == u || M j)) = [N].filter fun j => !M j := by simp [List.filter_cons, hN]
      rw [this]
      omega
theorem holes_mono {M M' : Nat → Bool} (h : ∀ x, M x = true → M' x = true) (N : Nat) : holes M' N ≤ holes M N := by
  unfold holes
  induction N with
  | zero => simp
  | succ N ih =>
    rw [List.range_succ, List.filter_append, List.filter_append, List.length_append, List.length_append]
    have : ([N].filter fun j => !M' j).length ≤ ([N].filter fun j => !M j).length := by
      have := h N
      cases h1 : M N <;> cases h2 : M' N <;> simp_all
    omega

end Go.Proofs.YtbfggmeppakcgaaGreat
