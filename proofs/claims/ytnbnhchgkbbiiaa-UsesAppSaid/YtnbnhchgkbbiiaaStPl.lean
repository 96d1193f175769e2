/- Plain facts on rising lists of texts. No program in sight. -/
import Derived.Test.YtnbnhchgkbbiiaaStr
import Derived.Sort.Walk0
namespace Go.Proofs.Ytnbnhchgkbbiiaa
open Go.RowKit Go.Sort

def lessB (a b : Str) : Bool := Op.bytesLess a b
/-- How many texts stand ahead of `x`. -/
def findN (l : List Str) (x : Str) : Nat := (l.takeWhile (lessB · x)).length
def findB (l : List Str) (x : Str) : Bool := decide (findN l x < l.length) && (l.getD (findN l x) [] == x)

theorem findN_le (l : List Str) (x : Str) : findN l x ≤ l.length := (List.takeWhile_sublist _).length_le
theorem findN_at : ∀ (l : List Str) (x : Str) (k : Nat), k ≤ l.length → (∀ i, i < k → lessB (l.getD i []) x = true) → (k < l.length → lessB (l.getD k []) x = false) → findN l x = k
  | [], x, k, hk, _, _ => by simp at hk; subst hk; rfl
  | y :: l, x, 0, _, _, h => by
    have : lessB y x = false := by simpa using h (by simp)
    simp [findN, this]
  | y :: l, x, k + 1, hk, h1, h2 => by
    have h0 : lessB y x = true := by simpa using h1 0 (by omega)
    have := findN_at l x k (by simpa using hk) (fun i hi => by simpa using h1 (i + 1) (by omega)) (fun hl => by simpa using h2 (by simpa using hl))
    unfold findN at this ⊢
    simp [h0, this]

/-- With a text. -/
def addL (l : List Str) (x : Str) : List Str := if findB l x then l else l.take (findN l x) ++ [x] ++ l.drop (findN l x)
/-- Without a text. -/
def remL (l : List Str) (x : Str) : List Str := if findB l x then l.take (findN l x) ++ l.drop (findN l x + 1) else l

theorem findB_lt {l : List Str} {x : Str} (h : findB l x = true) : findN l x < l.length := by
  unfold findB at h
  simp at h
  exact h.1

/-- Rising texts, each once. -/
abbrev Rising (l : List Str) : Prop := l.Pairwise (· < ·)
theorem slt_irrefl (a : Str) : ¬ a < a := List.lt_irrefl a
theorem slt_trans {a b c : Str} (h : a < b) (k : b < c) : a < c := List.lt_trans h k
theorem slt_total (a b : Str) : a < b ∨ a = b ∨ b < a := by
  by_cases h : a < b
  · exact .inl h
  · by_cases k : b < a
    · exact .inr (.inr k)
    · exact .inr (.inl (List.le_antisymm (List.not_lt.1 k) (List.not_lt.1 h)))
theorem Rising.nodup {l : List Str} (h : Rising l) : l.Nodup := List.Pairwise.imp (R := (· < ·)) (S := (· ≠ ·)) (fun {a b} (hab : a < b) (e : a = b) => slt_irrefl b (e ▸ hab)) h
theorem Rising.ext {l m : List Str} (hl : Rising l) (hm : Rising m) (h : ∀ x, x ∈ l ↔ x ∈ m) : l = m :=
  List.Perm.eq_of_pairwise (le := (· < ·)) (fun a _ _ _ h1 h2 => absurd (slt_trans h1 h2) (slt_irrefl a)) hl hm ((List.perm_ext_iff_of_nodup hl.nodup hm.nodup).2 h)
theorem lessB_eq (a b : Str) : lessB a b = decide (a < b) := bytesLess_eq a b

theorem find_parts (x : Str) : ∀ l : List Str, Rising l → ∃ p q, l = p ++ q ∧ findN l x = p.length ∧ (∀ y ∈ p, y < x) ∧ (∀ y ∈ q, x < y ∨ x = y) ∧ (findB l x = true ↔ q.head? = some x)
  | [], _ => ⟨[], [], rfl, rfl, by simp, by simp, by simp [findB]⟩
  | y :: l, h => by
    by_cases hy : y < x
    · obtain ⟨p, q, e, hn, hp, hq, hb⟩ := find_parts x l (List.pairwise_cons.1 h).2
      have hN : findN (y :: l) x = findN l x + 1 := by simp [findN, lessB_eq, hy]
      refine ⟨y :: p, q, by rw [e]; rfl, by rw [hN, hn]; rfl, ?_, hq, ?_⟩
      · intro z hz
        rcases List.mem_cons.1 hz with rfl | hz
        · exact hy
        · exact hp z hz
      · rw [← hb]
        unfold findB
        rw [hN]
        simp
    · have hN : findN (y :: l) x = 0 := by simp [findN, lessB_eq, hy]
      refine ⟨[], y :: l, rfl, by rw [hN]; rfl, by simp, ?_, ?_⟩
      · have hxy : x < y ∨ x = y := by
          rcases slt_total y x with h1 | h1 | h1
          · exact absurd h1 hy
          · exact .inr h1.symm
          · exact .inl h1
        intro z hz
        rcases List.mem_cons.1 hz with rfl | hz
        · exact hxy
        · have := (List.pairwise_cons.1 h).1 z hz
          rcases hxy with h1 | h1
          · exact .inl (slt_trans h1 this)
          · subst h1; exact .inl this
      · unfold findB
        rw [hN]
        simp

theorem mem_findB {l : List Str} (h : Rising l) (x : Str) : findB l x = true ↔ x ∈ l := by
  obtain ⟨p, q, e, hn, hp, hq, hb⟩ := find_parts x l h
  rw [hb, e]
  constructor
  · intro hh
    rcases q with _ | ⟨z, q⟩
    · cases hh
    · simp at hh; subst hh; simp
  · intro hh
    rcases List.mem_append.1 hh with h1 | h1
    · exact absurd (hp x h1) (slt_irrefl x)
    · rcases q with _ | ⟨z, q⟩
      · cases h1
      · rcases List.mem_cons.1 h1 with rfl | h2
        · rfl
        · rw [e] at h
          have h3 := (List.pairwise_cons.1 (List.pairwise_append.1 h).2.1).1 x h2
          rcases hq z (by simp) with h4 | h4
          · exact absurd (slt_trans h3 h4) (slt_irrefl z)
          · subst h4; exact absurd h3 (slt_irrefl x)
theorem findB_any {l : List Str} (h : Rising l) (x : Str) : findB l x = l.any (· == x) := by
  rw [Bool.eq_iff_iff, mem_findB h, List.any_eq_true]
  constructor
  · exact fun hx => ⟨x, hx, by simp⟩
  · rintro ⟨y, hy, e⟩
    simp at e; subst e; exact hy

theorem addL_mem {l : List Str} (h : Rising l) (x y : Str) : y ∈ addL l x ↔ y ∈ l ∨ y = x := by
  unfold addL
  split
  · rename_i hb
    have := (mem_findB h x).1 hb
    constructor
    · exact .inl
    · rintro (h1 | rfl)
      · exact h1
      · exact this
  · have e : l.take (findN l x) ++ l.drop (findN l x) = l := List.take_append_drop _ _
    constructor
    · intro hy
      simp only [List.mem_append, List.mem_singleton] at hy
      rcases hy with (h1 | h1) | h1
      · exact .inl (List.mem_of_mem_take h1)
      · exact .inr h1
      · exact .inl (List.mem_of_mem_drop h1)
    · rintro (h1 | rfl)
      · rw [← e] at h1
        rcases List.mem_append.1 h1 with h2 | h2
        · simp [h2]
        · simp [h2]
      · simp
theorem addL_rising {l : List Str} (h : Rising l) (x : Str) : Rising (addL l x) := by
  unfold addL
  split
  · exact h
  · rename_i hb
    obtain ⟨p, q, e, hn, hp, hq, hb'⟩ := find_parts x l h
    have hx : x ∉ l := fun hh => hb ((mem_findB h x).2 hh)
    rw [hn, e, List.take_left, List.drop_left]
    rw [e] at h hx
    obtain ⟨h1, h2, h3⟩ := List.pairwise_append.1 h
    have hq' : ∀ y ∈ q, x < y := fun y hy => by
      rcases hq y hy with h4 | h4
      · exact h4
      · subst h4; exact absurd (List.mem_append.2 (.inr hy)) hx
    refine List.pairwise_append.2 ⟨List.pairwise_append.2 ⟨h1, by simp, fun a ha b hb => ?_⟩, h2, fun a ha b hbq => ?_⟩
    · simp at hb; subst hb; exact hp a ha
    · rcases List.mem_append.1 ha with h4 | h4
      · exact h3 a h4 b hbq
      · simp at h4; subst h4; exact hq' b hbq
theorem remL_parts {l : List Str} (h : Rising l) (x : Str) : Rising (remL l x) ∧ ∀ y, y ∈ remL l x ↔ y ∈ l ∧ y ≠ x := by
  unfold remL
  split
  · rename_i hb
    obtain ⟨p, q, e, hn, hp, hq, hb'⟩ := find_parts x l h
    rcases q with _ | ⟨z, q⟩
    · have := hb'.1 hb; cases this
    · have hz := hb'.1 hb
      simp at hz
      subst hz
      rw [hn, e, List.take_left, show p ++ z :: q = (p ++ [z]) ++ q by simp, show p.length + 1 = (p ++ [z]).length by simp, List.drop_left]
      rw [e] at h
      obtain ⟨h1, h2, h3⟩ := List.pairwise_append.1 h
      obtain ⟨h4, h5⟩ := List.pairwise_cons.1 h2
      refine ⟨List.pairwise_append.2 ⟨h1, h5, fun a ha b hb => h3 a ha b (by simp [hb])⟩, fun y => ?_⟩
      simp only [List.mem_append, List.mem_singleton]
      constructor
      · rintro (h6 | h6)
        · exact ⟨.inl (.inl h6), fun e => by subst e; exact slt_irrefl _ (hp y h6)⟩
        · exact ⟨.inr h6, fun e => by subst e; exact slt_irrefl _ (h4 y h6)⟩
      · rintro ⟨(h6 | h6) | h6, h7⟩
        · exact .inl h6
        · exact absurd h6 h7
        · exact .inr h6
  · rename_i hb
    refine ⟨h, fun y => ⟨fun hy => ⟨hy, fun e => hb ((mem_findB h x).2 (e ▸ hy))⟩, fun hy => hy.1⟩⟩

/-- All of a list. -/
def ofL (l : List Str) : List Str := l.foldl addL []
theorem fold_parts : ∀ (l a : List Str), Rising a → Rising (l.foldl addL a) ∧ ∀ y, y ∈ l.foldl addL a ↔ y ∈ a ∨ y ∈ l
  | [], a, h => ⟨h, by simp⟩
  | x :: l, a, h => by
    obtain ⟨h1, h2⟩ := fold_parts l (addL a x) (addL_rising h x)
    refine ⟨h1, fun y => ?_⟩
    rw [List.foldl_cons, h2, addL_mem h, List.mem_cons]
    exact or_assoc
theorem ofL_rising (l : List Str) : Rising (ofL l) := (fold_parts l [] List.Pairwise.nil).1
theorem ofL_mem (l : List Str) (y : Str) : y ∈ ofL l ↔ y ∈ l := by
  have := (fold_parts l [] List.Pairwise.nil).2 y
  unfold ofL
  simpa using this
theorem ofL_same {l : List Str} (h : Rising l) : ofL l = l := (ofL_rising l).ext h (ofL_mem l)
theorem ofL_snoc (l : List Str) (x : Str) : ofL (l ++ [x]) = addL (ofL l) x := by simp [ofL, List.foldl_append]
theorem addL_len (l : List Str) (x : Str) : (addL l x).length ≤ l.length + 1 := by
  unfold addL
  split
  · omega
  · have := findN_le l x
    simp; omega
theorem remL_len (l : List Str) (x : Str) : (remL l x).length ≤ l.length := by
  unfold remL
  split
  · have := findN_le l x
    simp; omega
  · omega
theorem ofL_len (l : List Str) : (ofL l).length ≤ l.length := by
  have : ∀ (l a : List Str), (l.foldl addL a).length ≤ a.length + l.length := by
    intro l
    induction l with
    | nil => simp
    | cons x l ih => intro a; have := ih (addL a x); have := addL_len a x; simp at *; omega
  have := this l []
  unfold ofL
  simpa using this
/-- Those that another one does not have. -/
def minusL (l m : List Str) : List Str := l.filter fun x => !findB m x
theorem minusL_rising {l : List Str} (m : List Str) (h : Rising l) : Rising (minusL l m) := h.sublist List.filter_sublist
theorem minusL_mem {m : List Str} (l : List Str) (h : Rising m) (y : Str) : y ∈ minusL l m ↔ y ∈ l ∧ y ∉ m := by
  unfold minusL
  rw [List.mem_filter]
  have := mem_findB h y
  cases hb : findB m y
  · rw [hb] at this; simp at this; simp [this]
  · rw [hb] at this; simp at this; simp [this]
theorem minusL_snoc (l m : List Str) (x : Str) : minusL (l ++ [x]) m = minusL l m ++ if findB m x then [] else [x] := by
  unfold minusL
  rw [List.filter_append]
  cases hb : findB m x <;> simp [hb]
theorem minusL_len (l m : List Str) : (minusL l m).length ≤ l.length := List.length_filter_le _ _

end Go.Proofs.Ytnbnhchgkbbiiaa
