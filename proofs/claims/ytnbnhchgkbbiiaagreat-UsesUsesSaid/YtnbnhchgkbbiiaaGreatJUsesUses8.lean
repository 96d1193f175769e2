/- The names that a tree uses: the plain law. -/
import Derived.Test.YtnbnhchgkbbiiaaGreatJUsesUses7
/- The names that a tree uses: the plain law. -/
namespace Go.Proofs.YtnbnhchgkbbiiaaGreat
open Go.RowKit

/-- What is bound within a node. -/
noncomputable def bp (t : Tree) (p : Str → Bool) : Str → Bool :=
  if t.kind = 25 then fun s => [t.text].any (· == s) || p s
  else if t.kind = 26 then fun s => (bindsL t.kids).any (· == s) || p s
  else if t.kind = 15 then fun s => (varsN (t.kid 0)).any (· == s) || p s
  else p
/-- What a node uses itself. -/
def ownU (t : Tree) (p : Str → Bool) : List Use := if t.kind == 21 && !p t.text then [Use.mk t.text t.pos] else []
/-- The nodes in which names are looked for. -/
def inner (t : Tree) : List Tree := if t.kind = 15 then t.kids.drop 1 else t.kids
noncomputable def usesL : Tree → (Str → Bool) → List Use := Tree.fold fun t l p =>
  if t.kind = 32 then [] else ownU t p ++ ((if t.kind = 15 then l.drop 1 else l).map fun f => f (bp t p)).flatten
noncomputable def usesesL (l : List Tree) (p : Str → Bool) : List Use := (l.map fun k => usesL k p).flatten
theorem usesL_eq (t : Tree) (p : Str → Bool) : usesL t p = if t.kind = 32 then [] else ownU t p ++ usesesL (inner t) (bp t p) := by
  unfold usesL
  rw [Tree.fold_eq]
  unfold usesesL inner
  split
  · rfl
  · congr 2
    split
    · rw [← List.map_drop, List.map_map]; rfl
    · rw [List.map_map]; rfl
theorem usesesL_take (l : List Tree) (p : Str → Bool) {k : Nat} (h : k < l.length) : usesesL (l.take (k + 1)) p = usesesL (l.take k) p ++ usesL (l[k]'h) p := by
  unfold usesesL
  rw [List.take_succ_eq_append_getElem h, List.map_append, List.flatten_append]
  congr 1
  simp
theorem inner_sizes (t : Tree) : sizes (inner t) ≤ sizes t.kids := by
  unfold inner
  split
  · have : sizes t.kids = sizes (t.kids.take 1) + sizes (t.kids.drop 1) := by unfold sizes; rw [← List.sum_append, ← List.map_append, List.take_append_drop]
    omega
  · exact Nat.le_refl _
theorem inner_mem {t k : Tree} (h : k ∈ inner t) : k ∈ t.kids := by
  unfold inner at h
  split at h
  · exact List.mem_of_mem_drop h
  · exact h
theorem usesL_len (t : Tree) : ∀ p, (usesL t p).length ≤ t.size := by
  induction t using Tree.ind with
  | h t ih =>
  intro p
  rw [usesL_eq]
  have h1 : (usesesL (inner t) (bp t p)).length ≤ sizes (inner t) := by
    unfold usesesL sizes
    rw [List.length_flatten, List.map_map]
    exact sum_map_leV _ _ _ (fun x hx => ih x (inner_mem hx) _)
  have h2 := inner_sizes t
  have h3 := Tree.size_eq t
  have h4 : (ownU t p).length ≤ 1 := by unfold ownU; split <;> simp
  split
  · simp
  · rw [List.length_append]; unfold sizes at h2 h1; omega
theorem usesesL_room (l : List Tree) (p : Str → Bool) {k : Nat} (h : k < l.length) : (usesesL (l.take k) p).length + (l[k]'h).size ≤ sizes l := by
  have h1 : (usesesL (l.take k) p).length ≤ sizes (l.take k) := by
    unfold usesesL sizes
    rw [List.length_flatten, List.map_map]
    exact sum_map_leV _ _ _ (fun x _ => usesL_len x p)
  have h2 := sizes_take l h
  have h3 := sizes_le l (k + 1)
  omega

/-- An alternative that is gone into has a pattern. -/
def walkOk : Tree → Prop := Tree.fold fun t l => t.kind = 32 ∨ ((t.kind = 15 → 1 ≤ t.kids.length) ∧ ∀ q ∈ (if t.kind = 15 then l.drop 1 else l), q)
theorem walkOk_eq (t : Tree) : walkOk t ↔ t.kind = 32 ∨ ((t.kind = 15 → 1 ≤ t.kids.length) ∧ ∀ k ∈ inner t, walkOk k) := by
  unfold walkOk
  rw [Tree.fold_eq]
  unfold inner
  constructor
  · rintro (h | ⟨h1, h2⟩)
    · exact .inl h
    · refine .inr ⟨h1, fun k hk => ?_⟩
      split at hk
      · rename_i e
        rw [if_pos e] at h2
        exact h2 _ (by rw [← List.map_drop]; exact List.mem_map.2 ⟨k, hk, rfl⟩)
      · rename_i e
        rw [if_neg e] at h2
        exact h2 _ (List.mem_map.2 ⟨k, hk, rfl⟩)
  · rintro (h | ⟨h1, h2⟩)
    · exact .inl h
    · refine .inr ⟨h1, fun q hq => ?_⟩
      split at hq
      · rename_i e
        rw [if_pos e] at h2
        rw [← List.map_drop] at hq
        obtain ⟨k, hk, rfl⟩ := List.mem_map.1 hq
        exact h2 k hk
      · rename_i e
        rw [if_neg e] at h2
        obtain ⟨k, hk, rfl⟩ := List.mem_map.1 hq
        exact h2 k hk
theorem kid_mem {t : Tree} {i : Nat} (h : i < t.kids.length) : t.kid i ∈ t.kids := by rw [kid_get h]; exact List.getElem_mem h
/-- An expression may be gone into. -/
theorem exp_walk : ∀ n (t : Tree), t.size ≤ n → (expB t = true → walkOk t) ∧ (bindB t = true → walkOk t) ∧ (altB t = true → walkOk t) ∧ (sigB t = true → walkOk t) := by
  intro n
  induction n with
  | zero => intro t h; have := t.size_pos; omega
  | succ n IH =>
    intro t hsz
    have ih : ∀ k ∈ t.kids, (expB k = true → walkOk k) ∧ (bindB k = true → walkOk k) ∧ (altB k = true → walkOk k) ∧ (sigB k = true → walkOk k) := fun k hk => IH k (by have := Tree.size_kid hk; omega)
    have key : t.kind ≠ 15 → (∀ k ∈ t.kids, walkOk k) → walkOk t := fun h1 h2 => (walkOk_eq t).2 (.inr ⟨fun e => absurd e h1, fun k hk => h2 k (inner_mem hk)⟩)
    have kall : t.kids.all expB = true → ∀ k ∈ t.kids, walkOk k := fun h k hk => (ih k hk).1 (List.all_eq_true.1 h k hk)
    have kone : t.kids.length = 1 → expB (t.kid 0) = true → ∀ k ∈ t.kids, walkOk k := fun h1 h2 k hk => by
      obtain ⟨i, hi, rfl⟩ := List.getElem_of_mem hk
      have : i = 0 := by omega
      subst this
      rw [kid_get hi] at h2
      exact (ih _ hk).1 h2
    have knil : t.kids.length = 0 → ∀ k ∈ t.kids, walkOk k := fun h k hk => by rw [List.eq_nil_of_length_eq_zero h] at hk; cases hk
    refine ⟨fun h => ?_, fun h => ?_, fun h => ?_, fun h => ?_⟩
    · by_cases h0 : t.kind = 21
      · rw [exp_var t h0] at h; simp only [Bool.and_eq_true, decide_eq_true_eq] at h
        exact key (by omega) (knil h.2)
      by_cases h1 : t.kind = 22
      · rw [exp_con t h1] at h; simp only [Bool.and_eq_true, decide_eq_true_eq] at h
        exact key (by omega) (knil h.2)
      by_cases h2 : t.kind = 23
      · rw [exp_int t h2] at h; simp only [Bool.and_eq_true, decide_eq_true_eq] at h
        exact key (by omega) (knil h.2)
      by_cases h3 : t.kind = 24
      · rw [exp_app t h3] at h; simp only [Bool.and_eq_true, decide_eq_true_eq] at h
        exact key (by omega) (kall h.2)
      by_cases h4 : t.kind = 25
      · rw [exp_lam t h4] at h; simp only [Bool.and_eq_true, decide_eq_true_eq] at h
        exact key (by omega) (kone h.1.2 h.2)
      by_cases h5 : t.kind = 26
      · rw [exp_let t h5] at h; simp only [Bool.and_eq_true, decide_eq_true_eq] at h
        obtain ⟨⟨⟨_, g1⟩, g2⟩, g3⟩ := h
        refine key (by omega) (fun k hk => ?_)
        obtain ⟨i, hi, rfl⟩ := List.getElem_of_mem hk
        by_cases hl : i = t.kids.length - 1
        · subst hl
          rw [kid_get hi] at g3
          exact (ih _ hk).1 g3
        · have g4 := List.all_eq_true.1 g2 (t.kids[i]'hi) (by rw [List.mem_take_iff_getElem]; exact ⟨i, by omega, rfl⟩)
          unfold withinB at g4
          rw [Bool.or_eq_true] at g4
          rcases g4 with g4 | g4
          · exact (ih _ hk).2.1 g4
          · exact (ih _ hk).2.2.2 g4
      by_cases h6 : t.kind = 27
      · rw [exp_case t h6] at h; simp only [Bool.and_eq_true, decide_eq_true_eq] at h
        obtain ⟨⟨⟨_, g1⟩, g2⟩, g3⟩ := h
        refine key (by omega) (fun k hk => ?_)
        obtain ⟨i, hi, rfl⟩ := List.getElem_of_mem hk
        by_cases hl : i = 0
        · subst hl
          rw [kid_get hi] at g2
          exact (ih _ hk).1 g2
        · have g4 := List.all_eq_true.1 g3 (t.kids[i]'hi) (by rw [List.mem_drop_iff_getElem]; exact ⟨i - 1, by omega, by congr 1; omega⟩)
          exact (ih _ hk).2.2.1 g4
      by_cases h7 : t.kind = 28
      · rw [exp_if t h7] at h; simp only [Bool.and_eq_true, decide_eq_true_eq] at h
        exact key (by omega) (kall h.2)
      rw [exp_else t h0 h1 h2 h3 h4 h5 h6 h7] at h
      cases h
    · rw [bind_eq] at h; simp only [Bool.and_eq_true, decide_eq_true_eq] at h
      exact key (by omega) (kone h.1.2 h.2)
    · rw [alt_eq] at h; simp only [Bool.and_eq_true, decide_eq_true_eq] at h
      obtain ⟨⟨⟨⟨g0, _⟩, g1⟩, _⟩, g3⟩ := h
      refine (walkOk_eq t).2 (.inr ⟨fun _ => by omega, fun k hk => ?_⟩)
      unfold inner at hk
      rw [if_pos g0] at hk
      rw [List.mem_drop_iff_getElem] at hk
      obtain ⟨i, hi, rfl⟩ := hk
      have : i = 0 := by omega
      subst this
      have hi1 : 1 < t.kids.length := by omega
      rw [kid_get hi1] at g3
      exact (ih _ (List.getElem_mem hi1)).1 g3
    · unfold sigB at h; simp only [Bool.and_eq_true, decide_eq_true_eq] at h
      exact (walkOk_eq t).2 (.inl h.1.1.1)
theorem expB_walk {t : Tree} (h : expB t = true) : walkOk t := (exp_walk t.size t (Nat.le_refl _)).1 h

end Go.Proofs.YtnbnhchgkbbiiaaGreat
