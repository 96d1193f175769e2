/- The marks of the definition: pass after pass over the edges. Plain facts; no program in sight. -/
import Derived.Test.YtnbnhchgkbbiiaaOrdB
namespace Go.Proofs.Ytnbnhchgkbbiiaa

/-- The definition's marks: what is marked within a pass over the edges `ps`, of which `d` are done; `o0` was marked before it. -/
structure MarkPass (succ : Nat → List Nat) (n v : Nat) (d : List (Nat × Nat)) (o0 o : Nat → Bool) (more : Bool) : Prop where
  sound : ∀ j, o j = true → SR succ v j
  grow : ∀ j, o0 j = true → o j = true
  same : more = false → o = o0 ∧ ∀ p ∈ d, (p.1 = v ∨ o p.1 = true) → o p.2 = true
  less : more = true → undone n o < undone n o0
/-- One more is marked. -/
def mark (o : Nat → Bool) (j : Nat) : Nat → Bool := fun i => i == j || o i
section
variable {succ : Nat → List Nat} {n v : Nat} {ps d : List (Nat × Nat)} {o0 o : Nat → Bool} {more : Bool}
theorem MarkPass.start (h : ∀ j, o j = true → SR succ v j) : MarkPass succ n v [] o o false :=
  ⟨h, fun _ h => h, fun _ => ⟨rfl, fun p hp => by cases hp⟩, fun h => by cases h⟩
theorem MarkPass.skip (h : MarkPass succ n v d o0 o more) {p : Nat × Nat} (hp : (p.1 = v ∨ o p.1 = true) → o p.2 = true) : MarkPass succ n v (d ++ [p]) o0 o more := by
  refine ⟨h.sound, h.grow, fun hm => ⟨(h.same hm).1, ?_⟩, h.less⟩
  intro q hq
  rcases List.mem_append.1 hq with hq | hq
  · exact (h.same hm).2 q hq
  · rw [List.mem_singleton.1 hq]
    exact hp
theorem undone_mark {j : Nat} (hj : j < n) (ho : o j = false) : undone n (mark o j) < undone n o := by
  unfold undone
  refine filter_lt (List.range n) ?_ ⟨j, by simpa using hj, by simp [ho], by simp [mark]⟩
  intro x _ h
  have : x ≠ j ∧ o x = false := by simpa [mark] using h
  simp [this.2]
theorem undone_mono {o o' : Nat → Bool} (h : ∀ j, o j = true → o' j = true) : undone n o' ≤ undone n o := by
  unfold undone
  have : ∀ l : List Nat, (l.filter fun x => !o' x).length ≤ (l.filter fun x => !o x).length := by
    intro l
    induction l with
    | nil => exact Nat.le_refl _
    | cons y l ih =>
      cases h1 : o y
      · cases h2 : o' y
        · simp only [List.filter_cons, h1, h2, Bool.not_false, if_true, List.length_cons]
          omega
        · rw [List.filter_cons_of_neg (by simp [h2]), List.filter_cons_of_pos (by simp [h1])]
          simp only [List.length_cons]
          omega
      · have h2 := h y h1
        rw [List.filter_cons_of_neg (by simp [h2]), List.filter_cons_of_neg (by simp [h1])]
        exact ih
  exact this _
theorem MarkPass.hit (h : MarkPass succ n v d o0 o more) {p : Nat × Nat} (hp : p.1 = v ∨ o p.1 = true) (hs : p.2 ∈ succ p.1) (hn : p.2 < n) (ho : o p.2 = false) : MarkPass succ n v (d ++ [p]) o0 (mark o p.2) true := by
  refine ⟨?_, fun j hj => by simp [mark, h.grow j hj], fun hm => (by cases hm), fun _ => ?_⟩
  · intro j hj
    have : j = p.2 ∨ o j = true := by simpa [mark] using hj
    rcases this with rfl | hj
    · rcases hp with hp | hp
      · rw [hp] at hs
        exact .one hs
      · exact .step (h.sound _ hp) hs
    · exact h.sound j hj
  · have h1 := undone_mark hn ho
    have h2 : undone n o ≤ undone n o0 := undone_mono h.grow
    omega
/-- A pass that marks nothing more ends it. -/
theorem MarkPass.all (h : MarkPass succ n v ps o0 o false) (hps : ∀ a b, b ∈ succ a → (a, b) ∈ ps) (j : Nat) : o j = true ↔ SR succ v j := by
  refine ⟨h.sound j, ?_⟩
  intro hr
  obtain ⟨_, h2⟩ := h.same rfl
  induction hr with
  | one h1 => exact h2 _ (hps _ _ h1) (.inl rfl)
  | step _ h1 ih => exact h2 _ (hps _ _ h1) (.inr ih)
end

end Go.Proofs.Ytnbnhchgkbbiiaa
