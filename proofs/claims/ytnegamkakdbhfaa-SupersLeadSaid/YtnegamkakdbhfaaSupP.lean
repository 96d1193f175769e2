/- Plain facts on classes above classes. No program in sight. -/
import Derived.Test.YtnegamkakdbhfaaCls
namespace Go.Proofs.Ytnegamkakdbhfaa

/-! ### Classes above classes -/
/-- The classes right above one; none of one that there is not. -/
def supL (l : List Cls) (x : Str) : List Str := match l.find? (·.name == x) with | some c => c.sup | none => []
def restN (l : List Cls) (out : List Str) : Nat := (l.map fun c => if out.any (· == c.name) then 0 else c.sup.length).sum
def aboveGo (l : List Cls) : Nat → List Str → List Str → List Str
  | 0, out, _ => out
  | _ + 1, out, [] => out
  | f + 1, out, x :: todo => if out.any (· == x) then aboveGo l f out todo else aboveGo l f (out ++ [x]) (todo ++ supL l x)
def boundL (l : List Cls) (x : Str) : Nat := (supL l x).length + restN l []
def aboveL (l : List Cls) (x : Str) : List Str := aboveGo l (boundL l x) [] (supL l x)
theorem aboveGo_nil (l : List Cls) (f : Nat) (out : List Str) : aboveGo l f out [] = out := by cases f <;> rfl
theorem restN_mono (l : List Cls) (out : List Str) (x : Str) : restN l (out ++ [x]) ≤ restN l out := by
  unfold restN
  induction l with
  | nil => simp
  | cons c l ih =>
    simp only [List.map_cons, List.sum_cons]
    have : (if (out ++ [x]).any (· == c.name) = true then 0 else c.sup.length) ≤ (if out.any (· == c.name) = true then 0 else c.sup.length) := by
      rw [List.any_append]
      cases out.any (· == c.name) <;> simp
      split <;> omega
    omega
theorem restN_add (l : List Cls) (out : List Str) (x : Str) (hx : out.any (· == x) = false) : restN l (out ++ [x]) + (supL l x).length ≤ restN l out := by
  induction l with
  | nil => simp [restN, supL]
  | cons c l ih =>
    unfold restN supL at ih ⊢
    simp only [List.map_cons, List.sum_cons, List.find?_cons]
    cases hc : (c.name == x)
    · have e : (out ++ [x]).any (· == c.name) = out.any (· == c.name) := by
        rw [List.any_append]
        have : (x == c.name) = false := by
          rw [Bool.eq_false_iff] at hc ⊢
          simp at hc ⊢
          exact fun h => hc h.symm
        simp [this]
      rw [e]
      dsimp only
      omega
    · have e : c.name = x := by simpa using hc
      have h1 := restN_mono l out x
      unfold restN at h1
      rw [e, hx]
      simp
      simp at h1
      omega

/-- A class above another one. -/
inductive Up (l : List Cls) : Str → Str → Prop
  | one {x y} : y ∈ supL l x → Up l x y
  | step {x y z} : Up l x y → z ∈ supL l y → Up l x z
theorem Up.trans {l : List Cls} {x y z : Str} (h : Up l x y) (k : Up l y z) : Up l x z := by
  induction k with
  | one h1 => exact .step h h1
  | step _ h1 ih => exact .step ih h1
theorem any_eq_mem (l : List Str) (x : Str) : l.any (· == x) = true ↔ x ∈ l := by simp
theorem any_eq_not (l : List Str) (x : Str) : l.any (· == x) = false ↔ x ∉ l := by rw [Bool.eq_false_iff]; exact not_congr (any_eq_mem l x)
theorem aboveGo_spec (l : List Cls) (x : Str) : ∀ (f : Nat) (out todo : List Str), todo.length + restN l out ≤ f → out.Nodup → (∀ y ∈ out, Up l x y) → (∀ y ∈ todo, Up l x y) →
    (∀ y ∈ supL l x, y ∈ out ∨ y ∈ todo) → (∀ y ∈ out, ∀ z ∈ supL l y, z ∈ out ∨ z ∈ todo) →
    (aboveGo l f out todo).Nodup ∧ ∀ y, y ∈ aboveGo l f out todo ↔ Up l x y
  | 0, out, todo, hf, hn, h1, h2, h3, h4 => by
    have : todo = [] := List.eq_nil_of_length_eq_zero (by omega)
    subst this
    refine ⟨hn, fun y => ⟨h1 y, fun hy => ?_⟩⟩
    show y ∈ out
    induction hy with
    | one hh => simpa using h3 _ hh
    | step _ hh ih => simpa using h4 _ ih _ hh
  | f + 1, out, [], hf, hn, h1, h2, h3, h4 => by
    refine ⟨hn, fun y => ⟨h1 y, fun hy => ?_⟩⟩
    show y ∈ out
    induction hy with
    | one hh => simpa using h3 _ hh
    | step _ hh ih => simpa using h4 _ ih _ hh
  | f + 1, out, y :: todo, hf, hn, h1, h2, h3, h4 => by
    simp only [List.length_cons] at hf
    unfold aboveGo
    cases ho : out.any (· == y)
    · simp only [Bool.false_eq_true, ↓reduceIte]
      have hy := (any_eq_not out y).1 ho
      have hu := h2 y (by simp)
      have := restN_add l out y ho
      refine aboveGo_spec l x f _ _ (by rw [List.length_append]; omega) ?_ ?_ ?_ ?_ ?_
      · exact List.nodup_append.2 ⟨hn, by simp, fun a ha b hb e => by simp at hb; subst hb; subst e; exact hy ha⟩
      · intro z hz
        rcases List.mem_append.1 hz with hz | hz
        · exact h1 z hz
        · simp at hz; subst hz; exact hu
      · intro z hz
        rcases List.mem_append.1 hz with hz | hz
        · exact h2 z (by simp [hz])
        · exact hu.step hz
      · intro z hz
        rcases h3 z hz with h | h
        · exact .inl (by simp [h])
        · rcases List.mem_cons.1 h with rfl | h
          · exact .inl (by simp)
          · exact .inr (by simp [h])
      · intro z hz u hu'
        rcases List.mem_append.1 hz with hz | hz
        · rcases h4 z hz u hu' with h | h
          · exact .inl (by simp [h])
          · rcases List.mem_cons.1 h with rfl | h
            · exact .inl (by simp)
            · exact .inr (by simp [h])
        · simp at hz; subst hz; exact .inr (by simp [hu'])
    · simp only [↓reduceIte]
      have hy := (any_eq_mem out y).1 ho
      refine aboveGo_spec l x f _ _ (by omega) hn h1 (fun z hz => h2 z (by simp [hz])) ?_ ?_
      · intro z hz
        rcases h3 z hz with h | h
        · exact .inl h
        · rcases List.mem_cons.1 h with rfl | h
          · exact .inl hy
          · exact .inr h
      · intro z hz u hu'
        rcases h4 z hz u hu' with h | h
        · exact .inl h
        · rcases List.mem_cons.1 h with rfl | h
          · exact .inl hy
          · exact .inr h
theorem aboveL_spec (l : List Cls) (x : Str) : (aboveL l x).Nodup ∧ ∀ y, y ∈ aboveL l x ↔ Up l x y :=
  aboveGo_spec l x _ _ _ (Nat.le_refl _) List.nodup_nil (by simp) (fun y hy => .one hy) (fun y hy => .inr hy) (by simp)

/-! ### Looking at all -/
def firstI (p : Nat → Bool) (n : Nat) : Option Nat := (List.range n).find? p
theorem firstI_at (p : Nat → Bool) : ∀ n k, k < n → (∀ j, j < k → p j = false) → p k = true → firstI p n = some k := by
  intro n k hk h1 h2
  unfold firstI
  rw [List.find?_eq_some_iff_append]
  refine ⟨h2, List.range k, (List.range' (k + 1) (n - k - 1)), ?_, ?_⟩
  · rw [List.range_eq_range', List.range_eq_range']
    have : List.range' 0 n = List.range' 0 k ++ List.range' (0 + 1 * k) (n - k) := by
      rw [List.range'_append]; congr 1; omega
    rw [this, show n - k = (n - k - 1) + 1 by omega, List.range'_succ]
    simp
  · intro j hj
    simp at hj
    simp [h1 j hj]
theorem firstI_none (p : Nat → Bool) (n : Nat) (h : ∀ j, j < n → p j = false) : firstI p n = none := by
  unfold firstI
  rw [List.find?_eq_none]
  intro j hj
  simp at hj
  simp [h j hj]
theorem firstI_some {p : Nat → Bool} {n k : Nat} (h : firstI p n = some k) : k < n ∧ p k = true := by
  unfold firstI at h
  have h1 := List.mem_of_find?_eq_some h
  have h2 := List.find?_some h
  simp at h1
  exact ⟨h1, h2⟩
theorem firstI_none' {p : Nat → Bool} {n : Nat} (h : firstI p n = none) : ∀ j, j < n → p j = false := by
  intro j hj
  unfold firstI at h
  rw [List.find?_eq_none] at h
  have := h j (by simpa using hj)
  simpa using this

theorem atI_cases (l : List Cls) (x : Str) : (atI l x = -1 ∧ supL l x = [] ∧ x ∉ names l) ∨ ∃ k, ∃ h : k < l.length, atI l x = (k : Int) ∧ supL l x = (l[k]'h).sup ∧ (l[k]'h).name = x := by
  cases hf : l.find? (·.name == x) with
  | none =>
    left
    rw [List.find?_eq_none] at hf
    refine ⟨?_, by unfold supL; rw [List.find?_eq_none.2 hf], ?_⟩
    · refine idxI_no (names l) x [] fun j hj => ?_
      have hj' : j < l.length := by rw [names_len] at hj; exact hj
      rw [names_get l hj']
      have := hf _ (List.getElem_mem hj')
      simpa using this
    · intro hm
      obtain ⟨c, hc, e⟩ := List.mem_map.1 hm
      have := hf c hc
      simp [e] at this
  | some c =>
    right
    obtain ⟨hp, k, hk, e, hall⟩ := List.find?_eq_some_iff_getElem.1 hf
    refine ⟨k, hk, ?_, by unfold supL; rw [hf, e], by rw [e]; simpa using hp⟩
    refine idxI_at (names l) x [] (by rw [names_len]; exact hk) (fun j hj => ?_) ?_
    · have hj' : j < l.length := by omega
      rw [names_get l hj']
      have := hall j hj
      simpa using this
    · rw [names_get l hk, e]
      exact hp
theorem restN_bound (l : List Cls) (h : ∀ c ∈ l, c.sup.length ≤ 9) : restN l [] ≤ 9 * l.length := by
  unfold restN
  induction l with
  | nil => simp
  | cons c l ih =>
    have h1 := h c (by simp)
    have h2 := ih (fun d hd => h d (by simp [hd]))
    simp only [List.map_cons, List.sum_cons, List.length_cons]
    simp at h2 ⊢
    omega
theorem supL_len (l : List Cls) (h : ∀ c ∈ l, c.sup.length ≤ 9) (x : Str) : (supL l x).length ≤ 9 := by
  rcases atI_cases l x with ⟨_, h1, _⟩ | ⟨k, hk, _, h1, _⟩
  · rw [h1]; simp
  · rw [h1]; exact h _ (List.getElem_mem hk)
theorem boundL_le (l : List Cls) (hl : l.length ≤ 9) (h : ∀ c ∈ l, c.sup.length ≤ 9) (x : Str) : boundL l x ≤ 90 := by
  have := restN_bound l h
  have := supL_len l h x
  unfold boundL
  omega

end Go.Proofs.Ytnegamkakdbhfaa
