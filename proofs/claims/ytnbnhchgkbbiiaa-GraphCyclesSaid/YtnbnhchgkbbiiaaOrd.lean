/- The order in which groups are told. Plain facts of finite lists; no program in sight. -/
import Derived.Test.YtnbnhchgkbbiiaaTar
namespace Go.Proofs.Ytnbnhchgkbbiiaa

/-! ### The order of the groups -/
section
variable (n : Nat) (m : Nat → Nat → Bool)
def compL (a : Nat) : List Nat := (List.range n).filter fun j => j == a || (m j a && m a j)
def freeB (done : Nat → Bool) (a : Nat) : Bool := (List.range n).all fun i => !(m a i && !done i && !m i a)
def selB (done : Nat → Bool) : Option Nat := (List.range n).find? fun a => !done a && freeB n m done a
def addDone (done : Nat → Bool) (a : Nat) : Nat → Bool := fun i => done i || (compL n m a).contains i
def selGo : Nat → (Nat → Bool) → List (List Nat)
  | 0, _ => []
  | f + 1, done => match selB n m done with | none => [] | some a => compL n m a :: selGo f (addDone n m done a)
end
theorem filter_lt {p q : Nat → Bool} : ∀ l : List Nat, (∀ x ∈ l, p x = true → q x = true) → (∃ x ∈ l, q x = true ∧ p x = false) → (l.filter p).length < (l.filter q).length
  | [], _, ⟨x, hx, _⟩ => by cases hx
  | y :: l, h, ⟨x, hx, h1, h2⟩ => by
    have hle : ∀ l : List Nat, (∀ x ∈ l, p x = true → q x = true) → (l.filter p).length ≤ (l.filter q).length := by
      intro l
      induction l with
      | nil => simp
      | cons z l ih =>
        intro h
        have := ih (fun x hx => h x (by simp [hx]))
        cases hp : p z
        · cases hq : q z <;> simp [hp, hq] <;> omega
        · have := h z (by simp) hp
          simp [hp, this]
          omega
    have hl := hle l (fun x hx => h x (by simp [hx]))
    rcases List.mem_cons.1 hx with e | hx
    · subst e
      simp [h1, h2]
      omega
    · have ih := filter_lt l (fun x hx => h x (by simp [hx])) ⟨x, hx, h1, h2⟩
      cases hp : p y
      · cases hq : q y <;> simp [hp, hq] <;> omega
      · have := h y (by simp) hp
        simp [hp, this]
        omega
section
variable {succ : Nat → List Nat} {n : Nat} {m : Nat → Nat → Bool} {done : Nat → Bool}
theorem freeB_iff (hm : ∀ i j, i < n → (m i j = true ↔ SR succ i j)) {a : Nat} (ha : a < n) : freeB n m done a = true ↔ ∀ i, i < n → SR succ a i → done i = true ∨ SR succ i a := by
  unfold freeB
  rw [List.all_eq_true]
  constructor
  · intro h i hi hr
    have h1 := h i (by simpa using hi)
    have h2 := (hm a i ha).2 hr
    cases hd : done i
    · rw [h2, hd] at h1
      have h3 : m i a = true := by simpa using h1
      exact .inr ((hm i a hi).1 h3)
    · exact .inl rfl
  · intro h i hi
    simp only [List.mem_range] at hi
    cases h1 : m a i
    · simp
    · rcases h i hi ((hm a i ha).1 h1) with h2 | h2
      · simp [h2]
      · simp [(hm i a hi).2 h2]
theorem mem_comp (hm : ∀ i j, i < n → (m i j = true ↔ SR succ i j)) {a x : Nat} (ha : a < n) : x ∈ compL n m a ↔ x < n ∧ RS succ x a ∧ RS succ a x := by
  unfold compL
  rw [List.mem_filter, List.mem_range]
  constructor
  · rintro ⟨h1, h2⟩
    refine ⟨h1, ?_⟩
    simp only [Bool.or_eq_true, beq_iff_eq, Bool.and_eq_true] at h2
    rcases h2 with rfl | ⟨h2, h3⟩
    · exact ⟨RS.refl _, RS.refl _⟩
    · exact ⟨.inr ((hm x a h1).1 h2), .inr ((hm a x ha).1 h3)⟩
  · rintro ⟨h1, h2, h3⟩
    refine ⟨h1, ?_⟩
    simp only [Bool.or_eq_true, beq_iff_eq, Bool.and_eq_true]
    rcases h2 with rfl | h2
    · exact .inl rfl
    · rcases h3 with rfl | h3
      · exact .inl rfl
      · exact .inr ⟨(hm x a h1).2 h2, (hm a x ha).2 h3⟩
theorem comp_eq (hm : ∀ i j, i < n → (m i j = true ↔ SR succ i j)) {a b : Nat} (ha : a < n) (hb : b < n) (h1 : RS succ a b) (h2 : RS succ b a) : compL n m a = compL n m b := by
  unfold compL
  apply List.filter_congr
  intro x hx
  have hxn : x < n := by simpa using hx
  have e1 := mem_comp hm (x := x) ha
  have e2 := mem_comp hm (x := x) hb
  unfold compL at e1 e2
  rw [List.mem_filter] at e1 e2
  rw [Bool.eq_iff_iff]
  constructor
  · intro h
    obtain ⟨_, h3, h4⟩ := e1.1 ⟨hx, h⟩
    exact (e2.2 ⟨hxn, h3.trans h1, h2.trans h4⟩).2
  · intro h
    obtain ⟨_, h3, h4⟩ := e2.1 ⟨hx, h⟩
    exact (e1.2 ⟨hxn, h3.trans h2, h1.trans h4⟩).2
/-- Who is done leads to none that is not. -/
def DoneOk (succ : Nat → List Nat) (done : Nat → Bool) : Prop := ∀ x, done x = true → ∀ y ∈ succ x, done y = true
theorem DoneOk.reach (h : DoneOk succ done) {x y : Nat} (hr : RS succ x y) (hx : done x = true) : done y = true := RS.closed (P := fun x => done x = true) h hr hx
theorem sel_exists (hm : ∀ i j, i < n → (m i j = true ↔ SR succ i j)) : ∀ (c a : Nat), ((List.range n).filter fun j => j == a || m a j).length ≤ c → a < n → done a = false → ∃ b, selB n m done = some b := by
  intro c
  induction c with
  | zero =>
    intro a hc ha _
    exfalso
    have : a ∈ (List.range n).filter fun j => j == a || m a j := List.mem_filter.2 ⟨by simpa using ha, by simp⟩
    have := List.length_pos_of_mem this
    omega
  | succ c ih =>
    intro a hc ha hd
    cases hf : freeB n m done a
    · have hnf : ¬ ∀ i, i < n → SR succ a i → done i = true ∨ SR succ i a := fun h => by rw [(freeB_iff hm ha).2 h] at hf; cases hf
      have hex : ∃ i, i < n ∧ SR succ a i ∧ done i = false ∧ ¬ SR succ i a := by
        apply Classical.byContradiction
        intro hno
        apply hnf
        intro i hi hr
        cases hdi : done i
        · right
          apply Classical.byContradiction
          intro hns
          exact hno ⟨i, hi, hr, hdi, hns⟩
        · exact .inl rfl
      obtain ⟨i, hi, hr, hdi, hns⟩ := hex
      refine ih i ?_ hi hdi
      have hlt := filter_lt (p := fun j => j == i || m i j) (q := fun j => j == a || m a j) (List.range n) (fun x hx hp => ?_) ⟨a, by simpa using ha, by simp, ?_⟩
      · omega
      · simp only [Bool.or_eq_true, beq_iff_eq] at hp ⊢
        rcases hp with rfl | hp
        · exact .inr ((hm a x ha).2 hr)
        · exact .inr ((hm a x ha).2 (hr.trans ((hm i x hi).1 hp)))
      · rw [Bool.eq_false_iff]
        intro hp
        simp only [Bool.or_eq_true, beq_iff_eq] at hp
        rcases hp with rfl | hp
        · exact hns hr
        · exact hns ((hm i a hi).1 hp)
    · unfold selB
      cases hfi : (List.range n).find? fun a => !done a && freeB n m done a with
      | some b => exact ⟨b, rfl⟩
      | none =>
        rw [List.find?_eq_none] at hfi
        have := hfi a (by simpa using ha)
        rw [hd, hf] at this
        simp at this
end

end Go.Proofs.Ytnbnhchgkbbiiaa
