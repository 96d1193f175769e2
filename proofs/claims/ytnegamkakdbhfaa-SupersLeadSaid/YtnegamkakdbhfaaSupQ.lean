/- Plain facts on classes: the check, what goes round, ways. No program in sight. -/
import Derived.Test.YtnegamkakdbhfaaSupP
import Derived.Test.YtnegamkakdbhfaaPath
import Derived.Test.YtnegamkakdbhfaaGrA
namespace Go.Proofs.Ytnegamkakdbhfaa

def nameAt (l : List Cls) (i : Nat) : Str := (l.getD i Cls.zero).name
def supAt (l : List Cls) (i : Nat) : List Str := (l.getD i Cls.zero).sup
/-- Are all of some texts among others, each once? -/
def knownB (ns s : List Str) : Bool := (List.range s.length).all fun k => ns.any (· == s.getD k []) && !((s.take k).any (· == s.getD k []))
def twiceB (l : List Cls) (i : Nat) : Bool := decide (atI l (nameAt l i) < (i : Int))
def badB (l : List Cls) (i : Nat) : Bool := !knownB (names l) (supAt l i)
def cycB (l : List Cls) (i : Nat) : Bool := (aboveL l (nameAt l i)).any (· == nameAt l i)
def checkL (l : List Cls) : Int × Int :=
  match firstI (twiceB l) l.length with
  | some i => (i, 6)
  | none => match firstI (badB l) l.length with
    | some i => (i, 7)
    | none => match firstI (cycB l) l.length with
      | some i => (i, 9)
      | none => (0, 0)
def okL (l : List Cls) : Bool := (checkL l).2 == 0

/-- Names that are there once, and classes above that are there. -/
structure Sound (l : List Cls) : Prop where
  one : firstI (twiceB l) l.length = none
  all : firstI (badB l) l.length = none
theorem okL_sound {l : List Cls} (h : okL l = true) : Sound l ∧ firstI (cycB l) l.length = none := by
  unfold okL checkL at h
  split at h
  · simp at h
  · rename_i h1
    split at h
    · simp at h
    · rename_i h2
      split at h
      · simp at h
      · rename_i h3
        exact ⟨⟨h1, h2⟩, h3⟩
theorem nameAt_eq {l : List Cls} {i : Nat} (h : i < l.length) : nameAt l i = (l[i]'h).name := by simp [nameAt, h]
theorem supAt_eq {l : List Cls} {i : Nat} (h : i < l.length) : supAt l i = (l[i]'h).sup := by simp [supAt, h]
section
variable {l : List Cls}
theorem Sound.at_ (h : Sound l) {i : Nat} (hi : i < l.length) : atI l (l[i]'hi).name = i := by
  have h1 := firstI_none' h.one i hi
  unfold twiceB at h1
  rw [nameAt_eq hi] at h1
  simp only [decide_eq_false_iff_not, Int.not_lt] at h1
  rcases atI_cases l (l[i]'hi).name with ⟨e1, _, e3⟩ | ⟨k, hk, e1, _, e3⟩
  · exact absurd (List.mem_map.2 ⟨_, List.getElem_mem hi, rfl⟩) e3
  · rw [e1] at h1 ⊢
    by_cases hki : k = i
    · rw [hki]
    · -- the first of that name stands at k, and k is not behind i
      have h2 := firstI_none' h.one k hk
      unfold twiceB at h2
      rw [nameAt_eq hk, e3, e1] at h2
      have : i < k := by omega
      have h4 : (names l).getD i [] = (l[i]'hi).name := names_get l hi
      -- atI is the first place
      exfalso
      have hlow : ∀ j, j < l.length → (names l).getD j [] = (l[i]'hi).name → (k : Int) ≤ j := by
        intro j hj hjn
        rw [← e1]
        unfold atI idxI
        have hany : (names l).any (· == (l[i]'hi).name) = true := List.any_eq_true.2 ⟨_, List.mem_map.2 ⟨_, List.getElem_mem hi, rfl⟩, by simp⟩
        rw [if_pos hany]
        have hj' : j < (names l).length := by rw [names_len]; exact hj
        have : (names l).findIdx (· == (l[i]'hi).name) ≤ j := by
          rcases Nat.lt_or_ge j ((names l).findIdx (· == (l[i]'hi).name)) with g | g
          · have := List.not_of_lt_findIdx g
            simp [hj'] at hjn
            simp [hjn] at this
          · exact g
        omega
      have := hlow i hi h4
      omega
theorem Sound.sup (h : Sound l) {i : Nat} (hi : i < l.length) : supL l (l[i]'hi).name = (l[i]'hi).sup := by
  have h1 := h.at_ hi
  rcases atI_cases l (l[i]'hi).name with ⟨e1, _, _⟩ | ⟨k, hk, e1, e2, _⟩
  · rw [e1] at h1; omega
  · rw [e1] at h1
    have : k = i := by omega
    subst this
    exact e2
theorem Sound.known (h : Sound l) : ∀ c ∈ l, ∀ s ∈ c.sup, s ∈ names l := by
  intro c hc s hs
  obtain ⟨i, hi, rfl⟩ := List.getElem_of_mem hc
  have h1 := firstI_none' h.all i hi
  unfold badB at h1
  rw [supAt_eq hi] at h1
  simp only [Bool.not_eq_eq_eq_not, Bool.not_false] at h1
  unfold knownB at h1
  rw [List.all_eq_true] at h1
  obtain ⟨k, hk, rfl⟩ := List.getElem_of_mem hs
  have h2 := h1 k (by simpa using hk)
  simp only [Bool.and_eq_true] at h2
  have h3 := (any_eq_mem _ _).1 h2.1
  simpa [hk] using h3
theorem Sound.inj (h : Sound l) {i j : Nat} (hi : i < l.length) (hj : j < l.length) (e : (l[i]'hi).name = (l[j]'hj).name) : i = j := by
  have h1 := h.at_ hi
  have h2 := h.at_ hj
  rw [e, h2] at h1
  omega
/-- The graph of the classes: each leads to those right above it. -/
def succC (l : List Cls) (i : Nat) : List Nat := (supAt l i).map fun s => (atI l s).toNat
theorem Sound.to (h : Sound l) {i : Nat} (hi : i < l.length) {s : Str} (hs : s ∈ (l[i]'hi).sup) : ∃ j, ∃ hj : j < l.length, atI l s = (j : Int) ∧ (l[j]'hj).name = s := by
  have h1 := h.known _ (List.getElem_mem hi) s hs
  rcases atI_cases l s with ⟨_, _, e3⟩ | ⟨k, hk, e1, _, e3⟩
  · exact absurd h1 e3
  · exact ⟨k, hk, e1, e3⟩
theorem succC_lt (h : Sound l) : ∀ x, x < l.length → ∀ y ∈ succC l x, y < l.length := by
  intro x hx y hy
  unfold succC at hy
  rw [supAt_eq hx] at hy
  obtain ⟨s, hs, rfl⟩ := List.mem_map.1 hy
  obtain ⟨j, hj, e, _⟩ := h.to hx hs
  rw [e]
  simpa using hj
theorem up_of_reach (h : Sound l) {i j : Nat} (hi : i < l.length) (hr : SR (succC l) i j) : ∃ hj : j < l.length, Up l (l[i]'hi).name (l[j]'hj).name := by
  induction hr with
  | one h1 =>
    unfold succC at h1
    rw [supAt_eq hi] at h1
    obtain ⟨s, hs, rfl⟩ := List.mem_map.1 h1
    obtain ⟨j, hj, e, en⟩ := h.to hi hs
    have e' : (atI l s).toNat = j := by rw [e]; simp
    refine ⟨by rw [e']; exact hj, ?_⟩
    have : (l[(atI l s).toNat]'(by rw [e']; exact hj)).name = s := by simp only [e']; exact en
    rw [this]
    exact .one (by rw [h.sup hi]; exact hs)
  | step _ h1 ih =>
    rename_i b c _
    obtain ⟨hb, hup⟩ := ih
    unfold succC at h1
    rw [supAt_eq hb] at h1
    obtain ⟨s, hs, rfl⟩ := List.mem_map.1 h1
    obtain ⟨j, hj, e, en⟩ := h.to hb hs
    have e' : (atI l s).toNat = j := by rw [e]; simp
    refine ⟨by rw [e']; exact hj, ?_⟩
    have : (l[(atI l s).toNat]'(by rw [e']; exact hj)).name = s := by simp only [e']; exact en
    rw [this]
    exact .step hup (by rw [h.sup hb]; exact hs)
theorem reach_of_up (h : Sound l) {i : Nat} (hi : i < l.length) {y : Str} (hu : Up l (l[i]'hi).name y) : ∃ j, ∃ hj : j < l.length, (l[j]'hj).name = y ∧ SR (succC l) i j := by
  generalize hx : (l[i]'hi).name = x at hu
  induction hu with
  | one h1 =>
    rw [← hx, h.sup hi] at h1
    obtain ⟨j, hj, e, en⟩ := h.to hi h1
    exact ⟨j, hj, en, .one (by unfold succC; rw [supAt_eq hi]; exact List.mem_map.2 ⟨_, h1, by rw [e]; simp⟩)⟩
  | step _ h1 ih =>
    obtain ⟨b, hb, en, hr⟩ := ih
    rw [← en, h.sup hb] at h1
    obtain ⟨j, hj, e, en'⟩ := h.to hb h1
    exact ⟨j, hj, en', .step hr (by unfold succC; rw [supAt_eq hb]; exact List.mem_map.2 ⟨_, h1, by rw [e]; simp⟩)⟩
theorem cyc_reach (h : Sound l) {i : Nat} (hi : i < l.length) : cycB l i = true ↔ SR (succC l) i i := by
  unfold cycB
  rw [nameAt_eq hi, any_eq_mem, (aboveL_spec l _).2]
  constructor
  · intro hu
    obtain ⟨j, hj, en, hr⟩ := reach_of_up h hi hu
    rwa [h.inj hj hi en] at hr
  · intro hr
    exact (up_of_reach h hi hr).2

theorem check_1 {k : Nat} (hk : k < l.length) (h : ∀ j, j < k → twiceB l j = false) (h1 : twiceB l k = true) : checkL l = ((k : Int), 6) := by
  unfold checkL
  rw [firstI_at _ _ _ hk h h1]
theorem check_2 (hn : ∀ j, j < l.length → twiceB l j = false) {k : Nat} (hk : k < l.length) (h : ∀ j, j < k → badB l j = false) (h1 : badB l k = true) : checkL l = ((k : Int), 7) := by
  unfold checkL
  rw [firstI_none _ _ hn]
  simp only
  rw [firstI_at _ _ _ hk h h1]
theorem check_3 (hn : ∀ j, j < l.length → twiceB l j = false) (hb : ∀ j, j < l.length → badB l j = false) {k : Nat} (hk : k < l.length) (h : ∀ j, j < k → cycB l j = false) (h1 : cycB l k = true) : checkL l = ((k : Int), 9) := by
  unfold checkL
  rw [firstI_none _ _ hn]
  simp only
  rw [firstI_none _ _ hb]
  simp only
  rw [firstI_at _ _ _ hk h h1]
theorem check_4 (hn : ∀ j, j < l.length → twiceB l j = false) (hb : ∀ j, j < l.length → badB l j = false) (hc : ∀ j, j < l.length → cycB l j = false) : checkL l = (0, 0) := by
  unfold checkL
  rw [firstI_none _ _ hn]
  simp only
  rw [firstI_none _ _ hb]
  simp only
  rw [firstI_none _ _ hc]

/-! ### The edges of the graph -/
def edgesL (l : List Cls) : List Edge := (List.range l.length).flatMap fun i => (supAt l i).map fun s => ⟨(i : Int), atI l s⟩
theorem next_edges (_h : Sound l) : ∀ v, (nextL (edgesL l) v).map Int.toNat = if v < l.length then succC l v else [] := by
  intro v
  unfold edgesL nextL
  have key : ∀ n, (((List.range n).flatMap fun i => (supAt l i).map fun s => (⟨(i : Int), atI l s⟩ : Edge)).filter (·.a == (v : Int))).map (·.b) = if v < n then (supAt l v).map (atI l) else [] := by
    intro n
    induction n with
    | zero => simp
    | succ n ih =>
      rw [List.range_succ, List.flatMap_append, List.filter_append, List.map_append, ih]
      have e1 : ([n].flatMap fun i => (supAt l i).map fun s => (⟨(i : Int), atI l s⟩ : Edge)) = (supAt l n).map fun s => ⟨(n : Int), atI l s⟩ := by simp
      rw [e1]
      by_cases e : v = n
      · subst e
        have : ((supAt l v).map fun s => (⟨(v : Int), atI l s⟩ : Edge)).filter (·.a == (v : Int)) = (supAt l v).map fun s => ⟨(v : Int), atI l s⟩ := by
          rw [List.filter_eq_self]
          intro a ha
          obtain ⟨s, _, rfl⟩ := List.mem_map.1 ha
          simp
        rw [this, List.map_map]
        simp
      · have : ((supAt l n).map fun s => (⟨(n : Int), atI l s⟩ : Edge)).filter (·.a == (v : Int)) = [] := by
          rw [List.filter_eq_nil_iff]
          intro a ha
          obtain ⟨s, _, rfl⟩ := List.mem_map.1 ha
          simp
          omega
        rw [this]
        by_cases h1 : v < n
        · have h2 : v < n + 1 := by omega
          simp [h1, h2]
        · have h2 : ¬ v < n + 1 := by omega
          simp [h1, h2]
  rw [key]
  split
  · rw [List.map_map]; rfl
  · rfl
end

end Go.Proofs.Ytnegamkakdbhfaa
