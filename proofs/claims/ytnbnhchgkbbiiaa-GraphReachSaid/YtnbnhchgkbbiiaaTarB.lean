/- The search with a stack: how many are left, how long the stack may be. Plain facts; no program in sight. -/
import Derived.Test.YtnbnhchgkbbiiaaTar
namespace Go.Proofs.Ytnbnhchgkbbiiaa

/-- How many the search has not come to. -/
def white (n : Nat) (S : TS) : Nat := ((List.range n).filter fun x => S.index x == 0).length
/-- The search counts those that it has come to. -/
def Counts (n : Nat) (S : TS) : Prop := S.count + white n S = n
section
variable {succ : Nat → List Nat} {n : Nat} {G : List Nat} {S T : TS} {v : Nat}
theorem white_mono (h : ∀ x, 0 < S.index x → 0 < T.index x) : white n T ≤ white n S := by
  unfold white
  have : ∀ l : List Nat, (l.filter fun x => T.index x == 0).length ≤ (l.filter fun x => S.index x == 0).length := by
    intro l
    induction l with
    | nil => exact Nat.le_refl _
    | cons y l ih =>
      by_cases h1 : S.index y = 0
      · by_cases h2 : T.index y = 0
        · simp only [List.filter_cons, h1, h2, beq_self_eq_true, if_true, List.length_cons]
          omega
        · rw [List.filter_cons_of_neg (by simp [h2]), List.filter_cons_of_pos (by simp [h1])]
          simp only [List.length_cons]
          omega
      · have h2 : T.index y ≠ 0 := by
          have := h y (by omega)
          omega
        rw [List.filter_cons_of_neg (by simp [h2]), List.filter_cons_of_neg (by simp [h1])]
        exact ih
  exact this _
theorem white_start_aux (hv : S.index v = 0) : ∀ l : List Nat, l.Nodup → (l.filter fun x => (S.start v).index x == 0).length + (if v ∈ l then 1 else 0) = (l.filter fun x => S.index x == 0).length
  | [], _ => by simp
  | y :: l, h => by
    have hn := List.nodup_cons.1 h
    have ih := white_start_aux hv l hn.2
    by_cases e : y = v
    · subst e
      have h1 : y ∉ l := hn.1
      rw [List.filter_cons_of_neg (by simp [TS.start]), List.filter_cons_of_pos (by simp [hv])]
      simp only [h1, if_false, Nat.add_zero, List.mem_cons, true_or, if_true, List.length_cons] at ih ⊢
      omega
    · have e1 : (S.start v).index y = S.index y := by simp [TS.start, e]
      have e2 : ¬ v = y := fun h => e h.symm
      by_cases hy : S.index y = 0
      · rw [List.filter_cons_of_pos (by simp [e1, hy]), List.filter_cons_of_pos (by simp [hy])]
        simp only [List.length_cons, List.mem_cons, e2, false_or]
        omega
      · rw [List.filter_cons_of_neg (by simp [e1, hy]), List.filter_cons_of_neg (by simp [hy])]
        simpa [e2] using ih
theorem white_start (hv : S.index v = 0) (hn : v < n) : white n (S.start v) + 1 = white n S := by
  have := white_start_aux hv (List.range n) List.nodup_range
  simpa [hn, white] using this
theorem Counts.first : Counts n ⟨0, fun _ => 0, fun _ => 0, fun _ => false, [], [], fun _ => 0⟩ := by
  unfold Counts white
  rw [List.filter_eq_self.2 (by simp)]
  simp
theorem Counts.start (h : Counts n S) (hv : S.index v = 0) (hn : v < n) : Counts n (S.start v) := by
  have h1 := white_start hv hn
  unfold Counts at h ⊢
  have : (S.start v).count = S.count + 1 := rfl
  omega
theorem Counts.setLow {x : Nat} (h : Counts n S) : Counts n (S.setLow v x) := h
theorem Counts.pop {st p : List Nat} {x : Nat} (h : Counts n S) : Counts n (S.pop st p x) := h
theorem Counts.lt (h : Counts n S) (hv : S.index v = 0) (hn : v < n) : S.count < n := by
  have h1 := white_start hv hn
  unfold Counts at h
  omega
theorem Counts.le (h : Counts n S) : S.count ≤ n := by
  unfold Counts at h
  omega
/-- The stack holds no vertex twice. -/
theorem TInv.nodup (h : TInv succ n S G) : S.stack.Nodup := by
  rw [List.nodup_iff_pairwise_ne]
  refine List.Pairwise.imp ?_ h.srt
  rintro a b h1 rfl
  omega
theorem TInv.stack_len (h : TInv succ n S G) : S.stack.length ≤ n := by
  have h1 : S.stack ⊆ List.range n := fun x hx => by simpa using h.bound x (h.vis x hx)
  have := List.Nodup.length_le_of_subset h.nodup h1
  simpa using this
/-- Where a vertex stands that is new on the stack. -/
theorem TInv.idx (h : TInv succ n T G) {st s : List Nat} (hst : T.stack = st ++ v :: s) : T.stack.idxOf v = st.length ∧ v ∉ st := by
  have hn := h.nodup
  rw [hst] at hn
  have hv : v ∉ st := by
    intro hv
    exact (List.nodup_append.1 hn).2.2 v hv v (by simp) rfl
  refine ⟨?_, hv⟩
  rw [hst, List.idxOf_append, if_neg hv]
  simp
/-- The least groups are as many as there are vertices, or fewer. -/
theorem TInv.least_len (h : TInv succ n S G) : S.least.length ≤ n := by
  have hnd : S.least.Nodup := by
    rw [List.nodup_iff_pairwise_ne, List.pairwise_iff_getElem]
    intro i j hi hj hij e
    have h1 := (h.lst i hi).2.1
    have h2 := (h.lst j hj).2.1
    rw [e, h2] at h1
    omega
  have hsub : S.least ⊆ List.range n := by
    intro x hx
    obtain ⟨i, hi, rfl⟩ := List.mem_iff_getElem.1 hx
    simpa using h.bound _ (h.lst i hi).1.1
  have := List.Nodup.length_le_of_subset hnd hsub
  simpa using this
end

end Go.Proofs.Ytnbnhchgkbbiiaa
