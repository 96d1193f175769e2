/- The groups told one after another: by the program (groups by number, the first that waits for none) and by the definition. Plain facts; no program in sight. -/
import Derived.Test.YtnbnhchgkbbiiaaOrd
namespace Go.Proofs.Ytnbnhchgkbbiiaa

/-! ### The groups by number -/
section
variable {n : Nat} {m : Nat → Nat → Bool}
theorem freeB_congr {d d' : Nat → Bool} (h : ∀ x, x < n → d x = d' x) (a : Nat) : freeB n m d a = freeB n m d' a := by
  unfold freeB
  rw [Bool.eq_iff_iff, List.all_eq_true, List.all_eq_true]
  constructor
  · intro k i hi
    have := k i hi
    rwa [h i (by simpa using hi)] at this
  · intro k i hi
    have := k i hi
    rwa [← h i (by simpa using hi)] at this
theorem selB_congr {d d' : Nat → Bool} (h : ∀ x, x < n → d x = d' x) : selB n m d = selB n m d' := by
  unfold selB
  have : ∀ l : List Nat, (∀ x ∈ l, x < n) → l.find? (fun a => !d a && freeB n m d a) = l.find? (fun a => !d' a && freeB n m d' a) := by
    intro l
    induction l with
    | nil => intro _; rfl
    | cons y l ih =>
      intro hl
      rw [List.find?_cons, List.find?_cons, ih (fun x hx => hl x (by simp [hx])), h y (hl y (by simp)), freeB_congr h y]
  exact this _ (by simp)
theorem selGo_congr : ∀ (f : Nat) {d d' : Nat → Bool}, (∀ x, x < n → d x = d' x) → selGo n m f d = selGo n m f d'
  | 0, _, _, _ => rfl
  | f + 1, d, d', h => by
    unfold selGo
    rw [selB_congr h]
    cases selB n m d' with
    | none => rfl
    | some a =>
      dsimp only
      rw [selGo_congr f (d := addDone n m d a) (d' := addDone n m d' a) (fun x hx => by simp [addDone, h x hx])]
theorem selGo_none {f : Nat} {d : Nat → Bool} (h : ∀ x, x < n → d x = true) : selGo n m f d = [] := by
  cases f with
  | zero => rfl
  | succ f =>
    unfold selGo
    have : selB n m d = none := by
      unfold selB
      rw [List.find?_eq_none]
      intro x hx
      simp [h x (by simpa using hx)]
    rw [this]
theorem selB_some {d : Nat → Bool} {a : Nat} : selB n m d = some a ↔ a < n ∧ d a = false ∧ freeB n m d a = true ∧ ∀ b, b < a → d b = true ∨ freeB n m d b = false := by
  unfold selB
  rw [List.find?_range_eq_some]
  constructor
  · rintro ⟨h1, h2, h3⟩
    have h1' : d a = false ∧ freeB n m d a = true := by simpa using h1
    refine ⟨by simpa using h2, h1'.1, h1'.2, ?_⟩
    intro b hb
    have := h3 b hb
    cases hd : d b
    · rw [hd] at this
      right
      simpa using this
    · exact .inl rfl
  · rintro ⟨h1, h2, h3, h4⟩
    refine ⟨by simp [h2, h3], by simpa using h1, ?_⟩
    intro b hb
    rcases h4 b hb with h | h <;> simp [h]
end
/-- The groups, each by its number; `least` is the least of each. -/
structure Grp (succ : Nat → List Nat) (n k : Nat) (grp least : Nat → Nat) : Prop where
  lt : ∀ x, x < n → grp x < k
  same : ∀ x y, x < n → y < n → (grp x = grp y ↔ RS succ x y ∧ RS succ y x)
  in_ : ∀ g, g < k → least g < n ∧ grp (least g) = g
  le : ∀ x, x < n → least (grp x) ≤ x
/-- A group's members. -/
def membersL (n : Nat) (grp : Nat → Nat) (g : Nat) : List Nat := (List.range n).filter fun x => grp x == g
/-- Does a group lead to another one that is not told? -/
def waitsB (succ : Nat → List Nat) (n : Nat) (grp : Nat → Nat) (told : Nat → Bool) (g : Nat) : Bool := (membersL n grp g).any fun v => (succ v).any fun u => grp u != g && !told (grp u)
/-- Whose group is told. -/
def doneOf (n : Nat) (grp : Nat → Nat) (told : Nat → Bool) (x : Nat) : Bool := decide (x < n) && told (grp x)
section
variable {succ : Nat → List Nat} {n k : Nat} {m : Nat → Nat → Bool} {grp least : Nat → Nat} {told : Nat → Bool}
theorem doneOf_lt {x : Nat} (hx : x < n) : doneOf n grp told x = told (grp x) := by simp [doneOf, hx]
theorem mem_members {g x : Nat} : x ∈ membersL n grp g ↔ x < n ∧ grp x = g := by simp [membersL]
theorem waitsB_false {g : Nat} : waitsB succ n grp told g = false ↔ ∀ v, v < n → grp v = g → ∀ u ∈ succ v, grp u = g ∨ told (grp u) = true := by
  unfold waitsB
  rw [Bool.eq_false_iff, ne_eq, List.any_eq_true]
  constructor
  · intro h v hv hg u hu
    apply Classical.byContradiction
    intro hno
    apply h
    refine ⟨v, mem_members.2 ⟨hv, hg⟩, List.any_eq_true.2 ⟨u, hu, ?_⟩⟩
    have h1 : grp u ≠ g := fun e => hno (.inl e)
    have h2 : told (grp u) = false := by
      cases ht : told (grp u)
      · rfl
      · exact absurd (.inr ht) hno
    simp [h1, h2]
  · rintro h ⟨v, hv, h2⟩
    obtain ⟨u, hu, h3⟩ := List.any_eq_true.1 h2
    obtain ⟨h4, h5⟩ := mem_members.1 hv
    rcases h v h4 h5 u hu with e | e <;> simp [e] at h3
theorem Grp.members_eq (hG : Grp succ n k grp least) (hm : ∀ i j, i < n → (m i j = true ↔ SR succ i j)) {a : Nat} (ha : a < n) : membersL n grp (grp a) = compL n m a := by
  unfold membersL compL
  apply List.filter_congr
  intro x hx
  have hxn : x < n := by simpa using hx
  have e2 := mem_comp hm (x := x) ha
  unfold compL at e2
  rw [List.mem_filter] at e2
  rw [Bool.eq_iff_iff, beq_iff_eq, hG.same x a hxn ha]
  constructor
  · intro h
    exact (e2.2 ⟨hxn, h.1, h.2⟩).2
  · intro h
    exact (e2.1 ⟨hx, h⟩).2
theorem Grp.waits_iff (hG : Grp succ n k grp least) (hs : ∀ x, x < n → ∀ y ∈ succ x, y < n) (hm : ∀ i j, i < n → (m i j = true ↔ SR succ i j)) (hd : DoneOk succ (doneOf n grp told)) {a : Nat} (ha : a < n) : waitsB succ n grp told (grp a) = false ↔ freeB n m (doneOf n grp told) a = true := by
  rw [waitsB_false, freeB_iff hm ha]
  constructor
  · intro h i hi hr
    have hc : ∀ x, (x < n ∧ (grp x = grp a ∨ told (grp x) = true)) → ∀ y ∈ succ x, (y < n ∧ (grp y = grp a ∨ told (grp y) = true)) := by
      rintro x ⟨hx, hx2⟩ y hy
      have hyn := hs x hx y hy
      refine ⟨hyn, ?_⟩
      rcases hx2 with hx2 | hx2
      · exact h x hx hx2 y hy
      · right
        have := hd x (by rw [doneOf_lt hx]; exact hx2) y hy
        rwa [doneOf_lt hyn] at this
    have := RS.closed (P := fun x => x < n ∧ (grp x = grp a ∨ told (grp x) = true)) hc (.inr hr) ⟨ha, .inl rfl⟩
    rcases this.2 with e | e
    · right
      obtain ⟨h1, _⟩ := (hG.same i a hi ha).1 e
      rcases h1 with rfl | h1
      · exact hr
      · exact h1
    · left
      rw [doneOf_lt hi]
      exact e
  · intro h v hv hg u hu
    have hun := hs v hv u hu
    obtain ⟨h1, h2⟩ := (hG.same v a hv ha).1 hg
    have hr : SR succ a u := by
      rcases h2 with rfl | h2
      · exact .one hu
      · exact .step h2 hu
    rcases h u hun hr with h3 | h3
    · right
      rwa [doneOf_lt hun] at h3
    · left
      exact (hG.same u a hun ha).2 ⟨.inr h3, .inr hr⟩
/-- The first group that is told next. -/
theorem Grp.pick (hG : Grp succ n k grp least) (hs : ∀ x, x < n → ∀ y ∈ succ x, y < n) (hm : ∀ i j, i < n → (m i j = true ↔ SR succ i j)) (hd : DoneOk succ (doneOf n grp told)) {by_ : List Nat} (hby : by_.Pairwise fun x y => least x < least y) (hmem : ∀ g, g ∈ by_ ↔ g < k) {g : Nat} (hg : by_.find? (fun g => !told g && !waitsB succ n grp told g) = some g) : selB n m (doneOf n grp told) = some (least g) ∧ membersL n grp g = compL n m (least g) := by
  have hp := List.find?_some hg
  have hgk := (hmem g).1 (List.mem_of_find?_eq_some hg)
  obtain ⟨hln, hlg⟩ := hG.in_ g hgk
  have hp2 : told g = false ∧ waitsB succ n grp told g = false := by simpa using hp
  refine ⟨?_, ?_⟩
  · rw [selB_some]
    refine ⟨hln, by rw [doneOf_lt hln, hlg]; exact hp2.1, (hG.waits_iff hs hm hd hln).1 (by rw [hlg]; exact hp2.2), ?_⟩
    intro b hb
    have hbn : b < n := by omega
    apply Classical.byContradiction
    intro hno
    have h1 : told (grp b) = false := by
      cases ht : told (grp b)
      · rfl
      · exact absurd (.inl (by rw [doneOf_lt hbn]; exact ht)) hno
    have h2 : freeB n m (doneOf n grp told) b = true := by
      cases ht : freeB n m (doneOf n grp told) b
      · exact absurd (.inr ht) hno
      · rfl
    have h3 := (hG.waits_iff hs hm hd hbn).2 h2
    have hle := hG.le b hbn
    -- the group of b is ahead of g
    have hin := (hmem (grp b)).2 (hG.lt b hbn)
    obtain ⟨_, l1, l2, e, hl1⟩ := List.find?_eq_some_iff_append.1 hg
    rw [e] at hin hby
    rw [List.pairwise_append] at hby
    rcases List.mem_append.1 hin with h4 | h4
    · have := hl1 _ h4
      simp [h1, h3] at this
    · rcases List.mem_cons.1 h4 with h5 | h5
      · rw [h5] at hle
        omega
      · have := (List.pairwise_cons.1 hby.2.1).1 _ h5
        omega
  · have := hG.members_eq hm hln
    rwa [hlg] at this
theorem Grp.some_left (hG : Grp succ n k grp least) (hs : ∀ x, x < n → ∀ y ∈ succ x, y < n) (hm : ∀ i j, i < n → (m i j = true ↔ SR succ i j)) (hd : DoneOk succ (doneOf n grp told)) {by_ : List Nat} (hmem : ∀ g, g ∈ by_ ↔ g < k) {g : Nat} (hg : g < k) (ht : told g = false) : ∃ g', by_.find? (fun g => !told g && !waitsB succ n grp told g) = some g' := by
  obtain ⟨hln, hlg⟩ := hG.in_ g hg
  obtain ⟨b, hb⟩ := sel_exists (done := doneOf n grp told) hm _ (least g) (Nat.le_refl _) hln (by rw [doneOf_lt hln, hlg]; exact ht)
  obtain ⟨h1, h2, h3, _⟩ := selB_some.1 hb
  cases hf : by_.find? (fun g => !told g && !waitsB succ n grp told g) with
  | some g' => exact ⟨g', rfl⟩
  | none =>
    rw [List.find?_eq_none] at hf
    have := hf (grp b) ((hmem _).2 (hG.lt b h1))
    rw [doneOf_lt h1] at h2
    rw [(hG.waits_iff hs hm hd h1).2 h3, h2] at this
    simp at this
end
/-- A group more is told. -/
def tell (told : Nat → Bool) (g : Nat) : Nat → Bool := fun x => told x || x == g
section
variable {succ : Nat → List Nat} {n k : Nat} {m : Nat → Nat → Bool} {grp least : Nat → Nat} {told : Nat → Bool} {out : List (List Nat)}
theorem Grp.done_tell (hG : Grp succ n k grp least) (hm : ∀ i j, i < n → (m i j = true ↔ SR succ i j)) {g : Nat} (hg : g < k) (x : Nat) (hx : x < n) : doneOf n grp (tell told g) x = addDone n m (doneOf n grp told) (least g) x := by
  obtain ⟨hln, hlg⟩ := hG.in_ g hg
  have h1 := hG.members_eq hm hln
  rw [hlg] at h1
  rw [doneOf_lt hx]
  unfold tell addDone
  rw [doneOf_lt hx, ← h1]
  congr 1
  rw [Bool.eq_iff_iff, beq_iff_eq, List.contains_iff_mem, mem_members]
  exact ⟨fun h => ⟨hx, h⟩, fun h => h.2⟩
theorem tell_ok (hs : ∀ x, x < n → ∀ y ∈ succ x, y < n) (hd : DoneOk succ (doneOf n grp told)) {g : Nat} (hw : waitsB succ n grp told g = false) : DoneOk succ (doneOf n grp (tell told g)) := by
  intro x hx y hy
  have hxn : x < n := by
    have : x < n ∧ tell told g (grp x) = true := by simpa [doneOf] using hx
    exact this.1
  rw [doneOf_lt hxn] at hx
  have hyn := hs x hxn y hy
  rw [doneOf_lt hyn]
  unfold tell at hx ⊢
  rw [Bool.or_eq_true, beq_iff_eq] at hx ⊢
  rcases hx with hx | hx
  · left
    have := hd x (by rw [doneOf_lt hxn]; exact hx) y hy
    rwa [doneOf_lt hyn] at this
  · rcases (waitsB_false.1 hw) x hxn hx y hy with h | h
    · exact .inr h
    · exact .inl h
/-- How many groups are told. -/
def toldCount (k : Nat) (told : Nat → Bool) : Nat := ((List.range k).filter told).length
theorem filter_tell_aux (told : Nat → Bool) (g : Nat) (ht : told g = false) : ∀ l : List Nat, l.Nodup → (l.filter (tell told g)).length = (l.filter told).length + if g ∈ l then 1 else 0
  | [], _ => by simp
  | y :: l, h => by
    have hn := List.nodup_cons.1 h
    have ih := filter_tell_aux told g ht l hn.2
    by_cases e : y = g
    · subst e
      have : y ∉ l := hn.1
      simp [tell, ht, this] at ih ⊢
      omega
    · have e1 : tell told g y = told y := by simp [tell, e]
      have e2 : ¬ g = y := fun h => e h.symm
      cases hy : told y
      · rw [List.filter_cons_of_neg (by rw [e1, hy]; simp), List.filter_cons_of_neg (by simp [hy])]
        simpa [e2] using ih
      · rw [List.filter_cons_of_pos (by rw [e1, hy]), List.filter_cons_of_pos hy]
        simp only [List.length_cons, List.mem_cons, e2, false_or]
        omega
theorem toldCount_tell {g : Nat} (hg : g < k) (ht : told g = false) : toldCount k (tell told g) = toldCount k told + 1 := by
  unfold toldCount
  rw [filter_tell_aux told g ht _ List.nodup_range]
  simp [hg]
theorem toldCount_none : toldCount k (fun _ => false) = 0 := by simp [toldCount]
theorem toldCount_le : toldCount k told ≤ k := by
  unfold toldCount
  have := List.length_filter_le told (List.range k)
  simpa using this
theorem toldCount_lt : toldCount k told < k ↔ ∃ g, g < k ∧ told g = false := by
  unfold toldCount
  constructor
  · intro h
    apply Classical.byContradiction
    intro hno
    have : (List.range k).filter told = List.range k := by
      rw [List.filter_eq_self]
      intro g hg
      cases ht : told g
      · exact absurd ⟨g, by simpa using hg, ht⟩ hno
      · rfl
    rw [this] at h
    simp at h
  · rintro ⟨g, hg, ht⟩
    have h1 := List.length_filter_lt_length_iff_exists (p := told) (l := List.range k)
    have := h1.2 ⟨g, by simpa using hg, by simp [ht]⟩
    simpa using this
/-- The groups told so far, and how they go on. -/
structure Telling (succ : Nat → List Nat) (n k : Nat) (m : Nat → Nat → Bool) (grp : Nat → Nat) (told : Nat → Bool) (out : List (List Nat)) : Prop where
  ok : DoneOk succ (doneOf n grp told)
  count : toldCount k told = out.length
  eq : out ++ selGo n m (n - out.length) (doneOf n grp told) = selGo n m n (fun _ => false)
theorem Telling.start : Telling succ n k m grp (fun _ => false) [] := by
  refine ⟨?_, toldCount_none, ?_⟩
  · intro x hx
    simp [doneOf] at hx
  · have e : doneOf n grp (fun _ => false) = fun _ => false := by
      funext x
      simp [doneOf]
    rw [e]
    rfl
theorem Telling.more (h : Telling succ n k m grp told out) (hG : Grp succ n k grp least) (hkn : k ≤ n) (hs : ∀ x, x < n → ∀ y ∈ succ x, y < n) (hm : ∀ i j, i < n → (m i j = true ↔ SR succ i j)) {by_ : List Nat} (hby : by_.Pairwise fun x y => least x < least y) (hmem : ∀ g, g ∈ by_ ↔ g < k) {g : Nat} (hg : by_.find? (fun g => !told g && !waitsB succ n grp told g) = some g) : Telling succ n k m grp (tell told g) (out ++ [membersL n grp g]) := by
  obtain ⟨h1, h2⟩ := hG.pick hs hm h.ok hby hmem hg
  have hp := List.find?_some hg
  have hgk := (hmem g).1 (List.mem_of_find?_eq_some hg)
  have hp2 : told g = false ∧ waitsB succ n grp told g = false := by simpa using hp
  have hlt : toldCount k told < k := toldCount_lt.2 ⟨g, hgk, hp2.1⟩
  have hc := h.count
  refine ⟨tell_ok hs h.ok hp2.2, ?_, ?_⟩
  · rw [toldCount_tell hgk hp2.1, hc]
    simp
  · obtain ⟨f, hf⟩ : ∃ f, n - out.length = f + 1 := ⟨n - out.length - 1, by omega⟩
    have he := h.eq
    have e1 : selGo n m (f + 1) (doneOf n grp told) = compL n m (least g) :: selGo n m f (addDone n m (doneOf n grp told) (least g)) := by
      simp only [selGo, h1]
    rw [hf, e1] at he
    have hf2 : n - (out ++ [membersL n grp g]).length = f := by
      simp
      omega
    rw [hf2, selGo_congr f (hG.done_tell hm hgk), h2, List.append_assoc]
    simpa using he
theorem Telling.done (h : Telling succ n k m grp told out) (hG : Grp succ n k grp least) (hlen : ¬ out.length < k) : out = selGo n m n (fun _ => false) := by
  have he := h.eq
  have hc := h.count
  rw [selGo_none (fun x hx => ?_), List.append_nil] at he
  · exact he
  · rw [doneOf_lt hx]
    cases ht : told (grp x)
    · have := toldCount_lt.2 ⟨grp x, hG.lt x hx, ht⟩
      omega
    · rfl
theorem Telling.next (h : Telling succ n k m grp told out) (hG : Grp succ n k grp least) (hs : ∀ x, x < n → ∀ y ∈ succ x, y < n) (hm : ∀ i j, i < n → (m i j = true ↔ SR succ i j)) {by_ : List Nat} (hmem : ∀ g, g ∈ by_ ↔ g < k) (hlen : out.length < k) : ∃ g', by_.find? (fun g => !told g && !waitsB succ n grp told g) = some g' := by
  obtain ⟨g, hg, ht⟩ := toldCount_lt.1 (by rw [h.count]; exact hlen)
  exact hG.some_left hs hm h.ok hmem hg ht
end
/-- How many are not done. -/
def undone (n : Nat) (done : Nat → Bool) : Nat := ((List.range n).filter fun x => !done x).length
/-- The groups told so far by the definition, and how they go on; nothing before a place can be told. -/
structure RefTold (n : Nat) (m : Nat → Nat → Bool) (done : Nat → Bool) (at_ : Nat) (out : List (List Nat)) : Prop where
  le : at_ ≤ n
  before : ∀ b, b < at_ → done b = true ∨ freeB n m done b = false
  eq : ∃ f, undone n done ≤ f ∧ out ++ selGo n m f done = selGo n m n (fun _ => false)
section
variable {n at_ : Nat} {m : Nat → Nat → Bool} {done : Nat → Bool} {out : List (List Nat)}
theorem undone_none : undone n (fun _ => false) = n := by
  unfold undone
  rw [List.filter_eq_self.2 (by simp)]
  simp
theorem RefTold.start : RefTold n m (fun _ => false) 0 [] := ⟨Nat.zero_le _, fun b hb => absurd hb (Nat.not_lt_zero b), n, by rw [undone_none]; exact Nat.le_refl _, rfl⟩
theorem RefTold.skip (h : RefTold n m done at_ out) (ha : at_ < n) (hs : done at_ = true ∨ freeB n m done at_ = false) : RefTold n m done (at_ + 1) out := by
  refine ⟨ha, ?_, h.eq⟩
  intro b hb
  by_cases e : b = at_
  · subst e
    exact hs
  · exact h.before b (by omega)
theorem undone_add {a : Nat} (ha : a < n) (hd : done a = false) : undone n (addDone n m done a) < undone n done := by
  unfold undone
  refine filter_lt (List.range n) ?_ ⟨a, by simpa using ha, by simp [hd], ?_⟩
  · intro x _ h
    have : done x = false ∧ x ∉ compL n m a := by simpa [addDone] using h
    simp [this.1]
  · have : a ∈ compL n m a := List.mem_filter.2 ⟨by simpa using ha, by simp⟩
    simp [addDone, this]
theorem RefTold.tell (h : RefTold n m done at_ out) (ha : at_ < n) (hd : done at_ = false) (hf : freeB n m done at_ = true) : RefTold n m (addDone n m done at_) 0 (out ++ [compL n m at_]) := by
  refine ⟨Nat.zero_le _, fun b hb => absurd hb (Nat.not_lt_zero b), ?_⟩
  obtain ⟨f, h1, h2⟩ := h.eq
  have h3 := undone_add (m := m) ha hd
  have hsel : selB n m done = some at_ := selB_some.2 ⟨ha, hd, hf, h.before⟩
  obtain ⟨f', rfl⟩ : ∃ f', f = f' + 1 := ⟨f - 1, by omega⟩
  refine ⟨f', by omega, ?_⟩
  have e1 : selGo n m (f' + 1) done = compL n m at_ :: selGo n m f' (addDone n m done at_) := by
    simp only [selGo, hsel]
  rw [e1] at h2
  simpa using h2
theorem RefTold.ended (h : RefTold n m done at_ out) (ha : ¬ at_ < n) : out = selGo n m n (fun _ => false) := by
  obtain ⟨f, _, h2⟩ := h.eq
  have hn : selB n m done = none := by
    unfold selB
    rw [List.find?_eq_none]
    intro x hx
    have hxn : x < n := by simpa using hx
    rcases h.before x (by omega) with e | e <;> simp [e]
  have : selGo n m f done = [] := by
    cases f with
    | zero => rfl
    | succ f => simp only [selGo, hn]
  rw [this, List.append_nil] at h2
  exact h2
theorem addDone_at {a i : Nat} : addDone n m done a i = (done i || (compL n m a).contains i) := rfl
theorem contains_comp {a i : Nat} (hi : i < n) : (compL n m a).contains i = (i == a || (m i a && m a i)) := by
  rw [Bool.eq_iff_iff, List.contains_iff_mem]
  unfold compL
  rw [List.mem_filter]
  simp [hi]
end
/-- The search tells the groups by number. -/
theorem TInv.grps {succ : Nat → List Nat} {n : Nat} {S : TS} (h : TInv succ n S []) (ha : ∀ x, x < n → 0 < S.index x) : Grp succ n S.least.length S.group (fun g => S.least.getD g 0) := by
  obtain ⟨h1, h2, h3⟩ := h.done ha
  refine ⟨h2, h1, ?_, ?_⟩
  · intro g hg
    obtain ⟨h4, h5, _⟩ := h3 g hg
    simp only [List.getD_eq_getElem?_getD, List.getElem?_eq_getElem hg, Option.getD_some]
    exact ⟨h4, h5⟩
  · intro x hx
    obtain ⟨_, _, h6⟩ := h3 _ (h2 x hx)
    simp only [List.getD_eq_getElem?_getD, List.getElem?_eq_getElem (h2 x hx), Option.getD_some]
    exact h6 x hx rfl
section
variable {succ : Nat → List Nat} {n k : Nat} {m : Nat → Nat → Bool} {grp least : Nat → Nat}
theorem Grp.inj (hG : Grp succ n k grp least) {g g' : Nat} (h : g < k) (h' : g' < k) (e : least g = least g') : g = g' := by
  rw [← (hG.in_ g h).2, ← (hG.in_ g' h').2, e]
/-- No more groups than vertices. -/
theorem Grp.le_n (hG : Grp succ n k grp least) : k ≤ n := by
  have hnd : ((List.range k).map least).Nodup := by
    rw [List.nodup_iff_pairwise_ne, List.pairwise_map]
    refine List.Pairwise.imp_of_mem (R := fun a b => a ≠ b) ?_ (List.nodup_iff_pairwise_ne.1 List.nodup_range)
    intro a b ha hb hne e
    exact hne (hG.inj (by simpa using ha) (by simpa using hb) e)
  have hsub : ((List.range k).map least) ⊆ List.range n := by
    intro x hx
    obtain ⟨g, hg, rfl⟩ := List.mem_map.1 hx
    simpa using (hG.in_ g (by simpa using hg)).1
  have := List.Nodup.length_le_of_subset hnd hsub
  simpa using this
theorem Grp.sorted (hG : Grp succ n k grp least) {by_ : List Nat} (hp : List.Perm by_ (List.range k)) (hs : by_.Pairwise fun a b => least a ≤ least b) : (by_.Pairwise fun a b => least a < least b) ∧ ∀ g, g ∈ by_ ↔ g < k := by
  have hmem : ∀ g, g ∈ by_ ↔ g < k := fun g => by rw [hp.mem_iff]; simp
  refine ⟨?_, hmem⟩
  have hnd : by_.Nodup := hp.nodup_iff.2 List.nodup_range
  have h2 := hs.and (List.nodup_iff_pairwise_ne.1 hnd)
  refine List.Pairwise.imp_of_mem ?_ h2
  rintro a b ha hb ⟨h3, h4⟩
  have : least a ≠ least b := fun e => h4 (hG.inj ((hmem a).1 ha) ((hmem b).1 hb) e)
  omega
end
/-- The groups as the definition tells them. -/
def groupsOf (n : Nat) (m : Nat → Nat → Bool) : List (List Nat) := selGo n m n (fun _ => false)
section
variable {succ : Nat → List Nat} {n : Nat} {m : Nat → Nat → Bool}
/-- Each group told is the group of a vertex. -/
theorem selGo_mem : ∀ (f : Nat) (d : Nat → Bool) (g : List Nat), g ∈ selGo n m f d → ∃ a, a < n ∧ d a = false ∧ g = compL n m a
  | 0, _, _, h => by cases h
  | f + 1, d, g, h => by
    cases hs : selB n m d with
    | none =>
      simp only [selGo, hs] at h
      cases h
    | some a =>
      simp only [selGo, hs] at h
      obtain ⟨h1, h2, _, _⟩ := selB_some.1 hs
      rcases List.mem_cons.1 h with e | h
      · exact ⟨a, h1, h2, e⟩
      · obtain ⟨b, h3, h4, h5⟩ := selGo_mem f _ g h
        have : d b = false := by
          have : d b = false ∧ b ∉ compL n m a := by simpa [addDone] using h4
          exact this.1
        exact ⟨b, h3, this, h5⟩
/-- A group has its vertex; its first is in it. -/
theorem comp_self {a : Nat} (ha : a < n) : a ∈ compL n m a := List.mem_filter.2 ⟨by simpa using ha, by simp⟩
/-- A group of one goes round just if its one leads to itself. -/
theorem comp_one (hs : ∀ x, x < n → ∀ y ∈ succ x, y < n) (hm : ∀ i j, i < n → (m i j = true ↔ SR succ i j)) {a x : Nat} (ha : a < n) (he : compL n m a = [x]) : x = a ∧ (SR succ a a ↔ a ∈ succ a) := by
  have hx : x = a := by
    have := comp_self (m := m) ha
    rw [he] at this
    exact (List.mem_singleton.1 this).symm
  refine ⟨hx, ?_, fun h => .one h⟩
  intro h
  have key : ∀ {p q}, SR succ p q → p = a → q = a → a ∈ succ a := by
    intro p q h
    induction h with
    | one h0 =>
      rintro rfl rfl
      exact h0
    | step h1 h2 ih =>
      rename_i b c
      rintro rfl rfl
      have hb : b < n := by
        have hc : ∀ x, x < n → ∀ y ∈ succ x, y < n := hs
        exact RS.closed (P := fun x => x < n) hc (.inr h1) ha
      have : b ∈ compL n m c := (mem_comp hm ha).2 ⟨hb, .inr (.one h2), .inr h1⟩
      rw [he, hx] at this
      have hbc : b = c := List.mem_singleton.1 this
      subst hbc
      exact h2
  exact key h rfl rfl
end

end Go.Proofs.Ytnbnhchgkbbiiaa
