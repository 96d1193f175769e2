/- Plain facts on ways through a graph: the search by levels finds the least one. No program in sight. -/
import Derived.Test.YtcnkfkjgpdmebaaGreatDoorJN34
/- Plain facts on ways through a graph: the search by levels finds the least one. No program in sight. -/
namespace Go.Proofs.YtcnkfkjgpdmebaaGreatDoor

/-! ### Ways through a graph, told by places; the least one -/
section
variable (succ : Nat → List Nat)
/-- Where a way leads. -/
def endp : Nat → List Nat → Option Nat
  | a, [] => some a
  | a, k :: p => match (succ a)[k]? with | some b => endp b p | none => none
/-- Shorter, or as long and ahead. -/
def Sl (p q : List Nat) : Prop := p.length < q.length ∨ (p.length = q.length ∧ p < q)
/-- The least way. -/
def Least (a c : Nat) (p : List Nat) : Prop := endp succ a p = some c ∧ ∀ q, endp succ a q = some c → p = q ∨ Sl p q

theorem endp_append : ∀ (p q : List Nat) (a : Nat), endp succ a (p ++ q) = (endp succ a p).bind fun b => endp succ b q
  | [], q, a => rfl
  | k :: p, q, a => by
    simp only [List.cons_append, endp]
    cases (succ a)[k]? with
    | none => rfl
    | some b => exact endp_append p q b
theorem endp_snoc (p : List Nat) (k a c : Nat) : endp succ a (p ++ [k]) = some c ↔ ∃ b, endp succ a p = some b ∧ (succ b)[k]? = some c := by
  rw [endp_append, Option.bind_eq_some_iff]
  constructor
  · rintro ⟨b, h1, h2⟩
    refine ⟨b, h1, ?_⟩
    simp only [endp] at h2
    split at h2
    · rename_i d hd; rw [hd]; exact h2
    · cases h2
  · rintro ⟨b, h1, h2⟩
    exact ⟨b, h1, by simp [endp, h2]⟩
end

theorem nlt_irrefl (p : List Nat) : ¬ p < p := List.lt_irrefl p
theorem nlt_trans {a b c : List Nat} (h : a < b) (k : b < c) : a < c := List.lt_trans h k
theorem nlt_total (a b : List Nat) : a < b ∨ a = b ∨ b < a := by
  by_cases h : a < b
  · exact .inl h
  · by_cases k : b < a
    · exact .inr (.inr k)
    · exact .inr (.inl (List.le_antisymm (List.not_lt.1 k) (List.not_lt.1 h)))
theorem Sl.irrefl (p : List Nat) : ¬ Sl p p := by
  rintro (h | ⟨_, h⟩)
  · omega
  · exact nlt_irrefl p h
theorem Sl.trans {a b c : List Nat} (h : Sl a b) (k : Sl b c) : Sl a c := by
  rcases h with h | ⟨h1, h2⟩ <;> rcases k with k | ⟨k1, k2⟩
  · exact .inl (by omega)
  · exact .inl (by omega)
  · exact .inl (by omega)
  · exact .inr ⟨by omega, nlt_trans h2 k2⟩
theorem Sl.total (a b : List Nat) : Sl a b ∨ a = b ∨ Sl b a := by
  unfold Sl
  rcases Nat.lt_trichotomy a.length b.length with h | h | h
  · exact .inl (.inl h)
  · rcases nlt_total a b with k | k | k
    · exact .inl (.inr ⟨h, k⟩)
    · exact .inr (.inl k)
    · exact .inr (.inr (.inr ⟨h.symm, k⟩))
  · exact .inr (.inr (.inl h))
theorem lt_app : ∀ {p q : List Nat}, p.length = q.length → p < q → ∀ (r s : List Nat), p ++ r < q ++ s
  | [], [], _, h, _, _ => absurd h (nlt_irrefl _)
  | a :: p, b :: q, hl, h, r, s => by
    simp only [List.cons_append, List.cons_lt_cons_iff] at h ⊢
    rcases h with h | ⟨h1, h2⟩
    · exact .inl h
    · exact .inr ⟨h1, lt_app (by simpa using hl) h2 r s⟩
theorem Sl.app1 {p q : List Nat} (h : Sl p q) (j k : Nat) : Sl (p ++ [j]) (q ++ [k]) := by
  rcases h with h | ⟨h1, h2⟩
  · exact .inl (by simp; omega)
  · exact .inr ⟨by simp [h1], lt_app h1 h2 _ _⟩
theorem Sl.snoc (p : List Nat) (k : Nat) : Sl p (p ++ [k]) := .inl (by simp)
theorem app_lt : ∀ (p : List Nat) {j k : Nat}, j < k → p ++ [j] < p ++ [k]
  | [], j, k, h => by simp [List.cons_lt_cons_iff, h]
  | a :: p, j, k, h => by
    simp only [List.cons_append, List.cons_lt_cons_iff]
    exact .inr ⟨trivial, app_lt p h⟩

section
variable {succ : Nat → List Nat} {a c : Nat} {p q : List Nat}
theorem Least.unique (h : Least succ a c p) (k : Least succ a c q) : p = q := by
  rcases h.2 q k.1 with h1 | h1
  · exact h1
  · rcases k.2 p h.1 with h2 | h2
    · exact h2.symm
    · exact absurd (h1.trans h2) (Sl.irrefl p)
/-- What begins a least way is one. -/
theorem Least.front {k : Nat} (h : Least succ a c (p ++ [k])) : ∃ b, Least succ a b p ∧ (succ b)[k]? = some c := by
  obtain ⟨b, h1, h2⟩ := (endp_snoc succ p k a c).1 h.1
  refine ⟨b, ⟨h1, fun q hq => ?_⟩, h2⟩
  rcases Sl.total p q with h3 | h3 | h3
  · exact .inr h3
  · exact .inl h3
  · have h4 := h.2 (q ++ [k]) ((endp_snoc succ q k a c).2 ⟨b, hq, h2⟩)
    have h5 := h3.app1 k k
    rcases h4 with h4 | h4
    · rw [h4] at h5; exact absurd h5 (Sl.irrefl _)
    · exact absurd (h4.trans h5) (Sl.irrefl _)
theorem Least.take : ∀ (r p : List Nat) (c : Nat), Least succ a c (p ++ r) → ∃ b, Least succ a b p
  | [], p, c, h => ⟨c, by simpa using h⟩
  | k :: r, p, c, h => by
    have h' : Least succ a c ((p ++ [k]) ++ r) := by simpa using h
    obtain ⟨b, hb⟩ := Least.take r (p ++ [k]) c h'
    obtain ⟨b', hb', _⟩ := hb.front
    exact ⟨b', hb'⟩
end

/-! ### All ways of so many places -/
section
variable (succ : Nat → List Nat)
def pathR (b : Nat) : Nat → Nat → Option (List Nat)
  | 0, a => if a = b then some [] else none
  | n + 1, a => (succ a).zipIdx.findSome? fun x => (pathR b n x.1).map (x.2 :: ·)
theorem findSome_zip {β : Type} (f : Nat × Nat → Option β) : ∀ (l : List Nat) (i : Nat),
    (∀ r, (l.zipIdx i).findSome? f = some r → ∃ k x, l[k]? = some x ∧ f (x, i + k) = some r ∧ ∀ j y, j < k → l[j]? = some y → f (y, i + j) = none) ∧
    ((l.zipIdx i).findSome? f = none → ∀ k x, l[k]? = some x → f (x, i + k) = none)
  | [], i => ⟨fun r h => by simp at h, fun _ k x h => by simp at h⟩
  | y :: l, i => by
    obtain ⟨h1, h2⟩ := findSome_zip f l (i + 1)
    simp only [List.zipIdx_cons, List.findSome?_cons]
    cases hy : f (y, i) with
    | some r0 =>
      refine ⟨fun r h => ?_, fun h => by cases h⟩
      injection h with h
      subst h
      exact ⟨0, y, rfl, hy, fun j _ hj => absurd hj (by omega)⟩
    | none =>
      refine ⟨fun r h => ?_, fun h k x hk => ?_⟩
      · obtain ⟨k, x, e1, e2, e3⟩ := h1 r h
        refine ⟨k + 1, x, by simpa using e1, by rw [← e2]; congr 2; omega, fun j z hj hz => ?_⟩
        rcases j with _ | j
        · simp at hz; subst hz; exact hy
        · have := e3 j z (by omega) (by simpa using hz)
          rw [← this]; congr 2; omega
      · rcases k with _ | k
        · simp at hk; subst hk; exact hy
        · have := h2 h k x (by simpa using hk)
          rw [← this]; congr 2; omega
theorem pathR_spec (b : Nat) : ∀ (n a : Nat), (∀ p, pathR succ b n a = some p → p.length = n ∧ endp succ a p = some b ∧ ∀ q, q.length = n → endp succ a q = some b → p = q ∨ p < q) ∧
    (pathR succ b n a = none → ∀ q, q.length = n → endp succ a q ≠ some b)
  | 0, a => by
    constructor
    · intro p h
      simp only [pathR] at h
      split at h
      · rename_i hab
        injection h with h
        subst h hab
        exact ⟨rfl, rfl, fun q hq _ => .inl (List.eq_nil_of_length_eq_zero hq).symm⟩
      · cases h
    · intro h q hq
      simp only [pathR] at h
      split at h
      · cases h
      · rename_i hab
        rw [List.eq_nil_of_length_eq_zero hq]
        simp only [endp]
        intro e; injection e with e; exact hab e
  | n + 1, a => by
    have ih := fun x => pathR_spec b n x
    obtain ⟨h1, h2⟩ := findSome_zip (fun x : Nat × Nat => (pathR succ b n x.1).map (x.2 :: ·)) (succ a) 0
    constructor
    · intro p h
      obtain ⟨k, x, e1, e2, e3⟩ := h1 p h
      simp only [Nat.zero_add, Option.map_eq_some_iff] at e2
      obtain ⟨r, e2, rfl⟩ := e2
      obtain ⟨i1, i2, i3⟩ := (ih x).1 r e2
      refine ⟨by simp [i1], by simp [endp, e1, i2], fun q hq he => ?_⟩
      rcases q with _ | ⟨j, q⟩
      · simp at hq
      · simp only [endp] at he
        split at he
        · rename_i y hy
          have hq' : q.length = n := by simpa using hq
          rcases Nat.lt_trichotomy k j with hkj | hkj | hkj
          · exact .inr (by rw [List.cons_lt_cons_iff]; exact .inl hkj)
          · subst hkj
            rw [e1] at hy
            injection hy with hy
            subst hy
            rcases i3 q hq' he with i4 | i4
            · exact .inl (by rw [i4])
            · exact .inr (by rw [List.cons_lt_cons_iff]; exact .inr ⟨rfl, i4⟩)
          · have := e3 j y hkj hy
            simp only [Nat.zero_add, Option.map_eq_none_iff] at this
            exact absurd he ((ih y).2 this q hq')
        · cases he
    · intro h q hq he
      rcases q with _ | ⟨j, q⟩
      · simp at hq
      · simp only [endp] at he
        split at he
        · rename_i y hy
          have := h2 h j y hy
          simp only [Nat.zero_add, Option.map_eq_none_iff] at this
          exact (ih y).2 this q (by simpa using hq) he
        · cases he
/-- The first length at which there is a way. -/
def pathUpto (a b : Nat) (N : Nat) : Option (List Nat) := (List.range N).findSome? fun n => pathR succ b n a
theorem least_some {a c : Nat} {q : List Nat} (h : endp succ a q = some c) : ∃ p, Least succ a c p := by
  -- the least length
  have key : ∀ n, (∃ q, q.length ≤ n ∧ endp succ a q = some c) → ∃ p, Least succ a c p := by
    intro n
    induction n with
    | zero =>
      rintro ⟨q, hq, he⟩
      have : q = [] := List.eq_nil_of_length_eq_zero (by omega)
      subst this
      refine ⟨[], he, fun r _ => ?_⟩
      rcases r with _ | ⟨k, r⟩
      · exact .inl rfl
      · exact .inr (.inl (by simp))
    | succ n ih =>
      intro hex
      by_cases hs : ∃ q, q.length ≤ n ∧ endp succ a q = some c
      · exact ih hs
      · obtain ⟨q, hq, he⟩ := hex
        have hqn : q.length = n + 1 := by
          rcases Nat.lt_or_ge q.length (n + 1) with h1 | h1
          · exact absurd ⟨q, by omega, he⟩ hs
          · omega
        have hmin : ∀ r, endp succ a r = some c → n + 1 ≤ r.length := by
          intro r hr
          rcases Nat.lt_or_ge r.length (n + 1) with h1 | h1
          · exact absurd ⟨r, by omega, hr⟩ hs
          · exact h1
        obtain ⟨s1, s2⟩ := pathR_spec succ c (n + 1) a
        cases hp : pathR succ c (n + 1) a with
        | none => exact absurd he (s2 hp q hqn)
        | some p =>
          obtain ⟨p1, p2, p3⟩ := s1 p hp
          refine ⟨p, p2, fun r hr => ?_⟩
          rcases Nat.lt_or_ge (n + 1) r.length with h1 | h1
          · exact .inr (.inl (by omega))
          · have := hmin r hr
            rcases p3 r (by omega) hr with h2 | h2
            · exact .inl h2
            · exact .inr (.inr ⟨by omega, h2⟩)
  exact key q.length ⟨q, Nat.le_refl _, h⟩
theorem findSome_range {β : Type} (f : Nat → Option β) : ∀ N, (∀ r, (List.range N).findSome? f = some r → ∃ n, n < N ∧ f n = some r ∧ ∀ m, m < n → f m = none) ∧ ((List.range N).findSome? f = none → ∀ n, n < N → f n = none)
  | 0 => ⟨fun r h => by simp at h, fun _ n h => absurd h (by omega)⟩
  | N + 1 => by
    obtain ⟨h1, h2⟩ := findSome_range f N
    rw [List.range_succ, List.findSome?_append]
    cases hN : (List.range N).findSome? f with
    | some r0 =>
      refine ⟨fun r h => ?_, fun h => by simp at h⟩
      simp at h
      subst h
      obtain ⟨n, g1, g2, g3⟩ := h1 r0 hN
      exact ⟨n, by omega, g2, g3⟩
    | none =>
      have h3 := h2 hN
      refine ⟨fun r h => ?_, fun h n hn => ?_⟩
      · simp at h
        exact ⟨N, by omega, h, h3⟩
      · simp at h
        rcases Nat.lt_or_ge n N with g | g
        · exact h3 n g
        · rw [show n = N by omega]; exact h
theorem pathUpto_least {a b N : Nat} {p : List Nat} (h : pathUpto succ a b N = some p) : Least succ a b p := by
  obtain ⟨n, _, h2, h3⟩ := (findSome_range _ N).1 p h
  obtain ⟨i1, i2, i3⟩ := (pathR_spec succ b n a).1 p h2
  refine ⟨i2, fun q hq => ?_⟩
  rcases Nat.lt_trichotomy q.length n with g | g | g
  · exact absurd hq ((pathR_spec succ b q.length a).2 (h3 _ g) q rfl)
  · rcases i3 q g hq with i4 | i4
    · exact .inl i4
    · exact .inr (.inr ⟨by omega, i4⟩)
  · exact .inr (.inl (by omega))
theorem pathUpto_none {a b N : Nat} (h : pathUpto succ a b N = none) {q : List Nat} (hq : endp succ a q = some b) : N ≤ q.length := by
  rcases Nat.lt_or_ge q.length N with g | g
  · exact absurd hq ((pathR_spec succ b q.length a).2 ((findSome_range _ N).2 h _ g) q rfl)
  · exact g
end

/-! ### A least way is shorter than there are vertices -/
theorem pigeon : ∀ (n : Nat) (l : List Nat), l.Nodup → (∀ x ∈ l, x < n) → l.length ≤ n
  | 0, [], _, _ => by simp
  | 0, x :: l, _, h => absurd (h x (by simp)) (by omega)
  | n + 1, l, hd, h => by
    have h1 := pigeon n (l.erase n) (hd.erase n) (fun x hx => by
      have h2 := (List.Nodup.mem_erase_iff hd).1 hx
      have := h x h2.2
      have := h2.1
      omega)
    rw [List.length_erase] at h1
    split at h1 <;> omega
theorem Least.short {succ : Nat → List Nat} {a c N : Nat} {p : List Nat} (ha : a < N) (hs : ∀ x, x < N → ∀ y ∈ succ x, y < N) (h : Least succ a c p) : p.length < N := by
  have hend : ∀ (q : List Nat) (x y : Nat), x < N → endp succ x q = some y → y < N := by
    intro q
    induction q with
    | nil => intro x y hx he; simp only [endp, Option.some.injEq] at he; omega
    | cons k q ih =>
      intro x y hx he
      simp only [endp] at he
      split at he
      · rename_i z hz
        exact ih z y (hs x hx z (List.mem_of_getElem? hz)) he
      · cases he
  have hl : ∀ i, ∃ b, i ≤ p.length → Least succ a b (p.take i) := by
    intro i
    by_cases hi : i ≤ p.length
    · have h' : Least succ a c (p.take i ++ p.drop i) := by rw [List.take_append_drop]; exact h
      obtain ⟨b, hb⟩ := Least.take _ _ _ h'
      exact ⟨b, fun _ => hb⟩
    · exact ⟨0, fun h => absurd h hi⟩
  have hf : ∀ n, n ≤ p.length + 1 → ∃ l : List Nat, l.length = n ∧ l.Nodup ∧ (∀ x ∈ l, x < N) ∧ ∀ x ∈ l, ∃ i, i < n ∧ Least succ a x (p.take i) := by
    intro n
    induction n with
    | zero => exact fun _ => ⟨[], rfl, List.nodup_nil, by simp, by simp⟩
    | succ n ih =>
      intro hn
      obtain ⟨l, l1, l2, l3, l4⟩ := ih (by omega)
      obtain ⟨b, hb⟩ := hl n
      have hb := hb (by omega)
      refine ⟨b :: l, by simp [l1], List.nodup_cons.2 ⟨fun hbl => ?_, l2⟩, ?_, ?_⟩
      · obtain ⟨i, hi, hli⟩ := l4 b hbl
        have := congrArg List.length (hb.unique hli)
        simp at this
        omega
      · intro x hx
        rcases List.mem_cons.1 hx with rfl | hx
        · exact hend _ a _ ha hb.1
        · exact l3 x hx
      · intro x hx
        rcases List.mem_cons.1 hx with rfl | hx
        · exact ⟨n, by omega, hb⟩
        · obtain ⟨i, hi, hli⟩ := l4 x hx
          exact ⟨i, by omega, hli⟩
  obtain ⟨l, l1, l2, l3, _⟩ := hf (p.length + 1) (Nat.le_refl _)
  have := pigeon N l l2 l3
  omega
/-! ### The search level by level -/
section
variable (succ : Nat → List Nat) (b : Nat)
def outs (x : Nat) (p : List Nat) : List (Nat × List Nat) := (succ x).zipIdx.map fun y => (y.1, p ++ [y.2])
def bfsGo : Nat → (Nat → Bool) → List (Nat × List Nat) → Option (List Nat)
  | 0, _, _ => none
  | _ + 1, _, [] => none
  | f + 1, seen, (x, p) :: todo => if x = b then some p else if seen x then bfsGo f seen todo else bfsGo f (fun j => j == x || seen j) (todo ++ outs succ x p)
def restG (seen : Nat → Bool) (N : Nat) : Nat := ((List.range N).map fun j => if seen j then 0 else (succ j).length).sum
theorem restG_same {seen seen' : Nat → Bool} : ∀ N, (∀ j, j < N → seen' j = seen j) → restG succ seen' N = restG succ seen N
  | 0, _ => rfl
  | N + 1, h => by
    have ih := restG_same N (fun j hj => h j (by omega))
    unfold restG at ih ⊢
    rw [List.range_succ, List.map_append, List.map_append, List.sum_append, List.sum_append, ih]
    simp [h N (by omega)]
theorem restG_see {seen : Nat → Bool} {x : Nat} (hx : seen x = false) : ∀ N, x < N → restG succ (fun j => j == x || seen j) N + (succ x).length = restG succ seen N
  | 0, h => absurd h (by omega)
  | N + 1, h => by
    by_cases e : x = N
    · subst e
      have ih := restG_same succ (seen := seen) (seen' := fun j => j == x || seen j) x (fun j hj => by
        have : (j == x) = false := by simp; omega
        simp [this])
      unfold restG at ih ⊢
      rw [List.range_succ, List.map_append, List.map_append, List.sum_append, List.sum_append, ih]
      simp [hx]
    · have ih := restG_see hx N (by omega)
      have hN : ¬ N = x := fun h => e h.symm
      unfold restG at ih ⊢
      rw [List.range_succ, List.map_append, List.map_append, List.sum_append, List.sum_append, ← ih]
      simp [hN]
      omega
end

structure Bi (succ : Nat → List Nat) (a b : Nat) (seen : Nat → Bool) (todo : List (Nat × List Nat)) : Prop where
  v : ∀ q ∈ todo, endp succ a q.2 = some q.1
  s : todo.Pairwise fun p q => Sl p.2 q.2
  d : ∀ q ∈ todo, q.2 ≠ [] → ∀ p ∈ todo, Sl q.2.dropLast p.2
  u : ∀ c p, Least succ a c p → seen c = false → ∃ q ∈ todo, q.2 <+: p
  n : ∀ c p, Least succ a c p → seen c = true → ∀ q ∈ todo, Sl p q.2
  b : seen b = false

theorem prefix_sl {p q : List Nat} (h : p <+: q) : p = q ∨ Sl p q := by
  obtain ⟨r, rfl⟩ := h
  rcases r with _ | ⟨k, r⟩
  · exact .inl (by simp)
  · exact .inr (.inl (by simp))

section
variable {succ : Nat → List Nat} {a b : Nat} {seen : Nat → Bool} {x : Nat} {p : List Nat} {todo : List (Nat × List Nat)}
theorem mem_outs {q : Nat × List Nat} : q ∈ outs succ x p ↔ ∃ k, (succ x)[k]? = some q.1 ∧ q.2 = p ++ [k] := by
  unfold outs
  rw [List.mem_map]
  constructor
  · rintro ⟨⟨y, k⟩, h, rfl⟩
    exact ⟨k, by simpa [List.mem_zipIdx_iff_getElem?] using h, rfl⟩
  · rintro ⟨k, h1, h2⟩
    exact ⟨(q.1, k), by simpa [List.mem_zipIdx_iff_getElem?] using h1, by rw [← h2]⟩
theorem outs_sorted : (outs succ x p).Pairwise fun p q => Sl p.2 q.2 := by
  unfold outs
  rw [List.pairwise_map]
  have : ∀ (l : List Nat) (i : Nat), (l.zipIdx i).Pairwise fun y z => y.2 < z.2 := by
    intro l
    induction l with
    | nil => intro i; simp
    | cons y l ih =>
      intro i
      rw [List.zipIdx_cons, List.pairwise_cons]
      refine ⟨fun z hz => ?_, ih (i + 1)⟩
      have := List.le_snd_of_mem_zipIdx hz
      simp only
      omega
  exact (this (succ x) 0).imp fun {y z} h => .inr ⟨by simp, app_lt p h⟩
theorem Bi.head (h : Bi succ a b seen ((x, p) :: todo)) (hx : seen x = false) : Least succ a x p := by
  obtain ⟨m, hm⟩ := least_some (succ := succ) (h.v (x, p) (by simp))
  obtain ⟨q, hq, hpre⟩ := h.u x m hm hx
  have h1 : p = q.2 ∨ Sl p q.2 := by
    rcases List.mem_cons.1 hq with rfl | hq
    · exact .inl rfl
    · exact .inr ((List.pairwise_cons.1 h.s).1 q hq)
  have h2 := prefix_sl hpre
  have h3 := hm.2 p (h.v (x, p) (by simp))
  have h4 : p = m := by
    rcases h3 with h3 | h3
    · exact h3.symm
    · have h5 : p = m ∨ Sl p m := by
        rcases h1 with h1 | h1 <;> rcases h2 with h2 | h2
        · exact .inl (h1.trans h2)
        · exact .inr (by rw [h1]; exact h2)
        · exact .inr (by rw [← h2]; exact h1)
        · exact .inr (h1.trans h2)
      rcases h5 with h5 | h5
      · exact h5
      · exact absurd (h5.trans h3) (Sl.irrefl p)
  rw [h4]; exact hm
theorem Bi.skip (h : Bi succ a b seen ((x, p) :: todo)) (hx : seen x = true) : Bi succ a b seen todo where
  v q hq := h.v q (by simp [hq])
  s := (List.pairwise_cons.1 h.s).2
  d q hq hn r hr := h.d q (by simp [hq]) hn r (by simp [hr])
  n c r hr hc q hq := h.n c r hr hc q (by simp [hq])
  b := h.b
  u c r hr hc := by
    obtain ⟨q, hq, hpre⟩ := h.u c r hr hc
    rcases List.mem_cons.1 hq with rfl | hq
    · obtain ⟨t, rfl⟩ := hpre
      obtain ⟨y, hy⟩ := Least.take t p c hr
      have hv := h.v (x, p) (by simp)
      have e : y = x := by have := hy.1; rw [hv] at this; injection this with this; exact this.symm
      subst e
      exact absurd (h.n y p hy hx (y, p) (by simp)) (Sl.irrefl p)
    · exact ⟨q, hq, hpre⟩
theorem Bi.step (h : Bi succ a b seen ((x, p) :: todo)) (hx : seen x = false) (hb : x ≠ b) : Bi succ a b (fun j => j == x || seen j) (todo ++ outs succ x p) := by
  have hl := h.head hx
  obtain ⟨s1, s2⟩ := List.pairwise_cons.1 h.s
  have hne : ∀ q ∈ todo, q.2 ≠ [] := by
    intro q hq e
    rcases s1 q hq with h1 | ⟨h1, h2⟩
    · rw [e] at h1; simp at h1
    · rw [e] at h1 h2
      have : p = [] := List.eq_nil_of_length_eq_zero h1
      simp only [this] at h2
      exact nlt_irrefl _ h2
  have hout : ∀ q ∈ todo, ∀ k, Sl q.2 (p ++ [k]) := by
    intro q hq k
    have h1 := h.d q (by simp [hq]) (hne q hq) (x, p) (by simp)
    have h2 := h1.app1 (q.2.getLast (hne q hq)) k
    rwa [List.dropLast_concat_getLast] at h2
  constructor
  · intro q hq
    rcases List.mem_append.1 hq with hq | hq
    · exact h.v q (by simp [hq])
    · obtain ⟨k, h1, h2⟩ := mem_outs.1 hq
      rw [h2]
      exact (endp_snoc succ p k a q.1).2 ⟨x, h.v (x, p) (by simp), h1⟩
  · refine List.pairwise_append.2 ⟨s2, outs_sorted, fun q hq r hr => ?_⟩
    obtain ⟨k, _, h2⟩ := mem_outs.1 hr
    rw [h2]
    exact hout q hq k
  · intro q hq hn r hr
    have hd : Sl q.2.dropLast p ∨ q.2.dropLast = p := by
      rcases List.mem_append.1 hq with hq | hq
      · exact .inl (h.d q (by simp [hq]) hn (x, p) (by simp))
      · obtain ⟨k, _, h2⟩ := mem_outs.1 hq
        exact .inr (by rw [h2]; simp)
    have hr' : Sl p r.2 := by
      rcases List.mem_append.1 hr with hr | hr
      · exact s1 r hr
      · obtain ⟨k, _, h2⟩ := mem_outs.1 hr
        rw [h2]; exact Sl.snoc p k
    rcases hd with hd | hd
    · exact hd.trans hr'
    · rw [hd]; exact hr'
  · intro c r hr hc
    simp only [Bool.or_eq_false_iff, beq_eq_false_iff_ne] at hc
    obtain ⟨hcx, hc⟩ := hc
    obtain ⟨q, hq, hpre⟩ := h.u c r hr hc
    rcases List.mem_cons.1 hq with rfl | hq
    · obtain ⟨t, rfl⟩ := hpre
      rcases t with _ | ⟨k, t⟩
      · have h1 := hr.1
        have h2 := h.v (x, p) (by simp)
        simp only [List.append_nil] at h1
        rw [h1] at h2
        injection h2 with h2
        exact absurd h2 hcx
      · have hr' : Least succ a c ((p ++ [k]) ++ t) := by simpa using hr
        obtain ⟨y, hy⟩ := Least.take t (p ++ [k]) c hr'
        obtain ⟨z, hz1, hz2⟩ := (endp_snoc succ p k a y).1 hy.1
        have h2 := h.v (x, p) (by simp)
        rw [hz1] at h2
        injection h2 with h2
        subst h2
        exact ⟨(y, p ++ [k]), List.mem_append.2 (.inr (mem_outs.2 ⟨k, hz2, rfl⟩)), ⟨t, by simp⟩⟩
    · exact ⟨q, List.mem_append.2 (.inl hq), hpre⟩
  · intro c r hr hc q hq
    have hrp : r = p ∨ Sl r p := by
      by_cases e : c = x
      · subst e; exact .inl (hr.unique hl)
      · have : (c == x) = false := by simp [e]
        simp only [this, Bool.false_or] at hc
        exact .inr (h.n c r hr hc (x, p) (by simp))
    have hr' : Sl p q.2 := by
      rcases List.mem_append.1 hq with hq | hq
      · exact s1 q hq
      · obtain ⟨k, _, h2⟩ := mem_outs.1 hq
        rw [h2]; exact Sl.snoc p k
    rcases hrp with hrp | hrp
    · rw [hrp]; exact hr'
    · exact hrp.trans hr'
  · have : (b == x) = false := by simp; exact fun e => hb e.symm
    simp [this, h.b]
theorem bfs_spec {N : Nat} (hs : ∀ x, x < N → ∀ y ∈ succ x, y < N) : ∀ (f : Nat) (seen : Nat → Bool) (todo : List (Nat × List Nat)), Bi succ a b seen todo → (∀ q ∈ todo, q.1 < N) → todo.length + restG succ seen N ≤ f →
    (∀ p, bfsGo succ b f seen todo = some p → Least succ a b p) ∧ (bfsGo succ b f seen todo = none → ∀ q, endp succ a q ≠ some b)
  | 0, seen, todo, h, hv, hf => by
    have : todo = [] := List.eq_nil_of_length_eq_zero (by omega)
    subst this
    refine ⟨fun p hp => by simp [bfsGo] at hp, fun _ q hq => ?_⟩
    obtain ⟨m, hm⟩ := least_some (succ := succ) hq
    obtain ⟨_, h1, _⟩ := h.u b m hm h.b
    cases h1
  | f + 1, seen, [], h, hv, hf => by
    refine ⟨fun p hp => by simp [bfsGo] at hp, fun _ q hq => ?_⟩
    obtain ⟨m, hm⟩ := least_some (succ := succ) hq
    obtain ⟨_, h1, _⟩ := h.u b m hm h.b
    cases h1
  | f + 1, seen, (x, p) :: todo, h, hv, hf => by
    have hxN : x < N := hv (x, p) (by simp)
    simp only [List.length_cons] at hf
    unfold bfsGo
    by_cases hxb : x = b
    · subst hxb
      simp only [↓reduceIte]
      refine ⟨fun p' hp => ?_, fun hn => by cases hn⟩
      injection hp with hp
      subst hp
      exact h.head h.b
    · rw [if_neg hxb]
      cases hx : seen x
      · simp only [Bool.false_eq_true, ↓reduceIte]
        refine bfs_spec hs f _ _ (h.step hx hxb) (fun q hq => ?_) ?_
        · rcases List.mem_append.1 hq with hq | hq
          · exact hv q (by simp [hq])
          · obtain ⟨k, h1, _⟩ := mem_outs.1 hq
            exact hs x hxN _ (List.mem_of_getElem? h1)
        · have := restG_see succ hx N hxN
          rw [List.length_append]
          have : (outs succ x p).length = (succ x).length := by simp [outs]
          omega
      · simp only [↓reduceIte]
        exact bfs_spec hs f _ _ (h.skip hx) (fun q hq => hv q (by simp [hq])) (by omega)
end
theorem Bi.start (succ : Nat → List Nat) (a b : Nat) : Bi succ a b (fun _ => false) [(a, [])] where
  v q hq := by simp at hq; subst hq; rfl
  s := by simp
  d q hq hn := by simp at hq; subst hq; exact absurd rfl hn
  u c p _ _ := ⟨(a, []), by simp, by simp⟩
  n c p _ hc := by cases hc
  b := rfl
/-- The search by levels is the search by lengths. -/
theorem bfs_path {succ : Nat → List Nat} {a b N f : Nat} (hs : ∀ x, x < N → ∀ y ∈ succ x, y < N) (ha : a < N) (hf : 1 + restG succ (fun _ => false) N ≤ f) :
    bfsGo succ b f (fun _ => false) [(a, [])] = pathUpto succ a b N := by
  obtain ⟨h1, h2⟩ := bfs_spec hs f _ _ (Bi.start succ a b) (by simpa using ha) (by simpa using hf)
  cases hp : pathUpto succ a b N with
  | some p =>
    have hl := pathUpto_least succ hp
    cases hb : bfsGo succ b f (fun _ => false) [(a, [])] with
    | some q => rw [(h1 q hb).unique hl]
    | none => exact absurd hl.1 (h2 hb p)
  | none =>
    cases hb : bfsGo succ b f (fun _ => false) [(a, [])] with
    | some q =>
      have h3 := pathUpto_none succ hp (h1 q hb).1
      have h4 := (h1 q hb).short ha hs
      omega
    | none => rfl

end Go.Proofs.YtcnkfkjgpdmebaaGreatDoor

/- Graphs in memory: edges, and the slices of the vertices that each leads to. No walk here. -/
namespace Go.Proofs.YtcnkfkjgpdmebaaGreatDoor
open Go.RowKit

structure Edge where
  a : Int
  b : Int
def edgeC : Coder Edge := ⟨2, fun e => [.int .i64 e.a, .int .i64 e.b], fun _ => rfl, by omega⟩
abbrev Edges (w : World) (A : Option Addr) (l : List Edge) : Prop := RowOf edgeC w A l
theorem Edges.at_ {w : World} {A : Option Addr} {l : List Edge} (h : Edges w A l) {i : Nat} (hi : i < l.length) :
    ∃ b o, A = some ⟨b, o, none⟩ ∧ b < w.heap.size ∧ w.cell? ⟨b, o + i * 2, none⟩ = some (.int .i64 (l[i]'hi).a) ∧ w.cell? ⟨b, o + i * 2 + 1, none⟩ = some (.int .i64 (l[i]'hi).b) := by
  obtain ⟨b, o, e, hb, hc⟩ := RowOf.at_ edgeC h hi
  refine ⟨b, o, e, hb, ?_, ?_⟩
  · have := hc 0 (by decide); simpa [edgeC] using this
  · have := hc 1 (by decide); simpa [edgeC] using this
def edgeOk (n : Int) (e : Edge) : Bool := decide (0 ≤ e.a) && decide (0 ≤ e.b) && (decide (e.a < n) && decide (e.b < n))
def graphOk (n : Int) (es : List Edge) : Bool := decide (0 ≤ n) && decide (n ≤ 1000) && es.all (edgeOk n)
/-- Where edges lead from a vertex. -/
def nextL (es : List Edge) (v : Nat) : List Int := (es.filter (·.a == (v : Int))).map (·.b)
theorem nextL_snoc (es : List Edge) (e : Edge) (v : Nat) : nextL (es ++ [e]) v = nextL es v ++ if e.a == (v : Int) then [e.b] else [] := by
  unfold nextL
  rw [List.filter_append, List.map_append]
  cases h : (e.a == (v : Int)) <;> simp [h]

/-- A slice value, and the numbers in it. -/
structure SlV where
  val : Value
  l : List Int
/-- The vertices that each leads to, in memory: the slice of slices is block `b`, all is the call's own from block `base` on. -/
structure TosI (ty int : TypeId) (base : Nat) (w : World) (b : Nat) (ts : List SlV) : Prop where
  blk : w.heap[b]? = some (.cells (ts.map (·.val)).toArray ty (0, 0))
  ge : base ≤ b
  own : ∀ i (h : i < ts.length), w.ownsRow base int 1 (ts[i]'h).val (ts[i]'h).l.length ((ts[i]'h).l.map (Value.int .i64))
  dis : ∀ i j (hi : i < ts.length) (hj : j < ts.length), i ≠ j → (ts[i]'hi).val.ownBlock = (ts[j]'hj).val.ownBlock → (ts[i]'hi).val.ownBlock = none
  nb : ∀ i (h : i < ts.length), (ts[i]'h).val.ownBlock ≠ some b

section
variable {ty int : TypeId} {base : Nat} {w w' : World} {b : Nat} {ts : List SlV}
theorem TosI.lt (h : TosI ty int base w b ts) : b < w.heap.size := lt_of_obj h.blk
/-- Kept, where all from block `base` on is as it was. -/
theorem TosI.keep (h : TosI ty int base w b ts) {row : Option Nat} (g : w.grownBy w' row) (hr : ∀ k, row = some k → k < base) : TosI ty int base w' b ts where
  blk := (g.block b h.lt (fun e => by have := hr b e.symm; have := h.ge; omega)).trans h.blk
  ge := h.ge
  own i hi := (h.own i hi).kept g (by
    cases hv : (ts[i]'hi).val.ownBlock with
    | none => exact .inl rfl
    | some k => exact .inr (fun e => by have := ((h.own i hi).lt k hv).1; have := hr k e.symm; omega))
  dis := h.dis
  nb := h.nb
theorem TosI.ext (h : TosI ty int base w b ts) (e : Ext w w') : TosI ty int base w' b ts :=
  h.keep (row := none) ⟨e.below.os, e.below.tape, e.below.output, e.size, fun k hk _ => e.heap hk⟩ (by intro k h; cases h)
theorem TosI.cell (h : TosI ty int base w b ts) {i : Nat} (hi : i < ts.length) : w.cell? ⟨b, i, none⟩ = some (ts[i]'hi).val := by
  simp [World.cell?, h.blk, hi]
theorem TosI.free (h : TosI ty int base w b ts) (i : Nat) : w.frozen? ⟨b, i, none⟩ = false := by simp [World.frozen?, h.blk]
theorem TosI.after (h : TosI ty int base w b ts) {v : Nat} (hv : v < ts.length) {sv : Value} (hsv : (ts[v]'hv).val = sv) {w2 : World} (hg0 : w.grownBy w2 sv.ownBlock) : w2.heap[b]? = some (.cells (ts.map (·.val)).toArray ty (0, 0)) :=
  ((hsv ▸ hg0 : w.grownBy w2 (ts[v]'hv).val.ownBlock).block b h.lt (fun e => h.nb v hv e.symm)).trans h.blk
/-- A number appended to one of them. -/
theorem TosI.put (h : TosI ty int base w b ts) {v : Nat} (hv : v < ts.length) {v' sv : Value} (hsv : (ts[v]'hv).val = sv) {w2 : World} {l' : List Int}
    (hown : w2.ownsRow base int 1 v' l'.length (l'.map (Value.int .i64))) (hg0 : w.grownBy w2 sv.ownBlock) (hat0 : v'.ownBlock = sv.ownBlock ∨ v'.ownBlock = some w.heap.size) :
    TosI ty int base (w2.setCell ⟨b, v, none⟩ v') b (ts.set v ⟨v', l'⟩) := by
  have hg : w.grownBy w2 (ts[v]'hv).val.ownBlock := hsv ▸ hg0
  have hat : v'.ownBlock = (ts[v]'hv).val.ownBlock ∨ v'.ownBlock = some w.heap.size := hsv ▸ hat0
  have hb := h.lt
  have hb2 : w2.heap[b]? = some (.cells (ts.map (·.val)).toArray ty (0, 0)) := (hg.block b hb (fun e => h.nb v hv e.symm)).trans h.blk
  have hother : ∀ k, k ≠ b → (w2.setCell ⟨b, v, none⟩ v').heap[k]? = w2.heap[k]? := by
    intro k hk
    unfold World.setCell
    simp only [Array.getElem?_modify]
    rw [if_neg (fun e => hk e.symm)]
  have hsz : (w2.setCell ⟨b, v, none⟩ v').heap.size = w2.heap.size := by simp [World.setCell]
  have hset : w2.grownBy (w2.setCell ⟨b, v, none⟩ v') (some b) := ⟨rfl, rfl, rfl, by omega, fun k hk hne => hother k (fun e => hne (by rw [e]))⟩
  have hvb : v'.ownBlock ≠ some b := by
    rcases hat with h1 | h1
    · rw [h1]; exact h.nb v hv
    · rw [h1]; intro e; injection e with e; omega
  have hown2 : ∀ i (hi : i < ts.length), i ≠ v → w2.ownsRow base int 1 (ts[i]'hi).val (ts[i]'hi).l.length ((ts[i]'hi).l.map (Value.int .i64)) := by
    intro i hi hiv
    refine (h.own i hi).kept hg ?_
    cases hk : (ts[i]'hi).val.ownBlock with
    | none => exact .inl rfl
    | some k => exact .inr (fun e => by have := h.dis i v hi hv hiv (hk.trans e); rw [hk] at this; cases this)
  constructor
  · have := blk_setCell hb2 v v'
    rw [this]
    congr 2
    rw [List.setIfInBounds_toArray, List.map_set]
  · exact h.ge
  · intro i hi
    have hi' : i < ts.length := by simpa using hi
    by_cases e : i = v
    · subst e
      simp only [List.getElem_set_self]
      exact hown.kept hset (.inr hvb)
    · rw [List.getElem_set_ne (fun h => e h.symm)]
      exact (hown2 i hi' e).kept hset (.inr (h.nb i hi'))
  · intro i j hi hj hij he
    have hi' : i < ts.length := by simpa using hi
    have hj' : j < ts.length := by simpa using hj
    by_cases e1 : i = v
    · subst e1
      rw [List.getElem_set_ne hij] at he
      simp only [List.getElem_set_self] at he ⊢
      rcases hat with h1 | h1
      · rw [h1] at he ⊢
        exact h.dis i j hi' hj' hij he
      · rw [h1] at he
        have := (h.own j hj').lt _ he.symm
        omega
    · rw [List.getElem_set_ne (fun h => e1 h.symm)] at he ⊢
      by_cases e2 : j = v
      · subst e2
        simp only [List.getElem_set_self] at he
        rcases hat with h1 | h1
        · rw [h1] at he
          exact h.dis i j hi' hj' hij he
        · rw [h1] at he
          have := (h.own i hi').lt _ he
          omega
      · rw [List.getElem_set_ne (fun h => e2 h.symm)] at he
        exact h.dis i j hi' hj' hij he
  · intro i hi
    have hi' : i < ts.length := by simpa using hi
    by_cases e : i = v
    · subst e
      simp only [List.getElem_set_self]
      exact hvb
    · rw [List.getElem_set_ne (fun h => e h.symm)]
      exact h.nb i hi'
end

def markCells (n : Nat) (M : Nat → Bool) : Array Value := ((List.range n).map fun j => Value.bool (M j)).toArray
theorem markCells_get (n : Nat) (M : Nat → Bool) {j : Nat} (hj : j < n) : (markCells n M)[j]? = some (.bool (M j)) := by
  unfold markCells
  simp [hj]
theorem markCells_set (n : Nat) (M : Nat → Bool) (j : Nat) : (markCells n M).setIfInBounds j (.bool true) = markCells n (fun i => i == j || M i) := by
  unfold markCells
  rw [List.setIfInBounds_toArray]
  congr 1
  apply List.ext_getElem?
  intro i
  by_cases hi : i < n
  · by_cases e : j = i
    · subst e; simp [hi]
    · have : (i == j) = false := by simp; exact fun h => e h.symm
      simp [e, hi, this]
  · simp [hi]
/-- Which vertices are so. -/
def Marks (ty : TypeId) (w : World) (mb : Nat) (M : Nat → Bool) : Prop := w.heap[mb]? = some (.cells (markCells 1000 M) ty (0, 0))
theorem Marks.cell {ty : TypeId} {w : World} {mb : Nat} {M : Nat → Bool} (h : Marks ty w mb M) {j : Nat} (hj : j < 1000) : w.cell? ⟨mb, j, none⟩ = some (.bool (M j)) := by
  unfold Marks at h
  rw [← markCells_get 1000 M hj]
  generalize markCells 1000 M = cs at *
  simp [World.cell?, h]
theorem Marks.free {ty : TypeId} {w : World} {mb : Nat} {M : Nat → Bool} (h : Marks ty w mb M) (i : Nat) : w.frozen? ⟨mb, i, none⟩ = false := by
  unfold Marks at h
  generalize markCells 1000 M = cs at *
  simp [World.frozen?, h]
theorem Marks.set {ty : TypeId} {w : World} {mb : Nat} {M : Nat → Bool} (h : Marks ty w mb M) (j : Nat) : Marks ty (w.setCell ⟨mb, j, none⟩ (.bool true)) mb (fun i => i == j || M i) := by
  unfold Marks
  rw [blk_setCell h j (.bool true), markCells_set]
theorem grown_set (w : World) (b i : Nat) (v : Value) : w.grownBy (w.setCell ⟨b, i, none⟩ v) (some b) := by
  refine ⟨rfl, rfl, rfl, by simp [World.setCell], fun k hk hne => ?_⟩
  unfold World.setCell
  simp only [Array.getElem?_modify]
  rw [if_neg (fun e => hne (by rw [e]))]
theorem grown_ext {a b : World} (h : Ext a b) (row : Option Nat) : a.grownBy b row := ⟨h.below.os, h.below.tape, h.below.output, h.size, fun _ hk _ => h.heap hk⟩

/-! ### What is reached -/
inductive SR (succ : Nat → List Nat) : Nat → Nat → Prop
  | one {a b} : b ∈ succ a → SR succ a b
  | step {a b c} : SR succ a b → c ∈ succ b → SR succ a c
theorem SR.trans {succ : Nat → List Nat} {a b c : Nat} (h : SR succ a b) (k : SR succ b c) : SR succ a c := by
  induction k with
  | one h1 => exact .step h h1
  | step _ h1 ih => exact .step ih h1
/-- What a search from `v` has done, over those in `l`. -/
structure Dfs (succ : Nat → List Nat) (M M' : Nat → Bool) (v : Nat) (l : List Nat) : Prop where
  sub : ∀ x, M x = true → M' x = true
  hit : ∀ x ∈ l, M' x = true
  new : ∀ x, M' x = true → M x = true ∨ (SR succ v x ∧ ∀ y ∈ succ x, M' y = true)
section
variable {succ : Nat → List Nat} {M M1 M2 : Nat → Bool} {v u : Nat} {l : List Nat}
theorem Dfs.start (succ : Nat → List Nat) (M : Nat → Bool) (v : Nat) : Dfs succ M M v [] := ⟨fun _ h => h, by simp, fun _ h => .inl h⟩
theorem Dfs.skip (h : Dfs succ M M1 v l) (hu : M1 u = true) : Dfs succ M M1 v (l ++ [u]) := by
  refine ⟨h.sub, fun x hx => ?_, h.new⟩
  rcases List.mem_append.1 hx with hx | hx
  · exact h.hit x hx
  · simp at hx; subst hx; exact hu
theorem Dfs.go (h : Dfs succ M M1 v l) (huv : u ∈ succ v) (k : Dfs succ (fun i => i == u || M1 i) M2 u (succ u)) : Dfs succ M M2 v (l ++ [u]) := by
  have hs : ∀ x, M1 x = true → M2 x = true := fun x hx => k.sub x (by simp [hx])
  refine ⟨fun x hx => hs x (h.sub x hx), fun x hx => ?_, fun x hx => ?_⟩
  · rcases List.mem_append.1 hx with hx | hx
    · exact hs x (h.hit x hx)
    · simp at hx; subst hx; exact k.sub x (by simp)
  · rcases k.new x hx with h1 | ⟨h1, h2⟩
    · simp only [Bool.or_eq_true, beq_iff_eq] at h1
      rcases h1 with rfl | h1
      · exact .inr ⟨.one huv, k.hit⟩
      · rcases h.new x h1 with h3 | ⟨h3, h4⟩
        · exact .inl h3
        · exact .inr ⟨h3, fun y hy => hs y (h4 y hy)⟩
    · exact .inr ⟨(SR.one huv).trans h1, h2⟩
theorem Dfs.all (h : Dfs succ (fun _ => false) M1 v (succ v)) (x : Nat) : M1 x = true ↔ SR succ v x := by
  constructor
  · intro hx
    rcases h.new x hx with h1 | ⟨h1, _⟩
    · cases h1
    · exact h1
  · intro hx
    induction hx with
    | one h1 => exact h.hit _ h1
    | step _ h1 ih =>
      rcases h.new _ ih with h2 | ⟨_, h2⟩
      · cases h2
      · exact h2 _ h1
end
/-- How many are not so. -/
def holes (M : Nat → Bool) (N : Nat) : Nat := ((List.range N).filter fun j => !M j).length
theorem holes_set {M : Nat → Bool} {u : Nat} (hu : M u = false) : ∀ N, u < N → holes (fun i => i == u || M i) N + 1 = holes M N
  | 0, h => absurd h (by omega)
  | N + 1, h => by
    unfold holes
    rw [List.range_succ, List.filter_append, List.filter_append, List.length_append, List.length_append]
    by_cases e : u = N
    · subst e
      have : (List.range u).filter (fun j => !(j == u || M j)) = (List.range u).filter (fun j => !M j) := by
        apply List.filter_congr
        intro x hx
        simp at hx
        have : (x == u) = false := by simp; omega
        simp [this]
      rw [this]
      simp [hu]
    · have ih := holes_set hu N (by omega)
      unfold holes at ih
      have hN : (N == u) = false := by simp; omega
      have : ([N].filter fun j => !(j == u || M j)) = [N].filter fun j => !M j := by simp [List.filter_cons, hN]
      rw [this]
      omega
theorem holes_mono {M M' : Nat → Bool} (h : ∀ x, M x = true → M' x = true) (N : Nat) : holes M' N ≤ holes M N := by
  unfold holes
  induction N with
  | zero => simp
  | succ N ih =>
    rw [List.range_succ, List.filter_append, List.filter_append, List.length_append, List.length_append]
    have : ([N].filter fun j => !M' j).length ≤ ([N].filter fun j => !M j).length := by
      have := h N
      cases h1 : M N <;> cases h2 : M' N <;> simp_all
    omega

end Go.Proofs.YtcnkfkjgpdmebaaGreatDoor

/- Plain facts on classes: the check, what goes round, ways. No program in sight. -/
namespace Go.Proofs.YtcnkfkjgpdmebaaGreatDoor

def nameAt (l : List Cls) (i : Nat) : Str := (l.getD i Cls.zero).name
def supAt (l : List Cls) (i : Nat) : List Str := (l.getD i Cls.zero).sup
/-- Are all of some texts among others, each once? -/
def knownB (ns s : List Str) : Bool := (List.range s.length).all fun k => ns.any (· == s.getD k []) && !((s.take k).any (· == s.getD k []))
def twiceB (l : List Cls) (i : Nat) : Bool := decide (atI l (nameAt l i) < (i : Int))
def badB (l : List Cls) (i : Nat) : Bool := !knownB (names l) (supAt l i)
def cycB (l : List Cls) (i : Nat) : Bool := (aboveL l (nameAt l i)).any (· == nameAt l i)
def checkL (l : List Cls) : Int × Int :=
  match firstI (twiceB l) l.length with
  | some i => (i, 6)
  | none => match firstI (badB l) l.length with
    | some i => (i, 7)
    | none => match firstI (cycB l) l.length with
      | some i => (i, 9)
      | none => (0, 0)
def okL (l : List Cls) : Bool := (checkL l).2 == 0

/-- Names that are there once, and classes above that are there. -/
structure Sound (l : List Cls) : Prop where
  one : firstI (twiceB l) l.length = none
  all : firstI (badB l) l.length = none
theorem okL_sound {l : List Cls} (h : okL l = true) : Sound l ∧ firstI (cycB l) l.length = none := by
  unfold okL checkL at h
  split at h
  · simp at h
  · rename_i h1
    split at h
    · simp at h
    · rename_i h2
      split at h
      · simp at h
      · rename_i h3
        exact ⟨⟨h1, h2⟩, h3⟩
theorem nameAt_eq {l : List Cls} {i : Nat} (h : i < l.length) : nameAt l i = (l[i]'h).name := by simp [nameAt, h]
theorem supAt_eq {l : List Cls} {i : Nat} (h : i < l.length) : supAt l i = (l[i]'h).sup := by simp [supAt, h]
section
variable {l : List Cls}
theorem Sound.at_ (h : Sound l) {i : Nat} (hi : i < l.length) : atI l (l[i]'hi).name = i := by
  have h1 := firstI_none' h.one i hi
  unfold twiceB at h1
  rw [nameAt_eq hi] at h1
  simp only [decide_eq_false_iff_not, Int.not_lt] at h1
  rcases atI_cases l (l[i]'hi).name with ⟨e1, _, e3⟩ | ⟨k, hk, e1, _, e3⟩
  · exact absurd (List.mem_map.2 ⟨_, List.getElem_mem hi, rfl⟩) e3
  · rw [e1] at h1 ⊢
    by_cases hki : k = i
    · rw [hki]
    · -- the first of that name stands at k, and k is not behind i
      have h2 := firstI_none' h.one k hk
      unfold twiceB at h2
      rw [nameAt_eq hk, e3, e1] at h2
      have : i < k := by omega
      have h4 : (names l).getD i [] = (l[i]'hi).name := names_get l hi
      -- atI is the first place
      exfalso
      have hlow : ∀ j, j < l.length → (names l).getD j [] = (l[i]'hi).name → (k : Int) ≤ j := by
        intro j hj hjn
        rw [← e1]
        unfold atI idxI
        have hany : (names l).any (· == (l[i]'hi).name) = true := List.any_eq_true.2 ⟨_, List.mem_map.2 ⟨_, List.getElem_mem hi, rfl⟩, by simp⟩
        rw [if_pos hany]
        have hj' : j < (names l).length := by rw [names_len]; exact hj
        have : (names l).findIdx (· == (l[i]'hi).name) ≤ j := by
          rcases Nat.lt_or_ge j ((names l).findIdx (· == (l[i]'hi).name)) with g | g
          · have := List.not_of_lt_findIdx g
            simp [hj'] at hjn
            simp [hjn] at this
          · exact g
        omega
      have := hlow i hi h4
      omega
theorem Sound.sup (h : Sound l) {i : Nat} (hi : i < l.length) : supL l (l[i]'hi).name = (l[i]'hi).sup := by
  have h1 := h.at_ hi
  rcases atI_cases l (l[i]'hi).name with ⟨e1, _, _⟩ | ⟨k, hk, e1, e2, _⟩
  · rw [e1] at h1; omega
  · rw [e1] at h1
    have : k = i := by omega
    subst this
    exact e2
theorem Sound.known (h : Sound l) : ∀ c ∈ l, ∀ s ∈ c.sup, s ∈ names l := by
  intro c hc s hs
  obtain ⟨i, hi, rfl⟩ := List.getElem_of_mem hc
  have h1 := firstI_none' h.all i hi
  unfold badB at h1
  rw [supAt_eq hi] at h1
  simp only [Bool.not_eq_eq_eq_not, Bool.not_false] at h1
  unfold knownB at h1
  rw [List.all_eq_true] at h1
  obtain ⟨k, hk, rfl⟩ := List.getElem_of_mem hs
  have h2 := h1 k (by simpa using hk)
  simp only [Bool.and_eq_true] at h2
  have h3 := (any_eq_mem _ _).1 h2.1
  simpa [hk] using h3
theorem Sound.inj (h : Sound l) {i j : Nat} (hi : i < l.length) (hj : j < l.length) (e : (l[i]'hi).name = (l[j]'hj).name) : i = j := by
  have h1 := h.at_ hi
  have h2 := h.at_ hj
  rw [e, h2] at h1
  omega
/-- The graph of the classes: each leads to those right above it. -/
def succC (l : List Cls) (i : Nat) : List Nat := (supAt l i).map fun s => (atI l s).toNat
theorem Sound.to (h : Sound l) {i : Nat} (hi : i < l.length) {s : Str} (hs : s ∈ (l[i]'hi).sup) : ∃ j, ∃ hj : j < l.length, atI l s = (j : Int) ∧ (l[j]'hj).name = s := by
  have h1 := h.known _ (List.getElem_mem hi) s hs
  rcases atI_cases l s with ⟨_, _, e3⟩ | ⟨k, hk, e1, _, e3⟩
  · exact absurd h1 e3
  · exact ⟨k, hk, e1, e3⟩
theorem succC_lt (h : Sound l) : ∀ x, x < l.length → ∀ y ∈ succC l x, y < l.length := by
  intro x hx y hy
  unfold succC at hy
  rw [supAt_eq hx] at hy
  obtain ⟨s, hs, rfl⟩ := List.mem_map.1 hy
  obtain ⟨j, hj, e, _⟩ := h.to hx hs
  rw [e]
  simpa using hj
theorem up_of_reach (h : Sound l) {i j : Nat} (hi : i < l.length) (hr : SR (succC l) i j) : ∃ hj : j < l.length, Up l (l[i]'hi).name (l[j]'hj).name := by
  induction hr with
  | one h1 =>
    unfold succC at h1
    rw [supAt_eq hi] at h1
    obtain ⟨s, hs, rfl⟩ := List.mem_map.1 h1
    obtain ⟨j, hj, e, en⟩ := h.to hi hs
    have e' : (atI l s).toNat = j := by rw [e]; simp
    refine ⟨by rw [e']; exact hj, ?_⟩
    have : (l[(atI l s).toNat]'(by rw [e']; exact hj)).name = s := by simp only [e']; exact en
    rw [this]
    exact .one (by rw [h.sup hi]; exact hs)
  | step _ h1 ih =>
    rename_i b c _
    obtain ⟨hb, hup⟩ := ih
    unfold succC at h1
    rw [supAt_eq hb] at h1
    obtain ⟨s, hs, rfl⟩ := List.mem_map.1 h1
    obtain ⟨j, hj, e, en⟩ := h.to hb hs
    have e' : (atI l s).toNat = j := by rw [e]; simp
    refine ⟨by rw [e']; exact hj, ?_⟩
    have : (l[(atI l s).toNat]'(by rw [e']; exact hj)).name = s := by simp only [e']; exact en
    rw [this]
    exact .step hup (by rw [h.sup hb]; exact hs)
theorem reach_of_up (h : Sound l) {i : Nat} (hi : i < l.length) {y : Str} (hu : Up l (l[i]'hi).name y) : ∃ j, ∃ hj : j < l.length, (l[j]'hj).name = y ∧ SR (succC l) i j := by
  generalize hx : (l[i]'hi).name = x at hu
  induction hu with
  | one h1 =>
    rw [← hx, h.sup hi] at h1
    obtain ⟨j, hj, e, en⟩ := h.to hi h1
    exact ⟨j, hj, en, .one (by unfold succC; rw [supAt_eq hi]; exact List.mem_map.2 ⟨_, h1, by rw [e]; simp⟩)⟩
  | step _ h1 ih =>
    obtain ⟨b, hb, en, hr⟩ := ih
    rw [← en, h.sup hb] at h1
    obtain ⟨j, hj, e, en'⟩ := h.to hb h1
    exact ⟨j, hj, en', .step hr (by unfold succC; rw [supAt_eq hb]; exact List.mem_map.2 ⟨_, h1, by rw [e]; simp⟩)⟩
theorem cyc_reach (h : Sound l) {i : Nat} (hi : i < l.length) : cycB l i = true ↔ SR (succC l) i i := by
  unfold cycB
  rw [nameAt_eq hi, any_eq_mem, (aboveL_spec l _).2]
  constructor
  · intro hu
    obtain ⟨j, hj, en, hr⟩ := reach_of_up h hi hu
    rwa [h.inj hj hi en] at hr
  · intro hr
    exact (up_of_reach h hi hr).2

theorem check_1 {k : Nat} (hk : k < l.length) (h : ∀ j, j < k → twiceB l j = false) (h1 : twiceB l k = true) : checkL l = ((k : Int), 6) := by
  unfold checkL
  rw [firstI_at _ _ _ hk h h1]
theorem check_2 (hn : ∀ j, j < l.length → twiceB l j = false) {k : Nat} (hk : k < l.length) (h : ∀ j, j < k → badB l j = false) (h1 : badB l k = true) : checkL l = ((k : Int), 7) := by
  unfold checkL
  rw [firstI_none _ _ hn]
  simp only
  rw [firstI_at _ _ _ hk h h1]
theorem check_3 (hn : ∀ j, j < l.length → twiceB l j = false) (hb : ∀ j, j < l.length → badB l j = false) {k : Nat} (hk : k < l.length) (h : ∀ j, j < k → cycB l j = false) (h1 : cycB l k = true) : checkL l = ((k : Int), 9) := by
  unfold checkL
  rw [firstI_none _ _ hn]
  simp only
  rw [firstI_none _ _ hb]
  simp only
  rw [firstI_at _ _ _ hk h h1]
theorem check_4 (hn : ∀ j, j < l.length → twiceB l j = false) (hb : ∀ j, j < l.length → badB l j = false) (hc : ∀ j, j < l.length → cycB l j = false) : checkL l = (0, 0) := by
  unfold checkL
  rw [firstI_none _ _ hn]
  simp only
  rw [firstI_none _ _ hb]
  simp only
  rw [firstI_none _ _ hc]

/-! ### The edges of the graph -/
def edgesL (l : List Cls) : List Edge := (List.range l.length).flatMap fun i => (supAt l i).map fun s => ⟨(i : Int), atI l s⟩
theorem next_edges (_h : Sound l) : ∀ v, (nextL (edgesL l) v).map Int.toNat = if v < l.length then succC l v else [] := by
  intro v
  unfold edgesL nextL
  have key : ∀ n, (((List.range n).flatMap fun i => (supAt l i).map fun s => (⟨(i : Int), atI l s⟩ : Edge)).filter (·.a == (v : Int))).map (·.b) = if v < n then (supAt l v).map (atI l) else [] := by
    intro n
    induction n with
    | zero => simp
    | succ n ih =>
      rw [List.range_succ, List.flatMap_append, List.filter_append, List.map_append, ih]
      have e1 : ([n].flatMap fun i => (supAt l i).map fun s => (⟨(i : Int), atI l s⟩ : Edge)) = (supAt l n).map fun s => ⟨(n : Int), atI l s⟩ := by simp
      rw [e1]
      by_cases e : v = n
      · subst e
        have : ((supAt l v).map fun s => (⟨(v : Int), atI l s⟩ : Edge)).filter (·.a == (v : Int)) = (supAt l v).map fun s => ⟨(v : Int), atI l s⟩ := by
          rw [List.filter_eq_self]
          intro a ha
          obtain ⟨s, _, rfl⟩ := List.mem_map.1 ha
          simp
        rw [this, List.map_map]
        simp
      · have : ((supAt l n).map fun s => (⟨(n : Int), atI l s⟩ : Edge)).filter (·.a == (v : Int)) = [] := by
          rw [List.filter_eq_nil_iff]
          intro a ha
          obtain ⟨s, _, rfl⟩ := List.mem_map.1 ha
          simp
          omega
        rw [this]
        by_cases h1 : v < n
        · have h2 : v < n + 1 := by omega
          simp [h1, h2]
        · have h2 : ¬ v < n + 1 := by omega
          simp [h1, h2]
  rw [key]
  split
  · rw [List.map_map]; rfl
  · rfl
end

end Go.Proofs.YtcnkfkjgpdmebaaGreatDoor
