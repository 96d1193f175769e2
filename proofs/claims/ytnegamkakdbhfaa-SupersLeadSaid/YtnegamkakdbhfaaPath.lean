/- Plain facts on ways through a graph: the search by levels finds the least one. No program in sight. -/
import Derived.Test.YtnegamkakdbhfaaLib
namespace Go.Proofs.Ytnegamkakdbhfaa

/-! ### Ways through a graph, told by places; the least one -/
section
variable (succ : Nat → List Nat)
/-- Where a way leads. -/
def endp : Nat → List Nat → Option Nat
  | a, [] => some a
  | a, k :: p => match (succ a)[k]? with | some b => endp b p | none => none
/-- Shorter, or as long and ahead. -/
def Sl (p q : List Nat) : Prop := p.length < q.length ∨ (p.length = q.length ∧ p < q)
/-- The least way. -/
def Least (a c : Nat) (p : List Nat) : Prop := endp succ a p = some c ∧ ∀ q, endp succ a q = some c → p = q ∨ Sl p q

theorem endp_append : ∀ (p q : List Nat) (a : Nat), endp succ a (p ++ q) = (endp succ a p).bind fun b => endp succ b q
  | [], q, a => rfl
  | k :: p, q, a => by
    simp only [List.cons_append, endp]
    cases (succ a)[k]? with
    | none => rfl
    | some b => exact endp_append p q b
theorem endp_snoc (p : List Nat) (k a c : Nat) : endp succ a (p ++ [k]) = some c ↔ ∃ b, endp succ a p = some b ∧ (succ b)[k]? = some c := by
  rw [endp_append, Option.bind_eq_some_iff]
  constructor
  · rintro ⟨b, h1, h2⟩
    refine ⟨b, h1, ?_⟩
    simp only [endp] at h2
    split at h2
    · rename_i d hd; rw [hd]; exact h2
    · cases h2
  · rintro ⟨b, h1, h2⟩
    exact ⟨b, h1, by simp [endp, h2]⟩
end

theorem nlt_irrefl (p : List Nat) : ¬ p < p := List.lt_irrefl p
theorem nlt_trans {a b c : List Nat} (h : a < b) (k : b < c) : a < c := List.lt_trans h k
theorem nlt_total (a b : List Nat) : a < b ∨ a = b ∨ b < a := by
  by_cases h : a < b
  · exact .inl h
  · by_cases k : b < a
    · exact .inr (.inr k)
    · exact .inr (.inl (List.le_antisymm (List.not_lt.1 k) (List.not_lt.1 h)))
theorem Sl.irrefl (p : List Nat) : ¬ Sl p p := by
  rintro (h | ⟨_, h⟩)
  · omega
  · exact nlt_irrefl p h
theorem Sl.trans {a b c : List Nat} (h : Sl a b) (k : Sl b c) : Sl a c := by
  rcases h with h | ⟨h1, h2⟩ <;> rcases k with k | ⟨k1, k2⟩
  · exact .inl (by omega)
  · exact .inl (by omega)
  · exact .inl (by omega)
  · exact .inr ⟨by omega, nlt_trans h2 k2⟩
theorem Sl.total (a b : List Nat) : Sl a b ∨ a = b ∨ Sl b a := by
  unfold Sl
  rcases Nat.lt_trichotomy a.length b.length with h | h | h
  · exact .inl (.inl h)
  · rcases nlt_total a b with k | k | k
    · exact .inl (.inr ⟨h, k⟩)
    · exact .inr (.inl k)
    · exact .inr (.inr (.inr ⟨h.symm, k⟩))
  · exact .inr (.inr (.inl h))
theorem lt_app : ∀ {p q : List Nat}, p.length = q.length → p < q → ∀ (r s : List Nat), p ++ r < q ++ s
  | [], [], _, h, _, _ => absurd h (nlt_irrefl _)
  | a :: p, b :: q, hl, h, r, s => by
    simp only [List.cons_append, List.cons_lt_cons_iff] at h ⊢
    rcases h with h | ⟨h1, h2⟩
    · exact .inl h
    · exact .inr ⟨h1, lt_app (by simpa using hl) h2 r s⟩
theorem Sl.app1 {p q : List Nat} (h : Sl p q) (j k : Nat) : Sl (p ++ [j]) (q ++ [k]) := by
  rcases h with h | ⟨h1, h2⟩
  · exact .inl (by simp; omega)
  · exact .inr ⟨by simp [h1], lt_app h1 h2 _ _⟩
theorem Sl.snoc (p : List Nat) (k : Nat) : Sl p (p ++ [k]) := .inl (by simp)
theorem app_lt : ∀ (p : List Nat) {j k : Nat}, j < k → p ++ [j] < p ++ [k]
  | [], j, k, h => by simp [List.cons_lt_cons_iff, h]
  | a :: p, j, k, h => by
    simp only [List.cons_append, List.cons_lt_cons_iff]
    exact .inr ⟨trivial, app_lt p h⟩

section
variable {succ : Nat → List Nat} {a c : Nat} {p q : List Nat}
theorem Least.unique (h : Least succ a c p) (k : Least succ a c q) : p = q := by
  rcases h.2 q k.1 with h1 | h1
  · exact h1
  · rcases k.2 p h.1 with h2 | h2
    · exact h2.symm
    · exact absurd (h1.trans h2) (Sl.irrefl p)
/-- What begins a least way is one. -/
theorem Least.front {k : Nat} (h : Least succ a c (p ++ [k])) : ∃ b, Least succ a b p ∧ (succ b)[k]? = some c := by
  obtain ⟨b, h1, h2⟩ := (endp_snoc succ p k a c).1 h.1
  refine ⟨b, ⟨h1, fun q hq => ?_⟩, h2⟩
  rcases Sl.total p q with h3 | h3 | h3
  · exact .inr h3
  · exact .inl h3
  · have h4 := h.2 (q ++ [k]) ((endp_snoc succ q k a c).2 ⟨b, hq, h2⟩)
    have h5 := h3.app1 k k
    rcases h4 with h4 | h4
    · rw [h4] at h5; exact absurd h5 (Sl.irrefl _)
    · exact absurd (h4.trans h5) (Sl.irrefl _)
theorem Least.take : ∀ (r p : List Nat) (c : Nat), Least succ a c (p ++ r) → ∃ b, Least succ a b p
  | [], p, c, h => ⟨c, by simpa using h⟩
  | k :: r, p, c, h => by
    have h' : Least succ a c ((p ++ [k]) ++ r) := by simpa using h
    obtain ⟨b, hb⟩ := Least.take r (p ++ [k]) c h'
    obtain ⟨b', hb', _⟩ := hb.front
    exact ⟨b', hb'⟩
end

/-! ### All ways of so many places -/
section
variable (succ : Nat → List Nat)
def pathR (b : Nat) : Nat → Nat → Option (List Nat)
  | 0, a => if a = b then some [] else none
  | n + 1, a => (succ a).zipIdx.findSome? fun x => (pathR b n x.1).map (x.2 :: ·)
theorem findSome_zip {β : Type} (f : Nat × Nat → Option β) : ∀ (l : List Nat) (i : Nat),
    (∀ r, (l.zipIdx i).findSome? f = some r → ∃ k x, l[k]? = some x ∧ f (x, i + k) = some r ∧ ∀ j y, j < k → l[j]? = some y → f (y, i + j) = none) ∧
    ((l.zipIdx i).findSome? f = none → ∀ k x, l[k]? = some x → f (x, i + k) = none)
  | [], i => ⟨fun r h => by simp at h, fun _ k x h => by simp at h⟩
  | y :: l, i => by
    obtain ⟨h1, h2⟩ := findSome_zip f l (i + 1)
    simp only [List.zipIdx_cons, List.findSome?_cons]
    cases hy : f (y, i) with
    | some r0 =>
      refine ⟨fun r h => ?_, fun h => by cases h⟩
      injection h with h
      subst h
      exact ⟨0, y, rfl, hy, fun j _ hj => absurd hj (by omega)⟩
    | none =>
      refine ⟨fun r h => ?_, fun h k x hk => ?_⟩
      · obtain ⟨k, x, e1, e2, e3⟩ := h1 r h
        refine ⟨k + 1, x, by simpa using e1, by rw [← e2]; congr 2; omega, fun j z hj hz => ?_⟩
        rcases j with _ | j
        · simp at hz; subst hz; exact hy
        · have := e3 j z (by omega) (by simpa using hz)
          rw [← this]; congr 2; omega
      · rcases k with _ | k
        · simp at hk; subst hk; exact hy
        · have := h2 h k x (by simpa using hk)
          rw [← this]; congr 2; omega
theorem pathR_spec (b : Nat) : ∀ (n a : Nat), (∀ p, pathR succ b n a = some p → p.length = n ∧ endp succ a p = some b ∧ ∀ q, q.length = n → endp succ a q = some b → p = q ∨ p < q) ∧
    (pathR succ b n a = none → ∀ q, q.length = n → endp succ a q ≠ some b)
  | 0, a => by
    constructor
    · intro p h
      simp only [pathR] at h
      split at h
      · rename_i hab
        injection h with h
        subst h hab
        exact ⟨rfl, rfl, fun q hq _ => .inl (List.eq_nil_of_length_eq_zero hq).symm⟩
      · cases h
    · intro h q hq
      simp only [pathR] at h
      split at h
      · cases h
      · rename_i hab
        rw [List.eq_nil_of_length_eq_zero hq]
        simp only [endp]
        intro e; injection e with e; exact hab e
  | n + 1, a => by
    have ih := fun x => pathR_spec b n x
    obtain ⟨h1, h2⟩ := findSome_zip (fun x : Nat × Nat => (pathR succ b n x.1).map (x.2 :: ·)) (succ a) 0
    constructor
    · intro p h
      obtain ⟨k, x, e1, e2, e3⟩ := h1 p h
      simp only [Nat.zero_add, Option.map_eq_some_iff] at e2
      obtain ⟨r, e2, rfl⟩ := e2
      obtain ⟨i1, i2, i3⟩ := (ih x).1 r e2
      refine ⟨by simp [i1], by simp [endp, e1, i2], fun q hq he => ?_⟩
      rcases q with _ | ⟨j, q⟩
      · simp at hq
      · simp only [endp] at he
        split at he
        · rename_i y hy
          have hq' : q.length = n := by simpa using hq
          rcases Nat.lt_trichotomy k j with hkj | hkj | hkj
          · exact .inr (by rw [List.cons_lt_cons_iff]; exact .inl hkj)
          · subst hkj
            rw [e1] at hy
            injection hy with hy
            subst hy
            rcases i3 q hq' he with i4 | i4
            · exact .inl (by rw [i4])
            · exact .inr (by rw [List.cons_lt_cons_iff]; exact .inr ⟨rfl, i4⟩)
          · have := e3 j y hkj hy
            simp only [Nat.zero_add, Option.map_eq_none_iff] at this
            exact absurd he ((ih y).2 this q hq')
        · cases he
    · intro h q hq he
      rcases q with _ | ⟨j, q⟩
      · simp at hq
      · simp only [endp] at he
        split at he
        · rename_i y hy
          have := h2 h j y hy
          simp only [Nat.zero_add, Option.map_eq_none_iff] at this
          exact (ih y).2 this q (by simpa using hq) he
        · cases he
/-- The first length at which there is a way. -/
def pathUpto (a b : Nat) (N : Nat) : Option (List Nat) := (List.range N).findSome? fun n => pathR succ b n a
theorem least_some {a c : Nat} {q : List Nat} (h : endp succ a q = some c) : ∃ p, Least succ a c p := by
  -- the least length
  have key : ∀ n, (∃ q, q.length ≤ n ∧ endp succ a q = some c) → ∃ p, Least succ a c p := by
    intro n
    induction n with
    | zero =>
      rintro ⟨q, hq, he⟩
      have : q = [] := List.eq_nil_of_length_eq_zero (by omega)
      subst this
      refine ⟨[], he, fun r _ => ?_⟩
      rcases r with _ | ⟨k, r⟩
      · exact .inl rfl
      · exact .inr (.inl (by simp))
    | succ n ih =>
      intro hex
      by_cases hs : ∃ q, q.length ≤ n ∧ endp succ a q = some c
      · exact ih hs
      · obtain ⟨q, hq, he⟩ := hex
        have hqn : q.length = n + 1 := by
          rcases Nat.lt_or_ge q.length (n + 1) with h1 | h1
          · exact absurd ⟨q, by omega, he⟩ hs
          · omega
        have hmin : ∀ r, endp succ a r = some c → n + 1 ≤ r.length := by
          intro r hr
          rcases Nat.lt_or_ge r.length (n + 1) with h1 | h1
          · exact absurd ⟨r, by omega, hr⟩ hs
          · exact h1
        obtain ⟨s1, s2⟩ := pathR_spec succ c (n + 1) a
        cases hp : pathR succ c (n + 1) a with
        | none => exact absurd he (s2 hp q hqn)
        | some p =>
          obtain ⟨p1, p2, p3⟩ := s1 p hp
          refine ⟨p, p2, fun r hr => ?_⟩
          rcases Nat.lt_or_ge (n + 1) r.length with h1 | h1
          · exact .inr (.inl (by omega))
          · have := hmin r hr
            rcases p3 r (by omega) hr with h2 | h2
            · exact .inl h2
            · exact .inr (.inr ⟨by omega, h2⟩)
  exact key q.length ⟨q, Nat.le_refl _, h⟩
theorem findSome_range {β : Type} (f : Nat → Option β) : ∀ N, (∀ r, (List.range N).findSome? f = some r → ∃ n, n < N ∧ f n = some r ∧ ∀ m, m < n → f m = none) ∧ ((List.range N).findSome? f = none → ∀ n, n < N → f n = none)
  | 0 => ⟨fun r h => by simp at h, fun _ n h => absurd h (by omega)⟩
  | N + 1 => by
    obtain ⟨h1, h2⟩ := findSome_range f N
    rw [List.range_succ, List.findSome?_append]
    cases hN : (List.range N).findSome? f with
    | some r0 =>
      refine ⟨fun r h => ?_, fun h => by simp at h⟩
      simp at h
      subst h
      obtain ⟨n, g1, g2, g3⟩ := h1 r0 hN
      exact ⟨n, by omega, g2, g3⟩
    | none =>
      have h3 := h2 hN
      refine ⟨fun r h => ?_, fun h n hn => ?_⟩
      · simp at h
        exact ⟨N, by omega, h, h3⟩
      · simp at h
        rcases Nat.lt_or_ge n N with g | g
        · exact h3 n g
        · rw [show n = N by omega]; exact h
theorem pathUpto_least {a b N : Nat} {p : List Nat} (h : pathUpto succ a b N = some p) : Least succ a b p := by
  obtain ⟨n, _, h2, h3⟩ := (findSome_range _ N).1 p h
  obtain ⟨i1, i2, i3⟩ := (pathR_spec succ b n a).1 p h2
  refine ⟨i2, fun q hq => ?_⟩
  rcases Nat.lt_trichotomy q.length n with g | g | g
  · exact absurd hq ((pathR_spec succ b q.length a).2 (h3 _ g) q rfl)
  · rcases i3 q g hq with i4 | i4
    · exact .inl i4
    · exact .inr (.inr ⟨by omega, i4⟩)
  · exact .inr (.inl (by omega))
theorem pathUpto_none {a b N : Nat} (h : pathUpto succ a b N = none) {q : List Nat} (hq : endp succ a q = some b) : N ≤ q.length := by
  rcases Nat.lt_or_ge q.length N with g | g
  · exact absurd hq ((pathR_spec succ b q.length a).2 ((findSome_range _ N).2 h _ g) q rfl)
  · exact g
end

/-! ### A least way is shorter than there are vertices -/
theorem pigeon : ∀ (n : Nat) (l : List Nat), l.Nodup → (∀ x ∈ l, x < n) → l.length ≤ n
  | 0, [], _, _ => by simp
  | 0, x :: l, _, h => absurd (h x (by simp)) (by omega)
  | n + 1, l, hd, h => by
    have h1 := pigeon n (l.erase n) (hd.erase n) (fun x hx => by
      have h2 := (List.Nodup.mem_erase_iff hd).1 hx
      have := h x h2.2
      have := h2.1
      omega)
    rw [List.length_erase] at h1
    split at h1 <;> omega
theorem Least.short {succ : Nat → List Nat} {a c N : Nat} {p : List Nat} (ha : a < N) (hs : ∀ x, x < N → ∀ y ∈ succ x, y < N) (h : Least succ a c p) : p.length < N := by
  have hend : ∀ (q : List Nat) (x y : Nat), x < N → endp succ x q = some y → y < N := by
    intro q
    induction q with
    | nil => intro x y hx he; simp only [endp, Option.some.injEq] at he; omega
    | cons k q ih =>
      intro x y hx he
      simp only [endp] at he
      split at he
      · rename_i z hz
        exact ih z y (hs x hx z (List.mem_of_getElem? hz)) he
      · cases he
  have hl : ∀ i, ∃ b, i ≤ p.length → Least succ a b (p.take i) := by
    intro i
    by_cases hi : i ≤ p.length
    · have h' : Least succ a c (p.take i ++ p.drop i) := by rw [List.take_append_drop]; exact h
      obtain ⟨b, hb⟩ := Least.take _ _ _ h'
      exact ⟨b, fun _ => hb⟩
    · exact ⟨0, fun h => absurd h hi⟩
  have hf : ∀ n, n ≤ p.length + 1 → ∃ l : List Nat, l.length = n ∧ l.Nodup ∧ (∀ x ∈ l, x < N) ∧ ∀ x ∈ l, ∃ i, i < n ∧ Least succ a x (p.take i) := by
    intro n
    induction n with
    | zero => exact fun _ => ⟨[], rfl, List.nodup_nil, by simp, by simp⟩
    | succ n ih =>
      intro hn
      obtain ⟨l, l1, l2, l3, l4⟩ := ih (by omega)
      obtain ⟨b, hb⟩ := hl n
      have hb := hb (by omega)
      refine ⟨b :: l, by simp [l1], List.nodup_cons.2 ⟨fun hbl => ?_, l2⟩, ?_, ?_⟩
      · obtain ⟨i, hi, hli⟩ := l4 b hbl
        have := congrArg List.length (hb.unique hli)
        simp at this
        omega
      · intro x hx
        rcases List.mem_cons.1 hx with rfl | hx
        · exact hend _ a _ ha hb.1
        · exact l3 x hx
      · intro x hx
        rcases List.mem_cons.1 hx with rfl | hx
        · exact ⟨n, by omega, hb⟩
        · obtain ⟨i, hi, hli⟩ := l4 x hx
          exact ⟨i, by omega, hli⟩
  obtain ⟨l, l1, l2, l3, _⟩ := hf (p.length + 1) (Nat.le_refl _)
  have := pigeon N l l2 l3
  omega
/-! ### The search level by level -/
section
variable (succ : Nat → List Nat) (b : Nat)
def outs (x : Nat) (p : List Nat) : List (Nat × List Nat) := (succ x).zipIdx.map fun y => (y.1, p ++ [y.2])
def bfsGo : Nat → (Nat → Bool) → List (Nat × List Nat) → Option (List Nat)
  | 0, _, _ => none
  | _ + 1, _, [] => none
  | f + 1, seen, (x, p) :: todo => if x = b then some p else if seen x then bfsGo f seen todo else bfsGo f (fun j => j == x || seen j) (todo ++ outs succ x p)
def restG (seen : Nat → Bool) (N : Nat) : Nat := ((List.range N).map fun j => if seen j then 0 else (succ j).length).sum
theorem restG_same {seen seen' : Nat → Bool} : ∀ N, (∀ j, j < N → seen' j = seen j) → restG succ seen' N = restG succ seen N
  | 0, _ => rfl
  | N + 1, h => by
    have ih := restG_same N (fun j hj => h j (by omega))
    unfold restG at ih ⊢
    rw [List.range_succ, List.map_append, List.map_append, List.sum_append, List.sum_append, ih]
    simp [h N (by omega)]
theorem restG_see {seen : Nat → Bool} {x : Nat} (hx : seen x = false) : ∀ N, x < N → restG succ (fun j => j == x || seen j) N + (succ x).length = restG succ seen N
  | 0, h => absurd h (by omega)
  | N + 1, h => by
    by_cases e : x = N
    · subst e
      have ih := restG_same succ (seen := seen) (seen' := fun j => j == x || seen j) x (fun j hj => by
        have : (j == x) = false := by simp; omega
        simp [this])
      unfold restG at ih ⊢
      rw [List.range_succ, List.map_append, List.map_append, List.sum_append, List.sum_append, ih]
      simp [hx]
    · have ih := restG_see hx N (by omega)
      have hN : ¬ N = x := fun h => e h.symm
      unfold restG at ih ⊢
      rw [List.range_succ, List.map_append, List.map_append, List.sum_append, List.sum_append, ← ih]
      simp [hN]
      omega
end

structure Bi (succ : Nat → List Nat) (a b : Nat) (seen : Nat → Bool) (todo : List (Nat × List Nat)) : Prop where
  v : ∀ q ∈ todo, endp succ a q.2 = some q.1
  s : todo.Pairwise fun p q => Sl p.2 q.2
  d : ∀ q ∈ todo, q.2 ≠ [] → ∀ p ∈ todo, Sl q.2.dropLast p.2
  u : ∀ c p, Least succ a c p → seen c = false → ∃ q ∈ todo, q.2 <+: p
  n : ∀ c p, Least succ a c p → seen c = true → ∀ q ∈ todo, Sl p q.2
  b : seen b = false

theorem prefix_sl {p q : List Nat} (h : p <+: q) : p = q ∨ Sl p q := by
  obtain ⟨r, rfl⟩ := h
  rcases r with _ | ⟨k, r⟩
  · exact .inl (by simp)
  · exact .inr (.inl (by simp))

section
variable {succ : Nat → List Nat} {a b : Nat} {seen : Nat → Bool} {x : Nat} {p : List Nat} {todo : List (Nat × List Nat)}
theorem mem_outs {q : Nat × List Nat} : q ∈ outs succ x p ↔ ∃ k, (succ x)[k]? = some q.1 ∧ q.2 = p ++ [k] := by
  unfold outs
  rw [List.mem_map]
  constructor
  · rintro ⟨⟨y, k⟩, h, rfl⟩
    exact ⟨k, by simpa [List.mem_zipIdx_iff_getElem?] using h, rfl⟩
  · rintro ⟨k, h1, h2⟩
    exact ⟨(q.1, k), by simpa [List.mem_zipIdx_iff_getElem?] using h1, by rw [← h2]⟩
theorem outs_sorted : (outs succ x p).Pairwise fun p q => Sl p.2 q.2 := by
  unfold outs
  rw [List.pairwise_map]
  have : ∀ (l : List Nat) (i : Nat), (l.zipIdx i).Pairwise fun y z => y.2 < z.2 := by
    intro l
    induction l with
    | nil => intro i; simp
    | cons y l ih =>
      intro i
      rw [List.zipIdx_cons, List.pairwise_cons]
      refine ⟨fun z hz => ?_, ih (i + 1)⟩
      have := List.le_snd_of_mem_zipIdx hz
      simp only
      omega
  exact (this (succ x) 0).imp fun {y z} h => .inr ⟨by simp, app_lt p h⟩
theorem Bi.head (h : Bi succ a b seen ((x, p) :: todo)) (hx : seen x = false) : Least succ a x p := by
  obtain ⟨m, hm⟩ := least_some (succ := succ) (h.v (x, p) (by simp))
  obtain ⟨q, hq, hpre⟩ := h.u x m hm hx
  have h1 : p = q.2 ∨ Sl p q.2 := by
    rcases List.mem_cons.1 hq with rfl | hq
    · exact .inl rfl
    · exact .inr ((List.pairwise_cons.1 h.s).1 q hq)
  have h2 := prefix_sl hpre
  have h3 := hm.2 p (h.v (x, p) (by simp))
  have h4 : p = m := by
    rcases h3 with h3 | h3
    · exact h3.symm
    · have h5 : p = m ∨ Sl p m := by
        rcases h1 with h1 | h1 <;> rcases h2 with h2 | h2
        · exact .inl (h1.trans h2)
        · exact .inr (by rw [h1]; exact h2)
        · exact .inr (by rw [← h2]; exact h1)
        · exact .inr (h1.trans h2)
      rcases h5 with h5 | h5
      · exact h5
      · exact absurd (h5.trans h3) (Sl.irrefl p)
  rw [h4]; exact hm
theorem Bi.skip (h : Bi succ a b seen ((x, p) :: todo)) (hx : seen x = true) : Bi succ a b seen todo where
  v q hq := h.v q (by simp [hq])
  s := (List.pairwise_cons.1 h.s).2
  d q hq hn r hr := h.d q (by simp [hq]) hn r (by simp [hr])
  n c r hr hc q hq := h.n c r hr hc q (by simp [hq])
  b := h.b
  u c r hr hc := by
    obtain ⟨q, hq, hpre⟩ := h.u c r hr hc
    rcases List.mem_cons.1 hq with rfl | hq
    · obtain ⟨t, rfl⟩ := hpre
      obtain ⟨y, hy⟩ := Least.take t p c hr
      have hv := h.v (x, p) (by simp)
      have e : y = x := by have := hy.1; rw [hv] at this; injection this with this; exact this.symm
      subst e
      exact absurd (h.n y p hy hx (y, p) (by simp)) (Sl.irrefl p)
    · exact ⟨q, hq, hpre⟩
theorem Bi.step (h : Bi succ a b seen ((x, p) :: todo)) (hx : seen x = false) (hb : x ≠ b) : Bi succ a b (fun j => j == x || seen j) (todo ++ outs succ x p) := by
  have hl := h.head hx
  obtain ⟨s1, s2⟩ := List.pairwise_cons.1 h.s
  have hne : ∀ q ∈ todo, q.2 ≠ [] := by
    intro q hq e
    rcases s1 q hq with h1 | ⟨h1, h2⟩
    · rw [e] at h1; simp at h1
    · rw [e] at h1 h2
      have : p = [] := List.eq_nil_of_length_eq_zero h1
      simp only [this] at h2
      exact nlt_irrefl _ h2
  have hout : ∀ q ∈ todo, ∀ k, Sl q.2 (p ++ [k]) := by
    intro q hq k
    have h1 := h.d q (by simp [hq]) (hne q hq) (x, p) (by simp)
    have h2 := h1.app1 (q.2.getLast (hne q hq)) k
    rwa [List.dropLast_concat_getLast] at h2
  constructor
  · intro q hq
    rcases List.mem_append.1 hq with hq | hq
    · exact h.v q (by simp [hq])
    · obtain ⟨k, h1, h2⟩ := mem_outs.1 hq
      rw [h2]
      exact (endp_snoc succ p k a q.1).2 ⟨x, h.v (x, p) (by simp), h1⟩
  · refine List.pairwise_append.2 ⟨s2, outs_sorted, fun q hq r hr => ?_⟩
    obtain ⟨k, _, h2⟩ := mem_outs.1 hr
    rw [h2]
    exact hout q hq k
  · intro q hq hn r hr
    have hd : Sl q.2.dropLast p ∨ q.2.dropLast = p := by
      rcases List.mem_append.1 hq with hq | hq
      · exact .inl (h.d q (by simp [hq]) hn (x, p) (by simp))
      · obtain ⟨k, _, h2⟩ := mem_outs.1 hq
        exact .inr (by rw [h2]; simp)
    have hr' : Sl p r.2 := by
      rcases List.mem_append.1 hr with hr | hr
      · exact s1 r hr
      · obtain ⟨k, _, h2⟩ := mem_outs.1 hr
        rw [h2]; exact Sl.snoc p k
    rcases hd with hd | hd
    · exact hd.trans hr'
    · rw [hd]; exact hr'
  · intro c r hr hc
    simp only [Bool.or_eq_false_iff, beq_eq_false_iff_ne] at hc
    obtain ⟨hcx, hc⟩ := hc
    obtain ⟨q, hq, hpre⟩ := h.u c r hr hc
    rcases List.mem_cons.1 hq with rfl | hq
    · obtain ⟨t, rfl⟩ := hpre
      rcases t with _ | ⟨k, t⟩
      · have h1 := hr.1
        have h2 := h.v (x, p) (by simp)
        simp only [List.append_nil] at h1
        rw [h1] at h2
        injection h2 with h2
        exact absurd h2 hcx
      · have hr' : Least succ a c ((p ++ [k]) ++ t) := by simpa using hr
        obtain ⟨y, hy⟩ := Least.take t (p ++ [k]) c hr'
        obtain ⟨z, hz1, hz2⟩ := (endp_snoc succ p k a y).1 hy.1
        have h2 := h.v (x, p) (by simp)
        rw [hz1] at h2
        injection h2 with h2
        subst h2
        exact ⟨(y, p ++ [k]), List.mem_append.2 (.inr (mem_outs.2 ⟨k, hz2, rfl⟩)), ⟨t, by simp⟩⟩
    · exact ⟨q, List.mem_append.2 (.inl hq), hpre⟩
  · intro c r hr hc q hq
    have hrp : r = p ∨ Sl r p := by
      by_cases e : c = x
      · subst e; exact .inl (hr.unique hl)
      · have : (c == x) = false := by simp [e]
        simp only [this, Bool.false_or] at hc
        exact .inr (h.n c r hr hc (x, p) (by simp))
    have hr' : Sl p q.2 := by
      rcases List.mem_append.1 hq with hq | hq
      · exact s1 q hq
      · obtain ⟨k, _, h2⟩ := mem_outs.1 hq
        rw [h2]; exact Sl.snoc p k
    rcases hrp with hrp | hrp
    · rw [hrp]; exact hr'
    · exact hrp.trans hr'
  · have : (b == x) = false := by simp; exact fun e => hb e.symm
    simp [this, h.b]
theorem bfs_spec {N : Nat} (hs : ∀ x, x < N → ∀ y ∈ succ x, y < N) : ∀ (f : Nat) (seen : Nat → Bool) (todo : List (Nat × List Nat)), Bi succ a b seen todo → (∀ q ∈ todo, q.1 < N) → todo.length + restG succ seen N ≤ f →
    (∀ p, bfsGo succ b f seen todo = some p → Least succ a b p) ∧ (bfsGo succ b f seen todo = none → ∀ q, endp succ a q ≠ some b)
  | 0, seen, todo, h, hv, hf => by
    have : todo = [] := List.eq_nil_of_length_eq_zero (by omega)
    subst this
    refine ⟨fun p hp => by simp [bfsGo] at hp, fun _ q hq => ?_⟩
    obtain ⟨m, hm⟩ := least_some (succ := succ) hq
    obtain ⟨_, h1, _⟩ := h.u b m hm h.b
    cases h1
  | f + 1, seen, [], h, hv, hf => by
    refine ⟨fun p hp => by simp [bfsGo] at hp, fun _ q hq => ?_⟩
    obtain ⟨m, hm⟩ := least_some (succ := succ) hq
    obtain ⟨_, h1, _⟩ := h.u b m hm h.b
    cases h1
  | f + 1, seen, (x, p) :: todo, h, hv, hf => by
    have hxN : x < N := hv (x, p) (by simp)
    simp only [List.length_cons] at hf
    unfold bfsGo
    by_cases hxb : x = b
    · subst hxb
      simp only [↓reduceIte]
      refine ⟨fun p' hp => ?_, fun hn => by cases hn⟩
      injection hp with hp
      subst hp
      exact h.head h.b
    · rw [if_neg hxb]
      cases hx : seen x
      · simp only [Bool.false_eq_true, ↓reduceIte]
        refine bfs_spec hs f _ _ (h.step hx hxb) (fun q hq => ?_) ?_
        · rcases List.mem_append.1 hq with hq | hq
          · exact hv q (by simp [hq])
          · obtain ⟨k, h1, _⟩ := mem_outs.1 hq
            exact hs x hxN _ (List.mem_of_getElem? h1)
        · have := restG_see succ hx N hxN
          rw [List.length_append]
          have : (outs succ x p).length = (succ x).length := by simp [outs]
          omega
      · simp only [↓reduceIte]
        exact bfs_spec hs f _ _ (h.skip hx) (fun q hq => hv q (by simp [hq])) (by omega)
end
theorem Bi.start (succ : Nat → List Nat) (a b : Nat) : Bi succ a b (fun _ => false) [(a, [])] where
  v q hq := by simp at hq; subst hq; rfl
  s := by simp
  d q hq hn := by simp at hq; subst hq; exact absurd rfl hn
  u c p _ _ := ⟨(a, []), by simp, by simp⟩
  n c p _ hc := by cases hc
  b := rfl
/-- The search by levels is the search by lengths. -/
theorem bfs_path {succ : Nat → List Nat} {a b N f : Nat} (hs : ∀ x, x < N → ∀ y ∈ succ x, y < N) (ha : a < N) (hf : 1 + restG succ (fun _ => false) N ≤ f) :
    bfsGo succ b f (fun _ => false) [(a, [])] = pathUpto succ a b N := by
  obtain ⟨h1, h2⟩ := bfs_spec hs f _ _ (Bi.start succ a b) (by simpa using ha) (by simpa using hf)
  cases hp : pathUpto succ a b N with
  | some p =>
    have hl := pathUpto_least succ hp
    cases hb : bfsGo succ b f (fun _ => false) [(a, [])] with
    | some q => rw [(h1 q hb).unique hl]
    | none => exact absurd hl.1 (h2 hb p)
  | none =>
    cases hb : bfsGo succ b f (fun _ => false) [(a, [])] with
    | some q =>
      have h3 := pathUpto_none succ hp (h1 q hb).1
      have h4 := (h1 q hb).short ha hs
      omega
    | none => rfl

end Go.Proofs.Ytnegamkakdbhfaa
