/- Groups of vertices that reach each other: the search with a stack, step by step. No program in sight. -/
import Derived.Test.YtnbnhchgkbbiiaaGrA
namespace Go.Proofs.Ytnbnhchgkbbiiaa

/-! ### Groups of vertices that reach each other: the search with a stack -/
/-- Reached, by any way or none. -/
def RS (succ : Nat → List Nat) (a b : Nat) : Prop := a = b ∨ SR succ a b
section
variable {succ : Nat → List Nat} {a b c : Nat}
theorem RS.refl (a : Nat) : RS succ a a := .inl rfl
theorem RS.trans (h : RS succ a b) (k : RS succ b c) : RS succ a c := by
  rcases h with rfl | h
  · exact k
  · rcases k with rfl | k
    · exact .inr h
    · exact .inr (h.trans k)
theorem RS.edge (h : b ∈ succ a) : RS succ a b := .inr (.one h)
/-- A set that is closed under edges holds all that its members reach. -/
theorem RS.closed {P : Nat → Prop} (hc : ∀ x, P x → ∀ y ∈ succ x, P y) (h : RS succ a b) (ha : P a) : P b := by
  rcases h with rfl | h
  · exact ha
  · induction h with
    | one h1 => exact hc _ ha _ h1
    | step _ h1 ih => exact hc _ ih _ h1
end

/-- What the search knows. -/
structure TS where
  count : Nat
  index : Nat → Nat
  low : Nat → Nat
  opn : Nat → Bool
  stack : List Nat
  least : List Nat
  group : Nat → Nat
def TS.closed (S : TS) (x : Nat) : Prop := 0 < S.index x ∧ x ∉ S.stack

structure TInv (succ : Nat → List Nat) (n : Nat) (S : TS) (G : List Nat) : Prop where
  bound : ∀ x, 0 < S.index x → x < n
  cnt : ∀ x, S.index x ≤ S.count
  inj : ∀ x y, 0 < S.index x → S.index x = S.index y → x = y
  op : ∀ x, S.opn x = true ↔ x ∈ S.stack
  vis : ∀ x ∈ S.stack, 0 < S.index x
  srt : S.stack.Pairwise fun x y => S.index x < S.index y
  gray : ∀ g ∈ G, g ∈ S.stack
  black : ∀ x, 0 < S.index x → x ∉ G → ∀ y ∈ succ x, 0 < S.index y
  E : ∀ x ∈ S.stack, ∀ y ∈ S.stack, S.index x ≤ S.index y → RS succ x y
  F : ∀ y ∈ S.stack, ∃ g ∈ G, S.index g ≤ S.index y ∧ RS succ y g
  clo : ∀ x, S.closed x → ∀ y ∈ succ x, S.closed y
  scc : ∀ x y, S.closed x → ((RS succ x y ∧ RS succ y x) ↔ (S.closed y ∧ S.group y = S.group x))
  grp : ∀ x, S.closed x → S.group x < S.least.length
  lst : ∀ g (h : g < S.least.length), S.closed (S.least[g]'h) ∧ S.group (S.least[g]'h) = g ∧ ∀ y, S.closed y → S.group y = g → S.least[g]'h ≤ y

def TS.setLow (S : TS) (v x : Nat) : TS := { S with low := fun z => if z = v then x else S.low z }
theorem TInv.setLow {succ : Nat → List Nat} {n : Nat} {S : TS} {G : List Nat} (h : TInv succ n S G) (v x : Nat) : TInv succ n (S.setLow v x) G :=
  ⟨h.bound, h.cnt, h.inj, h.op, h.vis, h.srt, h.gray, h.black, h.E, h.F, h.clo, h.scc, h.grp, h.lst⟩

/-- What a visit has done. -/
structure VPost (succ : Nat → List Nat) (n : Nat) (G : List Nat) (S S' : TS) (v : Nat) : Prop where
  inv : TInv succ n S' G
  keep : ∀ x, 0 < S.index x → S'.index x = S.index x ∧ S'.low x = S.low x
  new : ∀ x, S.index x = 0 → 0 < S'.index x → S.count < S'.index x
  vis : 0 < S'.index v
  stk : ∃ s, S'.stack = S.stack ++ s ∧ ((s = [] ∧ S'.low v = S'.index v) ∨
    (S'.low v < S'.index v ∧ 0 < S'.low v ∧ (∃ y ∈ S.stack, S'.index y = S'.low v ∧ RS succ v y) ∧ ∀ x ∈ s, ∀ y ∈ succ x, y ∈ S.stack → S'.low v ≤ S.index y))

/-- What holds while the edges of `v` are gone through; `us` are done. -/
structure LInv (succ : Nat → List Nat) (n : Nat) (G : List Nat) (S T : TS) (v : Nat) (us : List Nat) : Prop where
  inv : TInv succ n T (v :: G)
  keep : ∀ x, 0 < S.index x → T.index x = S.index x ∧ T.low x = S.low x
  new : ∀ x, S.index x = 0 → 0 < T.index x → S.count < T.index x
  idx : T.index v = S.count + 1
  pos : 0 < T.low v
  le : T.low v ≤ T.index v
  wit : T.low v = T.index v ∨ ∃ y ∈ S.stack, T.index y = T.low v ∧ RS succ v y
  don : ∀ u ∈ us, 0 < T.index u ∧ (u ∈ S.stack → T.low v ≤ S.index u)
  stk : ∃ s, T.stack = S.stack ++ v :: s ∧ ∀ x ∈ s, ∀ y ∈ succ x, y ∈ S.stack → T.low v ≤ S.index y

/-- A vertex is come to. -/
def TS.start (S : TS) (v : Nat) : TS :=
  { S with count := S.count + 1, index := fun z => if z = v then S.count + 1 else S.index z, low := fun z => if z = v then S.count + 1 else S.low z, opn := fun z => z == v || S.opn z, stack := S.stack ++ [v] }

section
variable {succ : Nat → List Nat} {n : Nat} {G : List Nat} {S T T' : TS} {v u : Nat} {us : List Nat}
theorem start_closed (hv : S.index v = 0) (x : Nat) : (S.start v).closed x ↔ S.closed x := by
  unfold TS.closed TS.start
  simp only [List.mem_append, List.mem_singleton]
  constructor
  · rintro ⟨h1, h2⟩
    have hx : x ≠ v := fun e => h2 (.inr e)
    rw [if_neg hx] at h1
    exact ⟨h1, fun e => h2 (.inl e)⟩
  · rintro ⟨h1, h2⟩
    have hx : x ≠ v := fun e => by subst e; omega
    rw [if_neg hx]
    refine ⟨h1, ?_⟩
    rintro (e | e)
    · exact h2 e
    · exact hx e
theorem TInv.start (h : TInv succ n S G) (hv : S.index v = 0) (hn : v < n) (hG : ∀ g ∈ G, RS succ g v) : TInv succ n (S.start v) (v :: G) := by
  have hns : v ∉ S.stack := fun e => by have := h.vis v e; omega
  have hne : ∀ x ∈ S.stack, x ≠ v := fun x hx e => hns (e ▸ hx)
  have ix : ∀ x, x ≠ v → (S.start v).index x = S.index x := fun x hx => by simp [TS.start, hx]
  have iv : (S.start v).index v = S.count + 1 := by simp [TS.start]
  have hst : (S.start v).stack = S.stack ++ [v] := rfl
  constructor
  · intro x hx
    by_cases e : x = v
    · rw [e]; exact hn
    · rw [ix x e] at hx; exact h.bound x hx
  · intro x
    by_cases e : x = v
    · rw [e, iv]; exact Nat.le_refl _
    · rw [ix x e]; have := h.cnt x; show _ ≤ S.count + 1; omega
  · intro x y hx he
    by_cases e : x = v <;> by_cases e' : y = v
    · rw [e, e']
    · rw [e, iv, ix y e'] at he; have := h.cnt y; omega
    · rw [e', iv, ix x e] at he; have := h.cnt x; omega
    · rw [ix x e] at hx he; rw [ix y e'] at he; exact h.inj x y hx he
  · intro x
    simp only [TS.start, List.mem_append, List.mem_singleton, Bool.or_eq_true, beq_iff_eq, h.op x]
    exact or_comm
  · intro x hx
    rw [hst] at hx
    rcases List.mem_append.1 hx with hx | hx
    · rw [ix x (hne x hx)]; exact h.vis x hx
    · simp at hx; rw [hx, iv]; omega
  · rw [hst]
    refine List.pairwise_append.2 ⟨h.srt.imp_of_mem fun {x y} hx hy hxy => by rw [ix x (hne x hx), ix y (hne y hy)]; exact hxy, by simp, fun x hx y hy => ?_⟩
    simp at hy
    rw [hy, iv, ix x (hne x hx)]
    have := h.cnt x; omega
  · intro g hg
    rw [hst]
    rcases List.mem_cons.1 hg with rfl | hg
    · simp
    · simp [h.gray g hg]
  · intro x hx hxG y hy
    have e : x ≠ v := fun e => hxG (by simp [e])
    rw [ix x e] at hx
    have h1 := h.black x hx (fun e => hxG (by simp [e])) y hy
    by_cases e' : y = v
    · rw [e', iv]; omega
    · rw [ix y e']; exact h1
  · intro x hx y hy hxy
    rw [hst] at hx hy
    rcases List.mem_append.1 hx with mx | mx <;> rcases List.mem_append.1 hy with my | my
    · rw [ix x (hne x mx), ix y (hne y my)] at hxy; exact h.E x mx y my hxy
    · have e : y = v := by simpa using my
      obtain ⟨g, hg, _, hr⟩ := h.F x mx
      rw [e]
      exact hr.trans (hG g hg)
    · have e : x = v := by simpa using mx
      rw [e, iv, ix y (hne y my)] at hxy
      have := h.cnt y; omega
    · have e : x = v := by simpa using mx
      have e' : y = v := by simpa using my
      rw [e, e']; exact RS.refl _
  · intro y hy
    rw [hst] at hy
    rcases List.mem_append.1 hy with hy | hy
    · obtain ⟨g, hg, h1, hr⟩ := h.F y hy
      exact ⟨g, by simp [hg], by rw [ix g (hne g (h.gray g hg)), ix y (hne y hy)]; exact h1, hr⟩
    · simp at hy; exact ⟨v, by simp, by rw [hy]; exact Nat.le_refl _, by rw [hy]; exact RS.refl _⟩
  · intro x hx y hy
    rw [start_closed hv] at hx ⊢
    exact h.clo x hx y hy
  · intro x y hx
    rw [start_closed hv] at hx ⊢
    exact h.scc x y hx
  · intro x hx
    rw [start_closed hv] at hx
    exact h.grp x hx
  · intro g hg
    obtain ⟨h1, h2, h3⟩ := h.lst g hg
    exact ⟨(start_closed hv _).2 h1, h2, fun y hy => h3 y ((start_closed hv _).1 hy)⟩
theorem LInv.start (h : TInv succ n S G) (hv : S.index v = 0) (hn : v < n) (hG : ∀ g ∈ G, RS succ g v) : LInv succ n G S (S.start v) v [] where
  inv := h.start hv hn hG
  keep x hx := by
    have e : x ≠ v := fun e => by subst e; omega
    simp [TS.start, e]
  new x hx hx' := by
    by_cases e : x = v
    · simp [TS.start, e]
    · simp [TS.start, e] at hx'; omega
  idx := by simp [TS.start]
  pos := by simp [TS.start]
  le := by simp [TS.start]
  wit := .inl (by simp [TS.start])
  don := by simp
  stk := ⟨[], rfl, by simp⟩
theorem LInv.seen (h : LInv succ n G S T v us) (hu : 0 < T.index u) (ho : T.opn u = false) : LInv succ n G S T v (us ++ [u]) := by
  refine ⟨h.inv, h.keep, h.new, h.idx, h.pos, h.le, h.wit, fun x hx => ?_, h.stk⟩
  rcases List.mem_append.1 hx with hx | hx
  · exact h.don x hx
  · simp at hx
    rw [hx]
    refine ⟨hu, fun hs => ?_⟩
    obtain ⟨s, hst, _⟩ := h.stk
    have : u ∈ T.stack := by rw [hst]; simp [hs]
    have := (h.inv.op u).2 this
    rw [ho] at this; cases this
theorem LInv.open (h : LInv succ n G S T v us) (huv : u ∈ succ v) (ho : T.opn u = true) (hS : TInv succ n S G) : LInv succ n G S (T.setLow v (min (T.low v) (T.index u))) v (us ++ [u]) := by
  have hu : u ∈ T.stack := (h.inv.op u).1 ho
  have hup := h.inv.vis u hu
  have hlv : (T.setLow v (min (T.low v) (T.index u))).low v = min (T.low v) (T.index u) := by simp [TS.setLow]
  obtain ⟨s, hst, hs⟩ := h.stk
  have hkeep : ∀ x, 0 < S.index x → x ≠ v := fun x hx e => by
    have := (h.keep x hx).1
    rw [e, h.idx] at this
    have := hS.cnt v
    rw [e] at hx
    omega
  refine ⟨h.inv.setLow _ _, fun x hx => ⟨(h.keep x hx).1, ?_⟩, h.new, h.idx, ?_, ?_, ?_, ?_, s, hst, ?_⟩
  · show (if x = v then _ else T.low x) = _
    rw [if_neg (hkeep x hx)]; exact (h.keep x hx).2
  · rw [hlv]; have := h.pos; omega
  · rw [hlv]; have := h.le; show _ ≤ T.index v; omega
  · rw [hlv]
    show _ = T.index v ∨ ∃ y ∈ S.stack, T.index y = _ ∧ RS succ v y
    by_cases hle : T.low v ≤ T.index u
    · rw [Nat.min_eq_left hle]; exact h.wit
    · rw [Nat.min_eq_right (by omega)]
      refine .inr ⟨u, ?_, rfl, RS.edge huv⟩
      have hlt : T.index u < T.index v := by have := h.le; omega
      rw [hst] at hu
      rcases List.mem_append.1 hu with h1 | h1
      · exact h1
      · exfalso
        have hsr := h.inv.srt
        rw [hst] at hsr
        rcases List.mem_cons.1 h1 with h2 | h2
        · rw [h2] at hlt; omega
        · have := (List.pairwise_cons.1 (List.pairwise_append.1 hsr).2.1).1 u h2
          omega
  · intro x hx
    rw [hlv]
    show 0 < T.index x ∧ _
    rcases List.mem_append.1 hx with hx | hx
    · obtain ⟨h1, h2⟩ := h.don x hx
      exact ⟨h1, fun hm => by have := h2 hm; omega⟩
    · simp at hx
      rw [hx]
      refine ⟨hup, fun hm => ?_⟩
      have := (h.keep u (hS.vis u hm)).1
      omega
  · intro x hx y hy hm
    rw [hlv]
    have := hs x hx y hy hm
    omega
theorem LInv.white (h : LInv succ n G S T v us) (huv : u ∈ succ v) (hu : T.index u = 0) (hp : VPost succ n (v :: G) T T' u) (hS : TInv succ n S G) : LInv succ n G S (T'.setLow v (min (T'.low v) (T'.low u))) v (us ++ [u]) := by
  have hvi : 0 < T.index v := by rw [h.idx]; omega
  have hkv := hp.keep v hvi
  have huv' : u ≠ v := fun e => by rw [e] at hu; omega
  have hlv : (T'.setLow v (min (T'.low v) (T'.low u))).low v = min (T.low v) (T'.low u) := by simp [TS.setLow, hkv.2]
  obtain ⟨s, hst, hs⟩ := h.stk
  obtain ⟨s', hst', hs'⟩ := hp.stk
  have hkeep : ∀ x, 0 < S.index x → x ≠ v := fun x hx e => by
    have := (h.keep x hx).1
    rw [e, h.idx] at this
    have := hS.cnt v
    rw [e] at hx
    omega
  have hSk : ∀ x, 0 < S.index x → 0 < T.index x := fun x hx => by rw [(h.keep x hx).1]; exact hx
  have hstk2 : T'.stack = S.stack ++ v :: (s ++ s') := by rw [hst', hst]; simp
  have hunew : S.count + 1 < T'.index u := by
    have h1 := hp.new u hu hp.vis
    have h2 := h.inv.cnt v
    rw [h.idx] at h2
    omega
  -- what the visit's low is good for
  have hlow : T'.index v ≤ T'.low u ∨ (∃ y ∈ S.stack, T'.index y = T'.low u ∧ RS succ v y) := by
    rcases hs' with ⟨_, e⟩ | ⟨_, _, ⟨y, hy, e, hr⟩, _⟩
    · left; rw [hkv.1, h.idx]; omega
    · rw [hst] at hy
      rcases List.mem_append.1 hy with h1 | h1
      · exact .inr ⟨y, h1, e, (RS.edge huv).trans hr⟩
      · left
        rw [← e, hkv.1]
        have hsr := h.inv.srt
        rw [hst] at hsr
        rcases List.mem_cons.1 h1 with h2 | h2
        · rw [h2, hkv.1]; exact Nat.le_refl _
        · have h3 := (List.pairwise_cons.1 (List.pairwise_append.1 hsr).2.1).1 y h2
          have h4 := (hp.keep y (by omega)).1
          omega
  have hlp : 0 < T'.low u := by
    rcases hs' with ⟨_, e⟩ | ⟨_, hpos, _⟩
    · rw [e]; exact hp.vis
    · exact hpos
  refine ⟨hp.inv.setLow _ _, fun x hx => ?_, fun x hx hx' => ?_, ?_, ?_, ?_, ?_, ?_, s ++ s', hstk2, ?_⟩
  · have h1 := h.keep x hx
    have h2 := hp.keep x (hSk x hx)
    refine ⟨h2.1.trans h1.1, ?_⟩
    show (if x = v then _ else T'.low x) = _
    rw [if_neg (hkeep x hx)]; exact h2.2.trans h1.2
  · have hx'' : 0 < T'.index x := hx'
    show S.count < T'.index x
    rcases Nat.eq_zero_or_pos (T.index x) with h0 | h0
    · have h1 := hp.new x h0 hx''
      have h2 := h.inv.cnt v
      rw [h.idx] at h2
      omega
    · rw [(hp.keep x h0).1]; exact h.new x hx h0
  · show T'.index v = _; rw [hkv.1]; exact h.idx
  · rw [hlv]; exact Nat.lt_min.2 ⟨h.pos, hlp⟩
  · rw [hlv]; show _ ≤ T'.index v; rw [hkv.1]; exact Nat.le_trans (Nat.min_le_left _ _) h.le
  · rw [hlv]
    show _ = T'.index v ∨ ∃ y ∈ S.stack, T'.index y = _ ∧ RS succ v y
    have hw : T.low v = T'.index v ∨ ∃ y ∈ S.stack, T'.index y = T.low v ∧ RS succ v y := by
      rcases h.wit with h1 | ⟨y, hy, e, hr⟩
      · left; rw [hkv.1]; exact h1
      · right; exact ⟨y, hy, by rw [(hp.keep y (hSk y (hS.vis y hy))).1]; exact e, hr⟩
    by_cases hle : T.low v ≤ T'.low u
    · rw [Nat.min_eq_left hle]; exact hw
    · rw [Nat.min_eq_right (by omega)]
      rcases hlow with h1 | h1
      · exfalso; rw [hkv.1] at h1; have := h.le; omega
      · exact .inr h1
  · intro x hx
    rw [hlv]
    show 0 < T'.index x ∧ _
    rcases List.mem_append.1 hx with hx | hx
    · obtain ⟨h1, h2⟩ := h.don x hx
      exact ⟨by rw [(hp.keep x h1).1]; exact h1, fun hm => Nat.le_trans (Nat.min_le_left _ _) (h2 hm)⟩
    · simp at hx
      rw [hx]
      refine ⟨hp.vis, fun hm => ?_⟩
      exact absurd (hSk u (hS.vis u hm)) (by rw [hu]; exact Nat.lt_irrefl _)
  · intro x hx y hy hm
    rw [hlv]
    rcases List.mem_append.1 hx with hx | hx
    · exact Nat.le_trans (Nat.min_le_left _ _) (hs x hx y hy hm)
    · rcases hs' with ⟨e, _⟩ | ⟨_, _, _, h4⟩
      · rw [e] at hx; cases hx
      · have h5 := h4 x hx y hy (by rw [hst]; simp [hm])
        rw [(h.keep y (hS.vis y hm)).1] at h5
        exact Nat.le_trans (Nat.min_le_right _ _) h5
theorem LInv.stay (h : LInv succ n G S T v us) (hus : ∀ u ∈ succ v, u ∈ us) (hlt : T.low v < T.index v) : VPost succ n G S T v := by
  obtain ⟨s, hst, hs⟩ := h.stk
  have hwit : ∃ y ∈ S.stack, T.index y = T.low v ∧ RS succ v y := by
    rcases h.wit with h1 | h1
    · omega
    · exact h1
  refine ⟨⟨h.inv.bound, h.inv.cnt, h.inv.inj, h.inv.op, h.inv.vis, h.inv.srt, fun g hg => h.inv.gray g (by simp [hg]), fun x hx hxG y hy => ?_, h.inv.E, fun y hy => ?_, h.inv.clo, h.inv.scc, h.inv.grp, h.inv.lst⟩, h.keep, h.new, by rw [h.idx]; omega, v :: s, hst, .inr ⟨hlt, h.pos, hwit, fun x hx y hy hm => ?_⟩⟩
  · by_cases e : x = v
    · rw [e] at hy; exact (h.don y (hus y hy)).1
    · exact h.inv.black x hx (by simp [e, hxG]) y hy
  · obtain ⟨g, hg, h1, h2⟩ := h.inv.F y hy
    rcases List.mem_cons.1 hg with e | hg
    · rw [e] at h1 h2
      obtain ⟨y0, hy0, e0, hr0⟩ := hwit
      obtain ⟨g', hg', h3, h4⟩ := h.inv.F y0 (by rw [hst]; simp [hy0])
      rcases List.mem_cons.1 hg' with e' | hg'
      · rw [e'] at h3; omega
      · exact ⟨g', hg', by omega, (h2.trans hr0).trans h4⟩
    · exact ⟨g, hg, h1, h2⟩
  · rcases List.mem_cons.1 hx with e | hx
    · rw [e] at hy; exact (h.don y (hus y hy)).2 hm
    · exact hs x hx y hy hm

/-- A group is closed. -/
def TS.pop (T : TS) (st p : List Nat) (m : Nat) : TS :=
  { T with opn := fun z => T.opn z && !p.contains z, group := fun z => if p.contains z then T.least.length else T.group z, least := T.least ++ [m], stack := st }
theorem LInv.pop {s : List Nat} {m : Nat} (h : LInv succ n G S T v us) (hus : ∀ u ∈ succ v, u ∈ us) (hge : ¬ T.low v < T.index v) (hS : TInv succ n S G) (hst : T.stack = S.stack ++ v :: s) (hm : m ∈ v :: s) (hmin : ∀ x ∈ v :: s, m ≤ x) :
    VPost succ n G S (T.pop S.stack (v :: s) m) v := by
  have hlow : T.low v = T.index v := by have := h.le; omega
  obtain ⟨s2, hst2, hs⟩ := h.stk
  obtain rfl : s = s2 := by rw [hst] at hst2; simpa using hst2
  have hsr := h.inv.srt
  rw [hst] at hsr
  obtain ⟨sr1, sr2, sr3⟩ := List.pairwise_append.1 hsr
  have sr4 := (List.pairwise_cons.1 sr2).1
  have hdis : ∀ x ∈ v :: s, x ∉ S.stack := fun x hx hx' => by have := sr3 x hx' x hx; omega
  have hvs : ∀ x ∈ v :: s, T.index v ≤ T.index x := fun x hx => by
    rcases List.mem_cons.1 hx with e | hx
    · rw [e]; exact Nat.le_refl _
    · exact Nat.le_of_lt (sr4 x hx)
  have hin : ∀ x ∈ v :: s, x ∈ T.stack := fun x hx => by rw [hst]; exact List.mem_append.2 (.inr hx)
  have hvin : v ∈ v :: s := by simp
  have hG : ∀ x ∈ v :: s, x ∉ G := fun x hx hg => hdis x hx (hS.gray x hg)
  have hScount : ∀ y ∈ S.stack, S.index y < T.index v := fun y _ => by have := hS.cnt y; rw [h.idx]; omega
  have hvisd : ∀ x ∈ v :: s, ∀ y ∈ succ x, 0 < T.index y := fun x hx y hy => by
    by_cases e : x = v
    · rw [e] at hy; exact (h.don y (hus y hy)).1
    · exact h.inv.black x (h.inv.vis x (hin x hx)) (by simp [e, hG x hx]) y hy
  have hnout : ∀ x ∈ v :: s, ∀ y ∈ succ x, y ∉ S.stack := fun x hx y hy hm => by
    have h1 := hScount y hm
    rcases List.mem_cons.1 hx with e | hx
    · rw [e] at hy
      have := (h.don y (hus y hy)).2 hm
      omega
    · have := hs x hx y hy hm
      omega
  have hclo : ∀ x, (x ∈ v :: s ∨ T.closed x) → ∀ y ∈ succ x, (y ∈ v :: s ∨ T.closed y) := by
    intro x hx y hy
    rcases hx with hx | hx
    · by_cases hyt : y ∈ T.stack
      · rw [hst] at hyt
        rcases List.mem_append.1 hyt with h1 | h1
        · exact absurd h1 (hnout x hx y hy)
        · exact .inl h1
      · exact .inr ⟨hvisd x hx y hy, hyt⟩
    · exact .inr (h.inv.clo x hx y hy)
  have hback : ∀ x ∈ v :: s, RS succ x v := by
    intro x hx
    obtain ⟨g, hg, _, hr⟩ := h.inv.F x (hin x hx)
    rcases List.mem_cons.1 hg with e | hg
    · rw [e] at hr; exact hr
    · exfalso
      have hgs := hS.gray g hg
      rcases RS.closed hclo hr (.inl hx) with h1 | h1
      · exact hdis g h1 hgs
      · exact h1.2 (by rw [hst]; simp [hgs])
  have hforth : ∀ x ∈ v :: s, RS succ v x := fun x hx => h.inv.E v (hin v hvin) x (hin x hx) (hvs x hx)
  have hnc : ∀ x, (T.pop S.stack (v :: s) m).closed x ↔ (T.closed x ∨ x ∈ v :: s) := by
    intro x
    show (0 < T.index x ∧ x ∉ S.stack) ↔ _
    constructor
    · rintro ⟨h1, h2⟩
      by_cases ht : x ∈ T.stack
      · rw [hst] at ht
        rcases List.mem_append.1 ht with h3 | h3
        · exact absurd h3 h2
        · exact .inr h3
      · exact .inl ⟨h1, ht⟩
    · rintro (⟨h1, h2⟩ | h1)
      · exact ⟨h1, fun e => h2 (by rw [hst]; simp [e])⟩
      · exact ⟨h.inv.vis x (hin x h1), hdis x h1⟩
  have hgp : ∀ x ∈ v :: s, (T.pop S.stack (v :: s) m).group x = T.least.length := fun x hx => by
    show (if (v :: s).contains x then _ else _) = _
    rw [if_pos (by simpa using hx)]
  have hgc : ∀ x, T.closed x → (T.pop S.stack (v :: s) m).group x = T.group x := fun x hx => by
    show (if (v :: s).contains x then _ else _) = _
    rw [if_neg]
    intro e
    exact hx.2 (hin x (by simpa using e))
  have hll : (T.pop S.stack (v :: s) m).least = T.least ++ [m] := rfl
  refine ⟨⟨h.inv.bound, h.inv.cnt, h.inv.inj, fun x => ?_, fun x hx => ?_, sr1, hS.gray, fun x hx hxG y hy => ?_, fun x hx y hy => ?_, fun y hy => ?_, fun x hx y hy => ?_, fun x y hx => ?_, fun x hx => ?_, fun g hg => ?_⟩, h.keep, h.new, by show 0 < T.index v; rw [h.idx]; omega, [], by show S.stack = _; simp, .inl ⟨rfl, hlow⟩⟩
  · show (T.opn x && !(v :: s).contains x) = true ↔ x ∈ S.stack
    rw [Bool.and_eq_true, h.inv.op x, hst]
    simp only [Bool.not_eq_eq_eq_not, Bool.not_true]
    constructor
    · rintro ⟨h1, h2⟩
      rcases List.mem_append.1 h1 with h3 | h3
      · exact h3
      · have : (v :: s).contains x = true := by simpa using h3
        rw [this] at h2; cases h2
    · intro h1
      refine ⟨List.mem_append.2 (.inl h1), ?_⟩
      rw [Bool.eq_false_iff]
      intro e
      exact hdis x (by simpa using e) h1
  · exact h.inv.vis x (by rw [hst]; exact List.mem_append.2 (.inl hx))
  · by_cases e : x = v
    · rw [e] at hy; exact hvisd v hvin y hy
    · exact h.inv.black x hx (by simp [e, hxG]) y hy
  · exact h.inv.E x (by rw [hst]; exact List.mem_append.2 (.inl hx)) y (by rw [hst]; exact List.mem_append.2 (.inl hy))
  · obtain ⟨g, hg, h1, h2⟩ := hS.F y hy
    refine ⟨g, hg, ?_, h2⟩
    show T.index g ≤ T.index y
    rw [(h.keep g (hS.vis g (hS.gray g hg))).1, (h.keep y (hS.vis y hy)).1]
    exact h1
  · rw [hnc] at hx ⊢
    rcases hclo x hx.symm y hy with h1 | h1
    · exact .inr h1
    · exact .inl h1
  · rw [hnc] at hx ⊢
    rcases hx with hx | hx
    · rw [h.inv.scc x y hx, hgc x hx]
      constructor
      · rintro ⟨h1, h2⟩
        exact ⟨.inl h1, by rw [hgc y h1]; exact h2⟩
      · rintro ⟨h1, h2⟩
        rcases h1 with h1 | h1
        · exact ⟨h1, by rw [hgc y h1] at h2; exact h2⟩
        · rw [hgp y h1] at h2
          have := h.inv.grp x hx
          omega
    · rw [hgp x hx]
      constructor
      · rintro ⟨h1, h2⟩
        rcases RS.closed hclo h1 (.inl hx) with h3 | h3
        · exact ⟨.inr h3, hgp y h3⟩
        · exfalso
          have := RS.closed h.inv.clo h2 h3
          exact this.2 (hin x hx)
      · rintro ⟨h1, h2⟩
        rcases h1 with h1 | h1
        · rw [hgc y h1] at h2
          have := h.inv.grp y h1
          omega
        · exact ⟨(hback x hx).trans (hforth y h1), (hback y h1).trans (hforth x hx)⟩
  · rw [hnc] at hx
    rw [hll, List.length_append]
    rcases hx with hx | hx
    · rw [hgc x hx]; have := h.inv.grp x hx; simp; omega
    · rw [hgp x hx]; simp
  · simp only [hll, List.length_append, List.length_singleton] at hg
    by_cases hgl : g < T.least.length
    · have e : (T.pop S.stack (v :: s) m).least[g]'(by rw [hll]; simp; omega) = T.least[g]'hgl := by simp only [hll]; rw [List.getElem_append_left hgl]
      rw [e]
      obtain ⟨h1, h2, h3⟩ := h.inv.lst g hgl
      refine ⟨(hnc _).2 (.inl h1), by rw [hgc _ h1]; exact h2, fun y hy hgy => ?_⟩
      rcases (hnc y).1 hy with h4 | h4
      · rw [hgc y h4] at hgy; exact h3 y h4 hgy
      · rw [hgp y h4] at hgy; omega
    · have hg' : g = T.least.length := by omega
      have e : (T.pop S.stack (v :: s) m).least[g]'(by rw [hll]; simp; omega) = m := by simp only [hll]; rw [List.getElem_append_right (by omega)]; simp
      rw [e]
      refine ⟨(hnc _).2 (.inr hm), by rw [hgp _ hm, hg'], fun y hy hgy => ?_⟩
      rcases (hnc y).1 hy with h4 | h4
      · rw [hgc y h4] at hgy
        have := h.inv.grp y h4
        omega
      · exact hmin y h4
end

theorem TInv.none {succ : Nat → List Nat} {n : Nat} {S : TS} (h : TInv succ n S []) : S.stack = [] := by
  cases hs : S.stack with
  | nil => rfl
  | cons x l =>
    obtain ⟨g, hg, _⟩ := h.F x (by rw [hs]; simp)
    cases hg
theorem TInv.first (succ : Nat → List Nat) (n : Nat) : TInv succ n ⟨0, fun _ => 0, fun _ => 0, fun _ => false, [], [], fun _ => 0⟩ [] where
  bound x h := absurd h (Nat.lt_irrefl 0)
  cnt x := Nat.le_refl 0
  inj x y h := absurd h (Nat.lt_irrefl 0)
  op x := by simp
  vis x h := by cases h
  srt := List.Pairwise.nil
  gray g h := by cases h
  black x h := absurd h (Nat.lt_irrefl 0)
  E x h := by cases h
  F x h := by cases h
  clo x h := absurd h.1 (Nat.lt_irrefl 0)
  scc x y h := absurd h.1 (Nat.lt_irrefl 0)
  grp x h := absurd h.1 (Nat.lt_irrefl 0)
  lst g h := absurd h (Nat.not_lt_zero g)
/-- All is visited: the groups are the classes of those that reach each other. -/
theorem TInv.done {succ : Nat → List Nat} {n : Nat} {S : TS} (h : TInv succ n S []) (ha : ∀ x, x < n → 0 < S.index x) :
    (∀ x y, x < n → y < n → (S.group x = S.group y ↔ (RS succ x y ∧ RS succ y x))) ∧ (∀ x, x < n → S.group x < S.least.length) ∧
    ∀ g (hg : g < S.least.length), S.least[g]'hg < n ∧ S.group (S.least[g]'hg) = g ∧ ∀ y, y < n → S.group y = g → S.least[g]'hg ≤ y := by
  have hst := h.none
  have hc : ∀ x, x < n → S.closed x := fun x hx => ⟨ha x hx, by rw [hst]; simp⟩
  refine ⟨fun x y hx hy => ?_, fun x hx => h.grp x (hc x hx), fun g hg => ?_⟩
  · rw [h.scc x y (hc x hx)]
    exact ⟨fun e => ⟨hc y hy, e.symm⟩, fun e => e.2.symm⟩
  · obtain ⟨h1, h2, h3⟩ := h.lst g hg
    exact ⟨h.bound _ h1.1, h2, fun y hy e => h3 y (hc y hy) e⟩


end Go.Proofs.Ytnbnhchgkbbiiaa
