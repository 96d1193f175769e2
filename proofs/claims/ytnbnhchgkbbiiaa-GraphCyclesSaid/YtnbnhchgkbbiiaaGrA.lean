/- Graphs in memory: edges, and the slices of the vertices that each leads to. No walk here. -/
import Derived.Test.YtnbnhchgkbbiiaaSeek
namespace Go.Proofs.Ytnbnhchgkbbiiaa
open Go.RowKit

structure Edge where
  a : Int
  b : Int
def edgeC : Coder Edge := ⟨2, fun e => [.int .i64 e.a, .int .i64 e.b], fun _ => rfl, by omega⟩
abbrev Edges (w : World) (A : Option Addr) (l : List Edge) : Prop := RowOf edgeC w A l
theorem Edges.at_ {w : World} {A : Option Addr} {l : List Edge} (h : Edges w A l) {i : Nat} (hi : i < l.length) :
    ∃ b o, A = some ⟨b, o, none⟩ ∧ b < w.heap.size ∧ w.cell? ⟨b, o + i * 2, none⟩ = some (.int .i64 (l[i]'hi).a) ∧ w.cell? ⟨b, o + i * 2 + 1, none⟩ = some (.int .i64 (l[i]'hi).b) := by
  obtain ⟨b, o, e, hb, hc⟩ := RowOf.at_ edgeC h hi
  refine ⟨b, o, e, hb, ?_, ?_⟩
  · have := hc 0 (by decide); simpa [edgeC] using this
  · have := hc 1 (by decide); simpa [edgeC] using this
def edgeOk (n : Int) (e : Edge) : Bool := decide (0 ≤ e.a) && decide (0 ≤ e.b) && (decide (e.a < n) && decide (e.b < n))
def graphOk (n : Int) (es : List Edge) : Bool := decide (0 ≤ n) && decide (n ≤ 1000) && es.all (edgeOk n)
/-- Where edges lead from a vertex. -/
def nextL (es : List Edge) (v : Nat) : List Int := (es.filter (·.a == (v : Int))).map (·.b)
theorem nextL_snoc (es : List Edge) (e : Edge) (v : Nat) : nextL (es ++ [e]) v = nextL es v ++ if e.a == (v : Int) then [e.b] else [] := by
  unfold nextL
  rw [List.filter_append, List.map_append]
  cases h : (e.a == (v : Int)) <;> simp [h]

/-- A slice value, and the numbers in it. -/
structure SlV where
  val : Value
  l : List Int
/-- The vertices that each leads to, in memory: the slice of slices is block `b`, all is the call's own from block `base` on. -/
structure TosI (ty int : TypeId) (base : Nat) (w : World) (b : Nat) (ts : List SlV) : Prop where
  blk : w.heap[b]? = some (.cells (ts.map (·.val)).toArray ty (0, 0))
  ge : base ≤ b
  own : ∀ i (h : i < ts.length), w.ownsRow base int 1 (ts[i]'h).val (ts[i]'h).l.length ((ts[i]'h).l.map (Value.int .i64))
  dis : ∀ i j (hi : i < ts.length) (hj : j < ts.length), i ≠ j → (ts[i]'hi).val.ownBlock = (ts[j]'hj).val.ownBlock → (ts[i]'hi).val.ownBlock = none
  nb : ∀ i (h : i < ts.length), (ts[i]'h).val.ownBlock ≠ some b

section
variable {ty int : TypeId} {base : Nat} {w w' : World} {b : Nat} {ts : List SlV}
theorem TosI.lt (h : TosI ty int base w b ts) : b < w.heap.size := lt_of_obj h.blk
/-- Kept, where all from block `base` on is as it was. -/
theorem TosI.keep (h : TosI ty int base w b ts) {row : Option Nat} (g : w.grownBy w' row) (hr : ∀ k, row = some k → k < base) : TosI ty int base w' b ts where
  blk := (g.block b h.lt (fun e => by have := hr b e.symm; have := h.ge; omega)).trans h.blk
  ge := h.ge
  own i hi := (h.own i hi).kept g (by
    cases hv : (ts[i]'hi).val.ownBlock with
    | none => exact .inl rfl
    | some k => exact .inr (fun e => by have := ((h.own i hi).lt k hv).1; have := hr k e.symm; omega))
  dis := h.dis
  nb := h.nb
theorem TosI.ext (h : TosI ty int base w b ts) (e : Ext w w') : TosI ty int base w' b ts :=
  h.keep (row := none) ⟨e.below.os, e.below.tape, e.below.output, e.size, fun k hk _ => e.heap hk⟩ (by intro k h; cases h)
theorem TosI.cell (h : TosI ty int base w b ts) {i : Nat} (hi : i < ts.length) : w.cell? ⟨b, i, none⟩ = some (ts[i]'hi).val := by
  simp [World.cell?, h.blk, hi]
theorem TosI.free (h : TosI ty int base w b ts) (i : Nat) : w.frozen? ⟨b, i, none⟩ = false := by simp [World.frozen?, h.blk]
theorem TosI.after (h : TosI ty int base w b ts) {v : Nat} (hv : v < ts.length) {sv : Value} (hsv : (ts[v]'hv).val = sv) {w2 : World} (hg0 : w.grownBy w2 sv.ownBlock) : w2.heap[b]? = some (.cells (ts.map (·.val)).toArray ty (0, 0)) :=
  ((hsv ▸ hg0 : w.grownBy w2 (ts[v]'hv).val.ownBlock).block b h.lt (fun e => h.nb v hv e.symm)).trans h.blk
/-- A number appended to one of them. -/
theorem TosI.put (h : TosI ty int base w b ts) {v : Nat} (hv : v < ts.length) {v' sv : Value} (hsv : (ts[v]'hv).val = sv) {w2 : World} {l' : List Int}
    (hown : w2.ownsRow base int 1 v' l'.length (l'.map (Value.int .i64))) (hg0 : w.grownBy w2 sv.ownBlock) (hat0 : v'.ownBlock = sv.ownBlock ∨ v'.ownBlock = some w.heap.size) :
    TosI ty int base (w2.setCell ⟨b, v, none⟩ v') b (ts.set v ⟨v', l'⟩) := by
  have hg : w.grownBy w2 (ts[v]'hv).val.ownBlock := hsv ▸ hg0
  have hat : v'.ownBlock = (ts[v]'hv).val.ownBlock ∨ v'.ownBlock = some w.heap.size := hsv ▸ hat0
  have hb := h.lt
  have hb2 : w2.heap[b]? = some (.cells (ts.map (·.val)).toArray ty (0, 0)) := (hg.block b hb (fun e => h.nb v hv e.symm)).trans h.blk
  have hother : ∀ k, k ≠ b → (w2.setCell ⟨b, v, none⟩ v').heap[k]? = w2.heap[k]? := by
    intro k hk
    unfold World.setCell
    simp only [Array.getElem?_modify]
    rw [if_neg (fun e => hk e.symm)]
  have hsz : (w2.setCell ⟨b, v, none⟩ v').heap.size = w2.heap.size := by simp [World.setCell]
  have hset : w2.grownBy (w2.setCell ⟨b, v, none⟩ v') (some b) := ⟨rfl, rfl, rfl, by omega, fun k hk hne => hother k (fun e => hne (by rw [e]))⟩
  have hvb : v'.ownBlock ≠ some b := by
    rcases hat with h1 | h1
    · rw [h1]; exact h.nb v hv
    · rw [h1]; intro e; injection e with e; omega
  have hown2 : ∀ i (hi : i < ts.length), i ≠ v → w2.ownsRow base int 1 (ts[i]'hi).val (ts[i]'hi).l.length ((ts[i]'hi).l.map (Value.int .i64)) := by
    intro i hi hiv
    refine (h.own i hi).kept hg ?_
    cases hk : (ts[i]'hi).val.ownBlock with
    | none => exact .inl rfl
    | some k => exact .inr (fun e => by have := h.dis i v hi hv hiv (hk.trans e); rw [hk] at this; cases this)
  constructor
  · have := blk_setCell hb2 v v'
    rw [this]
    congr 2
    rw [List.setIfInBounds_toArray, List.map_set]
  · exact h.ge
  · intro i hi
    have hi' : i < ts.length := by simpa using hi
    by_cases e : i = v
    · subst e
      simp only [List.getElem_set_self]
      exact hown.kept hset (.inr hvb)
    · rw [List.getElem_set_ne (fun h => e h.symm)]
      exact (hown2 i hi' e).kept hset (.inr (h.nb i hi'))
  · intro i j hi hj hij he
    have hi' : i < ts.length := by simpa using hi
    have hj' : j < ts.length := by simpa using hj
    by_cases e1 : i = v
    · subst e1
      rw [List.getElem_set_ne hij] at he
      simp only [List.getElem_set_self] at he ⊢
      rcases hat with h1 | h1
      · rw [h1] at he ⊢
        exact h.dis i j hi' hj' hij he
      · rw [h1] at he
        have := (h.own j hj').lt _ he.symm
        omega
    · rw [List.getElem_set_ne (fun h => e1 h.symm)] at he ⊢
      by_cases e2 : j = v
      · subst e2
        simp only [List.getElem_set_self] at he
        rcases hat with h1 | h1
        · rw [h1] at he
          exact h.dis i j hi' hj' hij he
        · rw [h1] at he
          have := (h.own i hi').lt _ he
          omega
      · rw [List.getElem_set_ne (fun h => e2 h.symm)] at he
        exact h.dis i j hi' hj' hij he
  · intro i hi
    have hi' : i < ts.length := by simpa using hi
    by_cases e : i = v
    · subst e
      simp only [List.getElem_set_self]
      exact hvb
    · rw [List.getElem_set_ne (fun h => e h.symm)]
      exact h.nb i hi'
end

def markCells (n : Nat) (M : Nat → Bool) : Array Value := ((List.range n).map fun j => Value.bool (M j)).toArray
theorem markCells_get (n : Nat) (M : Nat → Bool) {j : Nat} (hj : j < n) : (markCells n M)[j]? = some (.bool (M j)) := by
  unfold markCells
  simp [hj]
theorem markCells_set (n : Nat) (M : Nat → Bool) (j : Nat) : (markCells n M).setIfInBounds j (.bool true) = markCells n (fun i => i == j || M i) := by
  unfold markCells
  rw [List.setIfInBounds_toArray]
  congr 1
  apply List.ext_getElem?
  intro i
  by_cases hi : i < n
  · by_cases e : j = i
    · subst e; simp [hi]
    · have : (i == j) = false := by simp; exact fun h => e h.symm
      simp [e, hi, this]
  · simp [hi]
/-- Which vertices are so. -/
def Marks (ty : TypeId) (w : World) (mb : Nat) (M : Nat → Bool) : Prop := w.heap[mb]? = some (.cells (markCells 1000 M) ty (0, 0))
theorem Marks.cell {ty : TypeId} {w : World} {mb : Nat} {M : Nat → Bool} (h : Marks ty w mb M) {j : Nat} (hj : j < 1000) : w.cell? ⟨mb, j, none⟩ = some (.bool (M j)) := by
  unfold Marks at h
  rw [← markCells_get 1000 M hj]
  generalize markCells 1000 M = cs at *
  simp [World.cell?, h]
theorem Marks.free {ty : TypeId} {w : World} {mb : Nat} {M : Nat → Bool} (h : Marks ty w mb M) (i : Nat) : w.frozen? ⟨mb, i, none⟩ = false := by
  unfold Marks at h
  generalize markCells 1000 M = cs at *
  simp [World.frozen?, h]
theorem Marks.set {ty : TypeId} {w : World} {mb : Nat} {M : Nat → Bool} (h : Marks ty w mb M) (j : Nat) : Marks ty (w.setCell ⟨mb, j, none⟩ (.bool true)) mb (fun i => i == j || M i) := by
  unfold Marks
  rw [blk_setCell h j (.bool true), markCells_set]
theorem grown_set (w : World) (b i : Nat) (v : Value) : w.grownBy (w.setCell ⟨b, i, none⟩ v) (some b) := by
  refine ⟨rfl, rfl, rfl, by simp [World.setCell], fun k hk hne => ?_⟩
  unfold World.setCell
  simp only [Array.getElem?_modify]
  rw [if_neg (fun e => hne (by rw [e]))]
theorem grown_trans {a b c : World} {row : Option Nat} (h : a.grownBy b row) (k : b.grownBy c row) : a.grownBy c row :=
  ⟨k.os.trans h.os, k.tape.trans h.tape, k.output.trans h.output, Nat.le_trans h.size k.size, fun j hj hne => (k.block j (Nat.lt_of_lt_of_le hj h.size) hne).trans (h.block j hj hne)⟩
theorem grown_ext {a b : World} (h : Ext a b) (row : Option Nat) : a.grownBy b row := ⟨h.below.os, h.below.tape, h.below.output, h.size, fun _ hk _ => h.heap hk⟩

/-! ### What is reached -/
inductive SR (succ : Nat → List Nat) : Nat → Nat → Prop
  | one {a b} : b ∈ succ a → SR succ a b
  | step {a b c} : SR succ a b → c ∈ succ b → SR succ a c
theorem SR.trans {succ : Nat → List Nat} {a b c : Nat} (h : SR succ a b) (k : SR succ b c) : SR succ a c := by
  induction k with
  | one h1 => exact .step h h1
  | step _ h1 ih => exact .step ih h1
/-- What a search from `v` has done, over those in `l`. -/
structure Dfs (succ : Nat → List Nat) (M M' : Nat → Bool) (v : Nat) (l : List Nat) : Prop where
  sub : ∀ x, M x = true → M' x = true
  hit : ∀ x ∈ l, M' x = true
  new : ∀ x, M' x = true → M x = true ∨ (SR succ v x ∧ ∀ y ∈ succ x, M' y = true)
section
variable {succ : Nat → List Nat} {M M1 M2 : Nat → Bool} {v u : Nat} {l : List Nat}
theorem Dfs.start (succ : Nat → List Nat) (M : Nat → Bool) (v : Nat) : Dfs succ M M v [] := ⟨fun _ h => h, by simp, fun _ h => .inl h⟩
theorem Dfs.skip (h : Dfs succ M M1 v l) (hu : M1 u = true) : Dfs succ M M1 v (l ++ [u]) := by
  refine ⟨h.sub, fun x hx => ?_, h.new⟩
  rcases List.mem_append.1 hx with hx | hx
  · exact h.hit x hx
  · simp at hx; subst hx; exact hu
theorem Dfs.go (h : Dfs succ M M1 v l) (huv : u ∈ succ v) (k : Dfs succ (fun i => i == u || M1 i) M2 u (succ u)) : Dfs succ M M2 v (l ++ [u]) := by
  have hs : ∀ x, M1 x = true → M2 x = true := fun x hx => k.sub x (by simp [hx])
  refine ⟨fun x hx => hs x (h.sub x hx), fun x hx => ?_, fun x hx => ?_⟩
  · rcases List.mem_append.1 hx with hx | hx
    · exact hs x (h.hit x hx)
    · simp at hx; subst hx; exact k.sub x (by simp)
  · rcases k.new x hx with h1 | ⟨h1, h2⟩
    · simp only [Bool.or_eq_true, beq_iff_eq] at h1
      rcases h1 with rfl | h1
      · exact .inr ⟨.one huv, k.hit⟩
      · rcases h.new x h1 with h3 | ⟨h3, h4⟩
        · exact .inl h3
        · exact .inr ⟨h3, fun y hy => hs y (h4 y hy)⟩
    · exact .inr ⟨(SR.one huv).trans h1, h2⟩
theorem Dfs.all (h : Dfs succ (fun _ => false) M1 v (succ v)) (x : Nat) : M1 x = true ↔ SR succ v x := by
  constructor
  · intro hx
    rcases h.new x hx with h1 | ⟨h1, _⟩
    · cases h1
    · exact h1
  · intro hx
    induction hx with
    | one h1 => exact h.hit _ h1
    | step _ h1 ih =>
      rcases h.new _ ih with h2 | ⟨_, h2⟩
      · cases h2
      · exact h2 _ h1
end
/-- How many are not so. -/
def holes (M : Nat → Bool) (N : Nat) : Nat := ((List.range N).filter fun j => !M j).length
theorem holes_set {M : Nat → Bool} {u : Nat} (hu : M u = false) : ∀ N, u < N → holes (fun i => i == u || M i) N + 1 = holes M N
  | 0, h => absurd h (by omega)
  | N + 1, h => by
    unfold holes
    rw [List.range_succ, List.filter_append, List.filter_append, List.length_append, List.length_append]
    by_cases e : u = N
    · subst e
      have : (List.range u).filter (fun j => !(j == u || M j)) = (List.range u).filter (fun j => !M j) := by
        apply List.filter_congr
        intro x hx
        simp at hx
        have : (x == u) = false := by simp; omega
        simp [this]
      rw [this]
      simp [hu]
    · have ih := holes_set hu N (by omega)
      unfold holes at ih
      have hN : (N == u) = false := by simp; omega
      have : ([N].filter fun j => !(j == u || M j)) = [N].filter fun j => !M j := by simp [List.filter_cons, hN]
      rw [this]
      omega
theorem holes_mono {M M' : Nat → Bool} (h : ∀ x, M x = true → M' x = true) (N : Nat) : holes M' N ≤ holes M N := by
  unfold holes
  induction N with
  | zero => simp
  | succ N ih =>
    rw [List.range_succ, List.filter_append, List.filter_append, List.length_append, List.length_append]
    have : ([N].filter fun j => !M' j).length ≤ ([N].filter fun j => !M j).length := by
      have := h N
      cases h1 : M N <;> cases h2 : M' N <;> simp_all
    omega

end Go.Proofs.Ytnbnhchgkbbiiaa
