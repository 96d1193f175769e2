/- Texts as lists of bytes; rows of texts; append from a row that may be nil. No program in sight. -/
import Derived.Test.YtcnkfkjgpdmebaaGreatDoorJN1
import Derived.Maps.AppendAt
import Derived.Deep.AppendLies
import Derived.OwnWalk
import Derived.Sort.EncStr
/- Texts as lists of bytes; rows of texts; append from a row that may be nil. No program in sight. -/
namespace Go.Proofs.YtcnkfkjgpdmebaaGreatDoor
open Go.RowKit Go.Sort

abbrev Str := List UInt8

theorem lt_of_obj {w : World} {b : Nat} {o : Obj} (h : w.heap[b]? = some o) : b < w.heap.size := by
  rcases Nat.lt_or_ge b w.heap.size with h' | h'
  · exact h'
  · rw [Array.getElem?_eq_none h'] at h; cases h

/-- Texts that stand in memory. -/
def Strs (w : World) (A : Option Addr) (l : List Str) : Prop := Row w A 1 l.length (l.map encStr)

section
variable {w w' : World} {A : Option Addr} {l : List Str}
theorem Strs.at_ (h : Strs w A l) {i : Nat} (hi : i < l.length) : ∃ b o, A = some ⟨b, o, none⟩ ∧ b < w.heap.size ∧ w.cell? ⟨b, o + i, none⟩ = some (.string ⟨(l.getD i []).toArray⟩) := by
  obtain ⟨b, o, e, hb, hc⟩ := h.2 (by omega)
  exact ⟨b, o, e, hb, hc i _ (by simp [hi])⟩
theorem Strs.ext (h : Strs w A l) (k : Ext w w') : Strs w' A l := Row.ext h k
theorem Strs.nil (A : Option Addr) : Strs w A [] := Row.nil A 1
theorem Strs.cut (h : Strs w A l) {k cap : Nat} (hk : k ≤ l.length) (hc : l.length ≤ cap) : Strs w (if cap = k then A else A.map (·.add (k * 1))) (l.drop k) := by
  have := Row.cut h hk hc
  unfold Strs
  rw [List.length_drop, List.map_drop]
  simpa using this
theorem Strs.take (h : Strs w A l) {k : Nat} (hk : k ≤ l.length) : Strs w A (l.take k) := by
  refine ⟨by simp, fun hn => ?_⟩
  obtain ⟨b, o, e, hb, hc⟩ := h.2 (by simp at hn; omega)
  refine ⟨b, o, e, hb, fun j u hu => hc j u ?_⟩
  rw [List.map_take, List.getElem?_take] at hu
  split at hu
  · exact hu
  · cases hu
end

section
variable {P : Program} (w : World)
theorem run_append_none (base : Nat) (t ty e : TypeId) (i : TypeInfo) (size : Nat) (ht : P.underlying t = some (.slice e)) (hi : P.info? e = some i)
    (v : Value) (n : Nat) (xs : List Value) (hown : w.ownsRow base e size v n xs) (A : Option Addr) (hA : A = none) (c : Nat) : (Builtin.append_ #[t, t] ty #[v, .slice A 0 c]).run P w = .ok v w := by
  subst hA
  rcases hown.2 with ⟨rfl, _⟩ | ⟨g, cap, cur, rfl, _, _, hnc, _⟩
  · simp [Builtin.append_, run_underlying ht, sizeOf, typeInfo, hi, Builtin.lenOf, Builtin.firstCells]
  · simp [Builtin.append_, run_underlying ht, sizeOf, typeInfo, hi, Builtin.lenOf, Builtin.firstCells, hnc, storeCells]

theorem run_append_row (base : Nat) (t ty e : TypeId) (i : TypeInfo) (z : Value) (size bytes : Nat) (ht : P.underlying t = some (.slice e)) (hi : P.info? e = some i) (hz : i.zero = some z)
    (hsize : i.size = size) (hby : i.bytes = bytes) (hzs : z.cells.size = size) (hsz : 0 < size)
    (v : Value) (n : Nat) (xs : List Value) (hown : w.ownsRow base e size v n xs)
    (A : Option Addr) (m c : Nat) (news : List Value) (hr : Row w A size m news) (h1 : ∀ u ∈ news, u.oneCell' = true)
    (h63 : n + m ≤ maxLen) (hbytes : (n + m) * bytes ≤ 140737488355328) (hbase : base ≤ w.heap.size) :
    ∃ v' w', (Builtin.append_ #[t, t] ty #[v, .slice A m c]).run P w = .ok v' w' ∧ w'.ownsRow base e size v' (n + m) (xs ++ news) ∧ w.grownBy w' v.ownBlock ∧
      (v'.ownBlock = v.ownBlock ∨ v'.ownBlock = some w.heap.size) := by
  rcases A with _ | ad
  · have hm : m = 0 := by
      rcases Nat.eq_zero_or_pos m with h0 | h0
      · exact h0
      · obtain ⟨_, _, h, _⟩ := hr.2 h0
        cases h
    subst hm
    have hn : news = [] := List.eq_nil_of_length_eq_zero (by simpa using hr.1)
    subst hn
    exact ⟨v, w, run_append_none w base t ty e i size ht hi v n xs hown none rfl c, by simpa using hown, World.grownBy.refl w _, .inl rfl⟩
  · have hcells : ∀ j u, news[j]? = some u → w.cell? (ad.add j) = some u := by
      intro j u hu
      rcases Nat.eq_zero_or_pos m with h0 | h0
      · subst h0
        have hn : news = [] := List.eq_nil_of_length_eq_zero (by simpa using hr.1)
        subst hn
        simp at hu
      · obtain ⟨b, o, h, _, hc⟩ := hr.2 h0
        injection h with h
        subst h
        have := hc j u hu
        unfold Addr.add
        split
        · rename_i hj; subst hj; simpa using this
        · exact this
    obtain ⟨v', w', hrun, h2, h3, _, h5⟩ := run_append_own_at (P := P) w base t ty e i z size bytes ht hi hz hsize hby hzs hsz v n xs hown ad m c news hr.1 hcells h1 h63 hbytes hbase
    exact ⟨v', w', hrun, h2, h3, h5⟩

theorem wp_append_row {o : Oper} {a : Act} {K : Act → World → Prop} {Q : Exit → Act → World → Prop} (s x : Operand) (t : TypeId)
    (ho : o.op = .call { callee := .builtin .append, args := #[s, x], argTypes := #[t, t] })
    (base : Nat) (e : TypeId) (i : TypeInfo) (z : Value) (size bytes : Nat) (ht : P.underlying t = some (.slice e)) (hi : P.info? e = some i) (hz : i.zero = some z)
    (hsize : i.size = size) (hby : i.bytes = bytes) (hzs : z.cells.size = size) (hsz : 0 < size)
    (v : Value) (n : Nat) (xs : List Value) (hs : a.eval s = v) (hown : w.ownsRow base e size v n xs)
    (A : Option Addr) (m c : Nat) (news : List Value) (hx : a.eval x = .slice A m c) (hr : Row w A size m news) (h1 : ∀ u ∈ news, u.oneCell' = true)
    (h63 : n + m ≤ maxLen) (hbytes : (n + m) * bytes ≤ 140737488355328) (hbase : base ≤ w.heap.size)
    (h : ∀ v' w', w'.ownsRow base e size v' (n + m) (xs ++ news) → w.grownBy w' v.ownBlock → (v'.ownBlock = v.ownBlock ∨ v'.ownBlock = some w.heap.size) → K (a.put o.dst v') w') : o.wp P a w K Q := by
  obtain ⟨v', w', hrun, h2, h3, h4⟩ := run_append_row (P := P) w base t o.type e i z size bytes ht hi hz hsize hby hzs hsz v n xs hown A m c news hr h1 h63 hbytes hbase
  unfold Oper.wp execOp
  simp only [ho, resolve, invoke, builtin, Sem.run_bind, Sem.run_pure, Result.andThen_ok, List.map_toArray, List.map_cons, List.map_nil, hs, hx, hrun]
  exact h v' w' h2 h3 h4

theorem wpList_append_row {ops : Array Oper} {rest : List Oper} {o : Oper} {a : Act} {Q : Exit → Act → World → Prop} (hgd : o.guard = none) (s x : Operand) (t : TypeId)
    (ho : o.op = .call { callee := .builtin .append, args := #[s, x], argTypes := #[t, t] })
    (base : Nat) (e : TypeId) (i : TypeInfo) (z : Value) (size bytes : Nat) (ht : P.underlying t = some (.slice e)) (hi : P.info? e = some i) (hz : i.zero = some z)
    (hsize : i.size = size) (hby : i.bytes = bytes) (hzs : z.cells.size = size) (hsz : 0 < size)
    (v : Value) (n : Nat) (xs : List Value) (hs : a.eval s = v) (hown : w.ownsRow base e size v n xs)
    (A : Option Addr) (m c : Nat) (news : List Value) (hx : a.eval x = .slice A m c) (hr : Row w A size m news) (h1 : ∀ u ∈ news, u.oneCell' = true)
    (h63 : n + m ≤ maxLen) (hbytes : (n + m) * bytes ≤ 140737488355328) (hbase : base ≤ w.heap.size)
    (h : ∀ v' w', w'.ownsRow base e size v' (n + m) (xs ++ news) → w.grownBy w' v.ownBlock → (v'.ownBlock = v.ownBlock ∨ v'.ownBlock = some w.heap.size) → wpList P ops Q rest (a.put o.dst v') w') : wpList P ops Q (o :: rest) a w :=
  wpList_plain hgd fun _ hK => wp_append_row w s x t ho base e i z size bytes ht hi hz hsize hby hzs hsz v n xs hs hown A m c news hx hr h1 h63 hbytes hbase fun v' w' h2 h3 h4 => hK _ _ (h v' w' h2 h3 h4)
end

/-- After an append to a row of the call's own, what was there before the call is as it was. -/
theorem Ext.app {w a b : World} {base : Nat} {e : TypeId} {size : Nat} {v : Value} {n : Nat} {xs : List Value} (h : Ext w a) (hg : a.grownBy b v.ownBlock) (ho : a.ownsRow base e size v n xs) (hb : w.heap.size ≤ base) : Ext w b :=
  h.grown hg (fun k hk => by have := (ho.lt k hk).1; omega)

end Go.Proofs.YtcnkfkjgpdmebaaGreatDoor

/- Rows of anything that is told by its cells. No program in sight. -/
namespace Go.Proofs.YtcnkfkjgpdmebaaGreatDoor
open Go.RowKit

/-- How things lie in memory: `k` cells each. -/
structure Coder (α : Type) where
  k : Nat
  f : α → List Value
  hf : ∀ x, (f x).length = k
  pos : 0 < k

section
variable {α : Type} (C : Coder α) {w w' : World} {A : Option Addr} {l : List α}
def RowOf (w : World) (A : Option Addr) (l : List α) : Prop := Row w A C.k l.length (l.flatMap C.f)
theorem RowOf.ext (h : RowOf C w A l) (k : Ext w w') : RowOf C w' A l := Row.ext h k
theorem RowOf.nil (w : World) (A : Option Addr) : RowOf C w A [] := Row.nil A _
theorem RowOf.at_ (h : RowOf C w A l) {i : Nat} (hi : i < l.length) :
    ∃ b o, A = some ⟨b, o, none⟩ ∧ b < w.heap.size ∧ ∀ j, j < C.k → w.cell? ⟨b, o + i * C.k + j, none⟩ = (C.f (l[i]'hi))[j]? := by
  obtain ⟨b, o, e, hb, hc⟩ := h.2 (by omega)
  refine ⟨b, o, e, hb, fun j hj => ?_⟩
  have g : (l.flatMap C.f)[i * C.k + j]? = (C.f (l[i]'hi))[j]? := by
    rw [flat_get _ C.k C.hf l i j hj, List.getElem?_eq_getElem hi]; rfl
  have hl : j < (C.f (l[i]'hi)).length := by rw [C.hf]; exact hj
  rw [List.getElem?_eq_getElem hl] at g ⊢
  have := hc _ _ g
  rwa [← Nat.add_assoc] at this
theorem RowOf.cut (h : RowOf C w A l) {k cap : Nat} (hk : k ≤ l.length) (hc : l.length ≤ cap) : RowOf C w (if cap = k then A else A.map (·.add (k * C.k))) (l.drop k) := by
  have := Row.cut h hk hc
  unfold RowOf
  rw [List.length_drop, ← flat_drop _ _ C.hf]
  exact this
theorem RowOf.take (h : RowOf C w A l) {k : Nat} (hk : k ≤ l.length) : RowOf C w A (l.take k) := by
  refine ⟨flat_len _ _ C.hf _, fun hn => ?_⟩
  obtain ⟨b, o, e, hb, hc⟩ := h.2 (by simp at hn; omega)
  refine ⟨b, o, e, hb, fun j u hu => hc j u ?_⟩
  have e1 : l.flatMap C.f = (l.take k).flatMap C.f ++ (l.drop k).flatMap C.f := by rw [← List.flatMap_append, List.take_append_drop]
  rw [e1, List.getElem?_append_left (List.getElem?_eq_some_iff.1 hu).1]
  exact hu
theorem RowOf.own {base : Nat} {e : TypeId} {v : Value} (h : w.ownsRow base e C.k v l.length (l.flatMap C.f)) :
    ∃ A cap, v = .slice A l.length cap ∧ l.length ≤ cap ∧ cap ≤ 9223372036854775807 ∧ RowOf C w A l ∧ ∀ c o, A = some ⟨c, o, none⟩ → base ≤ c ∧ c < w.heap.size := by
  rcases h.2 with ⟨rfl, h0⟩ | ⟨g, cap, cur, rfl, hb, hg, hle, hmax, hsz, htk⟩
  · have : l = [] := List.eq_nil_of_length_eq_zero h0
    subst this
    exact ⟨none, 0, rfl, Nat.le_refl _, by omega, RowOf.nil C _ _, fun _ _ h => by cases h⟩
  · have hlt : g < w.heap.size := (Array.getElem?_eq_some_iff.1 hg).1
    refine ⟨some ⟨g, 0, none⟩, cap, rfl, hle, by unfold maxLen at hmax; omega, ⟨flat_len _ _ C.hf _, fun _ => ⟨g, 0, rfl, hlt, fun j u hu => ?_⟩⟩, fun c o h => ?_⟩
    · have := h.cells rfl j u hu
      by_cases h0 : j = 0
      · subst h0; simpa [Addr.add] using this
      · simpa [Addr.add, h0] using this
    · injection h with h; injection h with h; omega
theorem RowOf.block {b : Nat} {t : TypeId} {fr : Nat × Nat} (l : List α) (h : w.heap[b]? = some (.cells (l.flatMap C.f).toArray t fr)) : RowOf C w (some ⟨b, 0, none⟩) l := by
  refine ⟨flat_len _ _ C.hf _, fun _ => ⟨b, 0, rfl, lt_of_obj h, fun j u hu => ?_⟩⟩
  rw [Nat.zero_add]
  simp only [World.cell?, h]
  simpa using hu
theorem flat_one (f : α → Value) (l : List α) : l.flatMap (fun x => [f x]) = l.map f := by
  induction l with
  | nil => rfl
  | cons x l ih => simp [ih]
end

def strC : Coder Str := ⟨1, fun x => [encStr x], fun _ => rfl, by omega⟩
def intC : Coder Int := ⟨1, fun x => [.int .i64 x], fun _ => rfl, by omega⟩
abbrev Ints (w : World) (A : Option Addr) (l : List Int) : Prop := RowOf intC w A l
theorem strs_iff {w : World} {A : Option Addr} {l : List Str} : Strs w A l ↔ RowOf strC w A l := by
  unfold Strs RowOf
  show _ ↔ Row w A 1 l.length (l.flatMap fun x => [encStr x])
  rw [flat_one]
theorem Ints.at_ {w : World} {A : Option Addr} {l : List Int} (h : Ints w A l) {i : Nat} (hi : i < l.length) :
    ∃ b o, A = some ⟨b, o, none⟩ ∧ b < w.heap.size ∧ w.cell? ⟨b, o + i, none⟩ = some (.int .i64 (l[i]'hi)) := by
  obtain ⟨b, o, e, hb, hc⟩ := RowOf.at_ intC h hi
  refine ⟨b, o, e, hb, ?_⟩
  have := hc 0 (by decide)
  simpa [intC] using this
theorem Ints.own {w : World} {base : Nat} {e : TypeId} {v : Value} {l : List Int} (h : w.ownsRow base e 1 v l.length (l.map (Value.int .i64))) :
    ∃ A cap, v = .slice A l.length cap ∧ l.length ≤ cap ∧ cap ≤ 9223372036854775807 ∧ Ints w A l ∧ ∀ c o, A = some ⟨c, o, none⟩ → base ≤ c ∧ c < w.heap.size := by
  refine RowOf.own intC (e := e) ?_
  show w.ownsRow base e 1 v l.length (l.flatMap fun x => [.int .i64 x])
  rw [flat_one]
  exact h
theorem Ints.row {w : World} {A : Option Addr} {l : List Int} (h : Ints w A l) : Row w A 1 l.length (l.map (Value.int .i64)) := by
  have := h
  unfold Ints RowOf at this
  rwa [show l.flatMap intC.f = l.map (Value.int .i64) from flat_one _ l] at this
theorem one_ints (l : List Int) : ∀ u ∈ l.map (Value.int .i64), u.oneCell' = true := by
  intro u hu
  obtain ⟨x, _, rfl⟩ := List.mem_map.1 hu
  rfl

end Go.Proofs.YtcnkfkjgpdmebaaGreatDoor

/- Trees in memory: nodes of five cells, whose kids are a slice of nodes. No program in sight. -/
namespace Go.Proofs.YtcnkfkjgpdmebaaGreatDoor
open Go.RowKit

inductive Tree where
  | mk (kind pos n : Int) (text : Str) (A : Option Addr) (cap : Nat) (kids : List Tree) : Tree
namespace Tree
def kind : Tree → Int | .mk k _ _ _ _ _ _ => k
def pos : Tree → Int | .mk _ p _ _ _ _ _ => p
def n : Tree → Int | .mk _ _ n _ _ _ _ => n
def text : Tree → Str | .mk _ _ _ s _ _ _ => s
def A : Tree → Option Addr | .mk _ _ _ _ a _ _ => a
def cap : Tree → Nat | .mk _ _ _ _ _ c _ => c
def kids : Tree → List Tree | .mk _ _ _ _ _ _ l => l
/-- Induction on a tree: what holds of all kids holds of it. -/
theorem ind {p : Tree → Prop} (h : ∀ t, (∀ k ∈ t.kids, p k) → p t) (t : Tree) : p t :=
  Tree.rec (motive_1 := p) (motive_2 := fun l => ∀ k ∈ l, p k) (fun _ _ _ _ _ _ l hl => h _ hl) (fun _ hk => by cases hk)
    (fun _ _ hh ht k hk => by rcases List.mem_cons.1 hk with rfl | hk; exact hh; exact ht k hk) t
/-- What is reckoned of a tree out of what is reckoned of its kids. -/
noncomputable def fold {β : Type} (f : Tree → List β → β) (t : Tree) : β :=
  Tree.rec (motive_1 := fun _ => β) (motive_2 := fun _ => List β) (fun k p n s a c l r => f (.mk k p n s a c l) r) [] (fun _ _ h t => h :: t) t
theorem fold_eq {β : Type} (f : Tree → List β → β) (t : Tree) : t.fold f = f t (t.kids.map (fold f)) := by
  cases t with
  | mk k p n s a c l =>
    show f _ _ = f _ _
    congr 1
    show Tree.rec_1 (motive_1 := fun _ => β) (motive_2 := fun _ => List β) _ _ _ l = l.map (fold f)
    induction l with
    | nil => rfl
    | cons x l ih => exact congrArg (x.fold f :: ·) ih
/-- How many nodes. -/
noncomputable def size : Tree → Nat := fold fun _ l => l.sum + 1
theorem size_eq (t : Tree) : t.size = (t.kids.map size).sum + 1 := fold_eq _ t
theorem size_pos (t : Tree) : 0 < t.size := by rw [size_eq]; omega
/-- How many levels. -/
noncomputable def depth : Tree → Nat := fold fun _ l => l.foldr max 0 + 1
theorem depth_eq (t : Tree) : t.depth = (t.kids.map depth).foldr max 0 + 1 := fold_eq _ t
theorem mem_sum {α : Type} (f : α → Nat) : ∀ {l : List α} {x : α}, x ∈ l → f x ≤ (l.map f).sum
  | y :: l, x, h => by
    simp only [List.map_cons, List.sum_cons]
    rcases List.mem_cons.1 h with rfl | h
    · omega
    · have := mem_sum f h; omega
theorem size_kid {t k : Tree} (h : k ∈ t.kids) : k.size < t.size := by rw [size_eq t]; have := mem_sum size h; omega
end Tree

def Tree.cells (t : Tree) : List Value := [.int .i64 t.kind, .int .i64 t.pos, .int .i64 t.n, encStr t.text, .slice t.A t.kids.length t.cap]
def treeC : Coder Tree := ⟨5, Tree.cells, fun _ => rfl, by omega⟩
@[go_sem] def treeV (t : Tree) : Value := .agg #[.int .i64 t.kind, .int .i64 t.pos, .int .i64 t.n, encStr t.text, .slice t.A t.kids.length t.cap]
def Tree.zero : Tree := .mk 0 0 0 [] none 0 []

/-- A tree that stands in memory. -/
inductive NodeIn (w : World) : Tree → Prop
  | mk {t : Tree} (le : t.kids.length ≤ t.cap) (max : t.cap ≤ 9223372036854775807) (txt : t.text.length ≤ 9223372036854775807) (row : RowOf treeC w t.A t.kids) (kids : ∀ k ∈ t.kids, NodeIn w k) : NodeIn w t
/-- Nodes that stand in memory, in a row. -/
structure NodesIn (w : World) (A : Option Addr) (l : List Tree) : Prop where
  row : RowOf treeC w A l
  kids : ∀ k ∈ l, NodeIn w k

section
variable {w w' : World} {t : Tree}
theorem NodeIn.le (h : NodeIn w t) : t.kids.length ≤ t.cap := by cases h; assumption
theorem NodeIn.max (h : NodeIn w t) : t.cap ≤ 9223372036854775807 := by cases h; assumption
theorem NodeIn.txt (h : NodeIn w t) : t.text.length ≤ 9223372036854775807 := by cases h; assumption
theorem NodeIn.nodes (h : NodeIn w t) : NodesIn w t.A t.kids := by cases h with | mk _ _ _ r k => exact ⟨r, k⟩
theorem Row.old {size n : Nat} {A : Option Addr} {xs : List Value} (h : Row w A size n xs) (k : ∀ b, b < w.heap.size → w'.heap[b]? = w.heap[b]?) (hs : w.heap.size ≤ w'.heap.size) : Row w' A size n xs := by
  refine ⟨h.1, fun hn => ?_⟩
  obtain ⟨b, o, rfl, hb, hc⟩ := h.2 hn
  exact ⟨b, o, rfl, by omega, fun j u hu => (World.cell?_of_block (a := ⟨b, o + j, none⟩) (k b hb)).trans (hc j u hu)⟩
/-- What lay lies. -/
theorem NodeIn.old (h : NodeIn w t) (k : Below w.heap.size w w') : NodeIn w' t := by
  induction h with
  | mk h1 h2 h3 h4 _ ih => exact .mk h1 h2 h3 (Row.old h4 k.block k.size) ih
theorem NodeIn.ext (h : NodeIn w t) (k : Ext w w') : NodeIn w' t := h.old k.below
theorem NodesIn.old {A : Option Addr} {l : List Tree} (h : NodesIn w A l) (k : Below w.heap.size w w') : NodesIn w' A l := ⟨Row.old h.row k.block k.size, fun x hx => (h.kids x hx).old k⟩
theorem NodesIn.ext {A : Option Addr} {l : List Tree} (h : NodesIn w A l) (k : Ext w w') : NodesIn w' A l := h.old k.below
theorem NodesIn.nil (w : World) (A : Option Addr) : NodesIn w A [] := ⟨RowOf.nil _ _ _, by simp⟩
theorem NodesIn.at_ {A : Option Addr} {l : List Tree} (h : NodesIn w A l) {i : Nat} (hi : i < l.length) :
    ∃ b o, A = some ⟨b, o, none⟩ ∧ b < w.heap.size ∧ w.cell? ⟨b, o + i * 5, none⟩ = some (.int .i64 (l[i]'hi).kind) ∧ w.cell? ⟨b, o + i * 5 + 1, none⟩ = some (.int .i64 (l[i]'hi).pos) ∧
      w.cell? ⟨b, o + i * 5 + 2, none⟩ = some (.int .i64 (l[i]'hi).n) ∧ w.cell? ⟨b, o + i * 5 + 3, none⟩ = some (.string ⟨(l[i]'hi).text.toArray⟩) ∧
      w.cell? ⟨b, o + i * 5 + 4, none⟩ = some (.slice (l[i]'hi).A (l[i]'hi).kids.length (l[i]'hi).cap) := by
  obtain ⟨b, o, e, hb, hc⟩ := RowOf.at_ treeC h.row hi
  refine ⟨b, o, e, hb, ?_, ?_, ?_, ?_, ?_⟩
  · have := hc 0 (by decide); simpa [treeC, Tree.cells] using this
  · have := hc 1 (by decide); simpa [treeC, Tree.cells] using this
  · have := hc 2 (by decide); simpa [treeC, Tree.cells] using this
  · have := hc 3 (by decide); simpa [treeC, Tree.cells] using this
  · have := hc 4 (by decide); simpa [treeC, Tree.cells] using this
end

end Go.Proofs.YtcnkfkjgpdmebaaGreatDoor

/- Types in memory: three cells each, whose args are a slice of types. No program in sight. -/
namespace Go.Proofs.YtcnkfkjgpdmebaaGreatDoor
open Go.RowKit

inductive Ty where
  | mk (con : Str) (var : Int) (A : Option Addr) (cap : Nat) (args : List Ty) : Ty
namespace Ty
def con : Ty → Str | .mk s _ _ _ _ => s
def var : Ty → Int | .mk _ v _ _ _ => v
def A : Ty → Option Addr | .mk _ _ a _ _ => a
def cap : Ty → Nat | .mk _ _ _ c _ => c
def args : Ty → List Ty | .mk _ _ _ _ l => l
/-- Induction on a type: what holds of all args holds of it. -/
theorem ind {p : Ty → Prop} (h : ∀ t, (∀ k ∈ t.args, p k) → p t) (t : Ty) : p t :=
  Ty.rec (motive_1 := p) (motive_2 := fun l => ∀ k ∈ l, p k) (fun _ _ _ _ l hl => h _ hl) (fun _ hk => by cases hk)
    (fun _ _ hh ht k hk => by rcases List.mem_cons.1 hk with rfl | hk; exact hh; exact ht k hk) t
/-- What is reckoned of a type out of what is reckoned of its args. -/
noncomputable def fold {β : Type} (f : Ty → List β → β) (t : Ty) : β :=
  Ty.rec (motive_1 := fun _ => β) (motive_2 := fun _ => List β) (fun s v a c l r => f (.mk s v a c l) r) [] (fun _ _ h t => h :: t) t
theorem fold_eq {β : Type} (f : Ty → List β → β) (t : Ty) : t.fold f = f t (t.args.map (fold f)) := by
  cases t with
  | mk s v a c l =>
    show f _ _ = f _ _
    congr 1
    show Ty.rec_1 (motive_1 := fun _ => β) (motive_2 := fun _ => List β) _ _ _ l = l.map (fold f)
    induction l with
    | nil => rfl
    | cons x l ih => exact congrArg (x.fold f :: ·) ih
/-- How many variables and constructors. -/
noncomputable def size : Ty → Nat := fold fun _ l => l.sum + 1
theorem size_eq (t : Ty) : t.size = (t.args.map size).sum + 1 := fold_eq _ t
theorem size_pos (t : Ty) : 0 < t.size := by rw [size_eq]; omega
/-- How many levels. -/
noncomputable def depth : Ty → Nat := fold fun _ l => l.foldr max 0 + 1
theorem depth_eq (t : Ty) : t.depth = (t.args.map depth).foldr max 0 + 1 := fold_eq _ t
theorem size_arg {t k : Ty} (h : k ∈ t.args) : k.size < t.size := by rw [size_eq t]; have := Tree.mem_sum size h; omega
theorem args_len (t : Ty) : t.args.length < t.size := by
  rw [size_eq t]
  have : ∀ l : List Ty, l.length ≤ (l.map size).sum := by
    intro l
    induction l with
    | nil => simp
    | cons x l ih => have := size_pos x; simp only [List.length_cons, List.map_cons, List.sum_cons]; omega
  have := this t.args
  omega
/-- A type without its memory: what it says. -/
inductive Pure where
  | mk (con : Str) (var : Int) (args : List Pure) : Pure
noncomputable def pure : Ty → Pure := fold fun t l => .mk t.con t.var l
theorem pure_eq (t : Ty) : t.pure = .mk t.con t.var (t.args.map pure) := fold_eq _ t
end Ty

def Ty.cells (t : Ty) : List Value := [encStr t.con, .int .i64 t.var, .slice t.A t.args.length t.cap]
def tyC : Coder Ty := ⟨3, Ty.cells, fun _ => rfl, by omega⟩
@[go_sem] def tyV (t : Ty) : Value := .agg #[encStr t.con, .int .i64 t.var, .slice t.A t.args.length t.cap]
def Ty.zero : Ty := .mk [] 0 none 0 []

/-- A type that stands in memory. -/
inductive TyIn (w : World) : Ty → Prop
  | mk {t : Ty} (le : t.args.length ≤ t.cap) (max : t.cap ≤ 9223372036854775807) (txt : t.con.length ≤ 9223372036854775807) (row : RowOf tyC w t.A t.args) (args : ∀ k ∈ t.args, TyIn w k) : TyIn w t
/-- Types that stand in memory, in a row. -/
structure TysIn (w : World) (A : Option Addr) (l : List Ty) : Prop where
  row : RowOf tyC w A l
  args : ∀ k ∈ l, TyIn w k

section
variable {w w' : World} {t : Ty}
theorem TyIn.le (h : TyIn w t) : t.args.length ≤ t.cap := by cases h; assumption
theorem TyIn.max (h : TyIn w t) : t.cap ≤ 9223372036854775807 := by cases h; assumption
theorem TyIn.txt (h : TyIn w t) : t.con.length ≤ 9223372036854775807 := by cases h; assumption
theorem TyIn.all (h : TyIn w t) : TysIn w t.A t.args := by cases h with | mk _ _ _ r k => exact ⟨r, k⟩
/-- What lay lies. -/
theorem TyIn.old (h : TyIn w t) (k : Below w.heap.size w w') : TyIn w' t := by
  induction h with
  | mk h1 h2 h3 h4 _ ih => exact .mk h1 h2 h3 (Row.old h4 k.block k.size) ih
theorem TyIn.ext (h : TyIn w t) (k : Ext w w') : TyIn w' t := h.old k.below
theorem TysIn.old {A : Option Addr} {l : List Ty} (h : TysIn w A l) (k : Below w.heap.size w w') : TysIn w' A l := ⟨Row.old h.row k.block k.size, fun x hx => (h.args x hx).old k⟩
theorem TysIn.ext {A : Option Addr} {l : List Ty} (h : TysIn w A l) (k : Ext w w') : TysIn w' A l := h.old k.below
theorem TysIn.nil (w : World) (A : Option Addr) : TysIn w A [] := ⟨RowOf.nil _ _ _, by simp⟩
theorem TyIn.of {s : Str} {v : Int} {A : Option Addr} {c : Nat} {l : List Ty} (h1 : l.length ≤ c) (h2 : c ≤ 9223372036854775807) (h3 : s.length ≤ 9223372036854775807) (h4 : RowOf tyC w A l) (h5 : ∀ k ∈ l, TyIn w k) : TyIn w (.mk s v A c l) := .mk h1 h2 h3 h4 h5
theorem TyIn.zero (w : World) : TyIn w Ty.zero := TyIn.of (Nat.zero_le _) (by omega) (by decide) (RowOf.nil _ _ _) (by simp)
theorem TysIn.at_ {A : Option Addr} {l : List Ty} (h : TysIn w A l) {i : Nat} (hi : i < l.length) :
    ∃ b o, A = some ⟨b, o, none⟩ ∧ b < w.heap.size ∧ w.cell? ⟨b, o + i * 3, none⟩ = some (.string ⟨(l[i]'hi).con.toArray⟩) ∧ w.cell? ⟨b, o + i * 3 + 1, none⟩ = some (.int .i64 (l[i]'hi).var) ∧
      w.cell? ⟨b, o + i * 3 + 2, none⟩ = some (.slice (l[i]'hi).A (l[i]'hi).args.length (l[i]'hi).cap) := by
  obtain ⟨b, o, e, hb, hc⟩ := RowOf.at_ tyC h.row hi
  refine ⟨b, o, e, hb, ?_, ?_, ?_⟩
  · have := hc 0 (by decide); simpa [tyC, Ty.cells] using this
  · have := hc 1 (by decide); simpa [tyC, Ty.cells] using this
  · have := hc 2 (by decide); simpa [tyC, Ty.cells] using this
end

noncomputable def tsizes (l : List Ty) : Nat := (l.map Ty.size).sum
theorem tsizes_snoc (l : List Ty) (t : Ty) : tsizes (l ++ [t]) = tsizes l + t.size := by simp [tsizes]
theorem tsizes_take (l : List Ty) {k : Nat} (h : k < l.length) : tsizes (l.take (k + 1)) = tsizes (l.take k) + (l[k]'h).size := by rw [List.take_succ_eq_append_getElem h, tsizes_snoc]
theorem tsizes_le (l : List Ty) (k : Nat) : tsizes (l.take k) ≤ tsizes l := by
  have : tsizes l = tsizes (l.take k) + tsizes (l.drop k) := by unfold tsizes; rw [← List.sum_append, ← List.map_append, List.take_append_drop]
  omega

end Go.Proofs.YtcnkfkjgpdmebaaGreatDoor

/- Types: plain laws. All parts with their levels; how many, how deep; the same; variables; what may be. No program in sight. -/
namespace Go.Proofs.YtcnkfkjgpdmebaaGreatDoor
open Go.RowKit

/-- All parts, each with its level. -/
noncomputable def Ty.lev : Ty → Nat → List (Nat × Ty) := Ty.fold fun t l d => (d, t) :: (l.map fun f => f (d + 1)).flatten
noncomputable def tlevs (l : List Ty) (d : Nat) : List (Nat × Ty) := (l.map fun k => k.lev d).flatten
theorem tlev_eq (t : Ty) (d : Nat) : t.lev d = (d, t) :: tlevs t.args (d + 1) := by
  unfold Ty.lev
  rw [Ty.fold_eq]
  simp only [tlevs, List.map_map]
  rfl
theorem tlevs_take (l : List Ty) (d : Nat) {k : Nat} (h : k < l.length) : tlevs (l.take (k + 1)) d = tlevs (l.take k) d ++ (l[k]'h).lev d := by
  unfold tlevs
  rw [List.take_succ_eq_append_getElem h, List.map_append, List.flatten_append]
  congr 1
  simp
theorem tlevs_split (l : List Ty) (d k : Nat) : tlevs l d = tlevs (l.take k) d ++ tlevs (l.drop k) d := by
  unfold tlevs
  rw [← List.flatten_append, ← List.map_append, List.take_append_drop]
theorem tlev_len (t : Ty) : ∀ d, (t.lev d).length = t.size := by
  induction t using Ty.ind with
  | h t ih =>
  intro d
  rw [tlev_eq, Ty.size_eq, List.length_cons]
  congr 1
  unfold tlevs
  rw [List.length_flatten, List.map_map]
  congr 1
  exact List.map_congr_left (fun k hk => ih k hk (d + 1))
theorem tmax_le (l : List Nat) (m : Nat) : l.foldr max 0 ≤ m ↔ ∀ x ∈ l, x ≤ m := by
  induction l with
  | nil => simp
  | cons x l ih => simp only [List.foldr_cons, List.mem_cons, forall_eq_or_imp]; rw [← ih]; omega
theorem tlev_low (c : Nat) : ∀ (t : Ty) (d : Nat), (∀ p ∈ t.lev d, p.1 ≤ c) ↔ d + t.depth ≤ c + 1 := by
  intro t
  induction t using Ty.ind with
  | h t ih =>
  intro d
  rw [tlev_eq, Ty.depth_eq]
  have hk : (∀ p ∈ tlevs t.args (d + 1), p.1 ≤ c) ↔ ∀ k ∈ t.args, d + 1 + k.depth ≤ c + 1 := by
    unfold tlevs
    constructor
    · intro h k hk
      exact (ih k hk (d + 1)).1 (fun p hp => h p (List.mem_flatten.2 ⟨_, List.mem_map.2 ⟨k, hk, rfl⟩, hp⟩))
    · intro h p hp
      obtain ⟨_, hl, hp⟩ := List.mem_flatten.1 hp
      obtain ⟨k, hk, rfl⟩ := List.mem_map.1 hl
      exact (ih k hk (d + 1)).2 (h k hk) p hp
  simp only [List.mem_cons, forall_eq_or_imp]
  rw [hk]
  constructor
  · rintro ⟨h1, h2⟩
    have : (t.args.map Ty.depth).foldr max 0 ≤ c - d := (tmax_le _ _).2 (fun x hx => by
      obtain ⟨k, hk, rfl⟩ := List.mem_map.1 hx
      have := h2 k hk
      omega)
    omega
  · intro h
    refine ⟨by omega, fun k hk => ?_⟩
    have := (tmax_le (t.args.map Ty.depth) ((t.args.map Ty.depth).foldr max 0)).1 (Nat.le_refl _) k.depth (List.mem_map.2 ⟨k, hk, rfl⟩)
    omega
theorem tdepth_arg {t k : Ty} (h : k ∈ t.args) : k.depth < t.depth := by
  rw [Ty.depth_eq t]
  have := (tmax_le (t.args.map Ty.depth) ((t.args.map Ty.depth).foldr max 0)).1 (Nat.le_refl _) k.depth (List.mem_map.2 ⟨k, h, rfl⟩)
  omega
/-- Whether all of a list's parts are right is whether each one's parts are. -/
noncomputable def Ty.allB (f : Ty → Bool) : Ty → Bool := Ty.fold fun t l => f t && l.all id
theorem allB_eq (f : Ty → Bool) (t : Ty) : t.allB f = (f t && t.args.all (Ty.allB f)) := by
  unfold Ty.allB
  rw [Ty.fold_eq, List.all_map]
  rfl
theorem allB_lev (f : Ty → Bool) : ∀ (t : Ty) (d : Nat), t.allB f = (t.lev d).all fun p => f p.2 := by
  intro t
  induction t using Ty.ind with
  | h t ih =>
  intro d
  rw [allB_eq, tlev_eq, List.all_cons]
  congr 1
  unfold tlevs
  rw [List.all_flatten, List.all_map, Bool.eq_iff_iff, List.all_eq_true, List.all_eq_true]
  exact ⟨fun h k hk => by have := h k hk; rw [ih k hk (d + 1)] at this; exact this, fun h k hk => by have := h k hk; rw [ih k hk (d + 1)]; exact this⟩

/-- Are two the same? -/
noncomputable def sameB (a b : Ty) : Bool := @decide (a.pure = b.pure) (Classical.propDecidable _)
theorem sameB_iff {a b : Ty} : sameB a b = true ↔ a.pure = b.pure := by unfold sameB; exact @decide_eq_true_iff _ (Classical.propDecidable _)
theorem sameB_refl (a : Ty) : sameB a a = true := sameB_iff.2 rfl
theorem sameB_parts (a b : Ty) : sameB a b = (decide (a.con = b.con) && decide (a.var = b.var) && decide (a.args.length = b.args.length) && (a.args.zip b.args).all fun p => sameB p.1 p.2) := by
  rw [Bool.eq_iff_iff, sameB_iff, Ty.pure_eq a, Ty.pure_eq b]
  simp only [Bool.and_eq_true, decide_eq_true_eq, List.all_eq_true, Ty.Pure.mk.injEq]
  constructor
  · rintro ⟨h1, h2, h3⟩
    have hl : a.args.length = b.args.length := by simpa using congrArg List.length h3
    refine ⟨⟨⟨h1, h2⟩, hl⟩, fun p hp => ?_⟩
    obtain ⟨i, hi, rfl⟩ := List.getElem_of_mem hp
    rw [sameB_iff, List.getElem_zip]
    have h4 : (a.args.map Ty.pure)[i]? = (b.args.map Ty.pure)[i]? := by rw [h3]
    have hi' : i < a.args.length ∧ i < b.args.length := by rw [List.length_zip] at hi; omega
    rw [List.getElem?_map, List.getElem?_map, List.getElem?_eq_getElem hi'.1, List.getElem?_eq_getElem hi'.2] at h4
    simpa using h4
  · rintro ⟨⟨⟨h1, h2⟩, hl⟩, h⟩
    refine ⟨h1, h2, List.ext_getElem (by simpa using hl) (fun i h3 h4 => ?_)⟩
    simp only [List.length_map] at h3 h4
    rw [List.getElem_map, List.getElem_map]
    have := h (a.args[i], b.args[i]) (by rw [List.mem_iff_getElem]; exact ⟨i, by rw [List.length_zip]; omega, List.getElem_zip⟩)
    exact sameB_iff.1 this
/-- The variables as they stand. -/
noncomputable def Ty.vars : Ty → List Int := Ty.fold fun t l => (if t.con = [] then [t.var] else []) ++ l.flatten
theorem vars_eq (t : Ty) : t.vars = (if t.con = [] then [t.var] else []) ++ (t.args.map Ty.vars).flatten := by unfold Ty.vars; rw [Ty.fold_eq]
end Go.Proofs.YtcnkfkjgpdmebaaGreatDoor
