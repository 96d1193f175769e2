/- Trees in memory: nodes of five cells, whose kids are a slice of nodes. No program in sight. -/
import Derived.Test.YtnbnhchgkbbiiaaRow
namespace Go.Proofs.Ytnbnhchgkbbiiaa
open Go.RowKit

inductive Tree where
  | mk (kind pos n : Int) (text : Str) (A : Option Addr) (cap : Nat) (kids : List Tree) : Tree
namespace Tree
def kind : Tree → Int | .mk k _ _ _ _ _ _ => k
def pos : Tree → Int | .mk _ p _ _ _ _ _ => p
def n : Tree → Int | .mk _ _ n _ _ _ _ => n
def text : Tree → Str | .mk _ _ _ s _ _ _ => s
def A : Tree → Option Addr | .mk _ _ _ _ a _ _ => a
def cap : Tree → Nat | .mk _ _ _ _ _ c _ => c
def kids : Tree → List Tree | .mk _ _ _ _ _ _ l => l
/-- Induction on a tree: what holds of all kids holds of it. -/
theorem ind {p : Tree → Prop} (h : ∀ t, (∀ k ∈ t.kids, p k) → p t) (t : Tree) : p t :=
  Tree.rec (motive_1 := p) (motive_2 := fun l => ∀ k ∈ l, p k) (fun _ _ _ _ _ _ l hl => h _ hl) (fun _ hk => by cases hk)
    (fun _ _ hh ht k hk => by rcases List.mem_cons.1 hk with rfl | hk; exact hh; exact ht k hk) t
/-- What is reckoned of a tree out of what is reckoned of its kids. -/
noncomputable def fold {β : Type} (f : Tree → List β → β) (t : Tree) : β :=
  Tree.rec (motive_1 := fun _ => β) (motive_2 := fun _ => List β) (fun k p n s a c l r => f (.mk k p n s a c l) r) [] (fun _ _ h t => h :: t) t
theorem fold_eq {β : Type} (f : Tree → List β → β) (t : Tree) : t.fold f = f t (t.kids.map (fold f)) := by
  cases t with
  | mk k p n s a c l =>
    show f _ _ = f _ _
    congr 1
    show Tree.rec_1 (motive_1 := fun _ => β) (motive_2 := fun _ => List β) _ _ _ l = l.map (fold f)
    induction l with
    | nil => rfl
    | cons x l ih => exact congrArg (x.fold f :: ·) ih
/-- How many nodes. -/
noncomputable def size : Tree → Nat := fold fun _ l => l.sum + 1
theorem size_eq (t : Tree) : t.size = (t.kids.map size).sum + 1 := fold_eq _ t
theorem size_pos (t : Tree) : 0 < t.size := by rw [size_eq]; omega
/-- How many levels. -/
noncomputable def depth : Tree → Nat := fold fun _ l => l.foldr max 0 + 1
theorem depth_eq (t : Tree) : t.depth = (t.kids.map depth).foldr max 0 + 1 := fold_eq _ t
theorem mem_sum {α : Type} (f : α → Nat) : ∀ {l : List α} {x : α}, x ∈ l → f x ≤ (l.map f).sum
  | y :: l, x, h => by
    simp only [List.map_cons, List.sum_cons]
    rcases List.mem_cons.1 h with rfl | h
    · omega
    · have := mem_sum f h; omega
theorem size_kid {t k : Tree} (h : k ∈ t.kids) : k.size < t.size := by rw [size_eq t]; have := mem_sum size h; omega
theorem kids_len (t : Tree) : t.kids.length < t.size := by
  rw [size_eq t]
  have : ∀ l : List Tree, l.length ≤ (l.map size).sum := by
    intro l
    induction l with
    | nil => simp
    | cons x l ih => have := size_pos x; simp only [List.length_cons, List.map_cons, List.sum_cons]; omega
  have := this t.kids
  omega
end Tree

def Tree.cells (t : Tree) : List Value := [.int .i64 t.kind, .int .i64 t.pos, .int .i64 t.n, encStr t.text, .slice t.A t.kids.length t.cap]
def treeC : Coder Tree := ⟨5, Tree.cells, fun _ => rfl, by omega⟩
@[go_sem] def treeV (t : Tree) : Value := .agg #[.int .i64 t.kind, .int .i64 t.pos, .int .i64 t.n, encStr t.text, .slice t.A t.kids.length t.cap]
def Tree.zero : Tree := .mk 0 0 0 [] none 0 []

/-- A tree that stands in memory. -/
inductive NodeIn (w : World) : Tree → Prop
  | mk {t : Tree} (le : t.kids.length ≤ t.cap) (max : t.cap ≤ 9223372036854775807) (txt : t.text.length ≤ 9223372036854775807) (row : RowOf treeC w t.A t.kids) (kids : ∀ k ∈ t.kids, NodeIn w k) : NodeIn w t
/-- Nodes that stand in memory, in a row. -/
structure NodesIn (w : World) (A : Option Addr) (l : List Tree) : Prop where
  row : RowOf treeC w A l
  kids : ∀ k ∈ l, NodeIn w k

section
variable {w w' : World} {t : Tree}
theorem NodeIn.le (h : NodeIn w t) : t.kids.length ≤ t.cap := by cases h; assumption
theorem NodeIn.max (h : NodeIn w t) : t.cap ≤ 9223372036854775807 := by cases h; assumption
theorem NodeIn.txt (h : NodeIn w t) : t.text.length ≤ 9223372036854775807 := by cases h; assumption
theorem NodeIn.nodes (h : NodeIn w t) : NodesIn w t.A t.kids := by cases h with | mk _ _ _ r k => exact ⟨r, k⟩
theorem Row.old {size n : Nat} {A : Option Addr} {xs : List Value} (h : Row w A size n xs) (k : ∀ b, b < w.heap.size → w'.heap[b]? = w.heap[b]?) (hs : w.heap.size ≤ w'.heap.size) : Row w' A size n xs := by
  refine ⟨h.1, fun hn => ?_⟩
  obtain ⟨b, o, rfl, hb, hc⟩ := h.2 hn
  exact ⟨b, o, rfl, by omega, fun j u hu => (World.cell?_of_block (a := ⟨b, o + j, none⟩) (k b hb)).trans (hc j u hu)⟩
/-- What lay lies. -/
theorem NodeIn.old (h : NodeIn w t) (k : Below w.heap.size w w') : NodeIn w' t := by
  induction h with
  | mk h1 h2 h3 h4 _ ih => exact .mk h1 h2 h3 (Row.old h4 k.block k.size) ih
theorem NodeIn.ext (h : NodeIn w t) (k : Ext w w') : NodeIn w' t := h.old k.below
theorem NodesIn.old {A : Option Addr} {l : List Tree} (h : NodesIn w A l) (k : Below w.heap.size w w') : NodesIn w' A l := ⟨Row.old h.row k.block k.size, fun x hx => (h.kids x hx).old k⟩
theorem NodesIn.ext {A : Option Addr} {l : List Tree} (h : NodesIn w A l) (k : Ext w w') : NodesIn w' A l := h.old k.below
theorem NodesIn.nil (w : World) (A : Option Addr) : NodesIn w A [] := ⟨RowOf.nil _ _ _, by simp⟩
theorem NodesIn.at_ {A : Option Addr} {l : List Tree} (h : NodesIn w A l) {i : Nat} (hi : i < l.length) :
    ∃ b o, A = some ⟨b, o, none⟩ ∧ b < w.heap.size ∧ w.cell? ⟨b, o + i * 5, none⟩ = some (.int .i64 (l[i]'hi).kind) ∧ w.cell? ⟨b, o + i * 5 + 1, none⟩ = some (.int .i64 (l[i]'hi).pos) ∧
      w.cell? ⟨b, o + i * 5 + 2, none⟩ = some (.int .i64 (l[i]'hi).n) ∧ w.cell? ⟨b, o + i * 5 + 3, none⟩ = some (.string ⟨(l[i]'hi).text.toArray⟩) ∧
      w.cell? ⟨b, o + i * 5 + 4, none⟩ = some (.slice (l[i]'hi).A (l[i]'hi).kids.length (l[i]'hi).cap) := by
  obtain ⟨b, o, e, hb, hc⟩ := RowOf.at_ treeC h.row hi
  refine ⟨b, o, e, hb, ?_, ?_, ?_, ?_, ?_⟩
  · have := hc 0 (by decide); simpa [treeC, Tree.cells] using this
  · have := hc 1 (by decide); simpa [treeC, Tree.cells] using this
  · have := hc 2 (by decide); simpa [treeC, Tree.cells] using this
  · have := hc 3 (by decide); simpa [treeC, Tree.cells] using this
  · have := hc 4 (by decide); simpa [treeC, Tree.cells] using this
end

end Go.Proofs.Ytnbnhchgkbbiiaa
