/- Plain lemmas on worlds that have grown: what the walks of this seat lean on. No program in sight. -/
import Derived.WalkKit
import Derived.Deep.Draws
/- Plain lemmas on worlds that have grown: what the walks of this seat lean on. No program in sight. -/
namespace Go.Proofs.YtcnkfkjgpdmebaaGreatDoor
open Go.RowKit

attribute [go_sem] Instr.field part isAgg asAgg

theorem hide {p : Prop} (h : p) : Hid p := h

/-- The world with blocks `l` behind its own, and the count of draws at `d`. -/
def more (w : World) (l : List Obj) (d : Nat) : World := { w with heap := w.heap ++ l.toArray, drawn := d }

section
variable (w : World) (l l' : List Obj) (d d' n i : Nat) (v : Value) (o : Obj)

@[go_sem, simp] theorem size_more : (more w l d).heap.size = w.heap.size + l.length := by simp [more]
@[go_sem, simp] theorem tape_more : (more w l d).tape = w.tape := rfl
@[go_sem, simp] theorem drew_more : (more w l d).drew = more w l (d + 1) := rfl
@[go_sem, simp] theorem drewN_more : (more w l d).drewN n = more w l (d + n) := rfl
@[go_sem, simp] theorem more_more : more (more w l d) l' d' = more w (l ++ l') d' := by
  simp [more, ← List.append_toArray, Array.append_assoc]
@[go_sem, simp] theorem more_drew : more w.drew l d = more w l d := rfl
@[go_sem, simp] theorem more_drewN : more (w.drewN n) l d = more w l d := rfl

@[go_sem] theorem alloc_drewN : (w.drewN n).alloc o = (w.alloc o).drewN n := rfl
@[go_sem] theorem setCell_drewN (a : Addr) : (w.drewN n).setCell a v = (w.setCell a v).drewN n := rfl

theorem heap_more (h : n < w.heap.size) : (more w l d).heap[n]? = w.heap[n]? := by
  simp only [more]
  rw [Array.getElem?_append_left h]
@[go_sem] theorem cell_more (h : n < w.heap.size) : (more w l d).cell? ⟨n, i, none⟩ = w.cell? ⟨n, i, none⟩ :=
  World.cell?_of_block (heap_more w l d n h)
@[go_sem] theorem frozen_more (h : n < w.heap.size) : (more w l d).frozen? ⟨n, i, none⟩ = w.frozen? ⟨n, i, none⟩ :=
  World.frozen?_of_block (heap_more w l d n h)
@[go_sem] theorem setCell_more (h : n < w.heap.size) : (more w l d).setCell ⟨n, i, none⟩ v = more (w.setCell ⟨n, i, none⟩ v) l d := by
  unfold World.setCell more
  congr 1
  apply Array.ext_getElem?
  intro k
  by_cases hk : k < w.heap.size
  · rw [Array.getElem?_append_left (by simpa using hk)]
    simp only [Array.getElem?_modify]
    rw [Array.getElem?_append_left hk]
  · rw [Array.getElem?_append_right (by simpa using Nat.le_of_not_lt hk)]
    simp only [Array.getElem?_modify, Array.size_modify]
    rw [if_neg (by omega), Array.getElem?_append_right (Nat.le_of_not_lt hk)]
end

/-! A block's number against a heap's size: both are sums, and the first is the second's beginning. -/
@[go_sem] theorem lt_up2 (x n1 n2 : Nat) : (x < x + n1 + n2) = (0 < n1 ∨ 0 < n2) := by simp only [eq_iff_iff]; omega
@[go_sem] theorem lt_up3 (x n1 n2 n3 : Nat) : (x < x + n1 + n2 + n3) = (0 < n1 ∨ 0 < n2 ∨ 0 < n3) := by simp only [eq_iff_iff]; omega
@[go_sem] theorem lt_up4 (x n1 n2 n3 n4 : Nat) : (x < x + n1 + n2 + n3 + n4) = (0 < n1 ∨ 0 < n2 ∨ 0 < n3 ∨ 0 < n4) := by simp only [eq_iff_iff]; omega
@[go_sem] theorem lt_up5 (x n1 n2 n3 n4 n5 : Nat) : (x < x + n1 + n2 + n3 + n4 + n5) = (0 < n1 ∨ 0 < n2 ∨ 0 < n3 ∨ 0 < n4 ∨ 0 < n5) := by simp only [eq_iff_iff]; omega
@[go_sem] theorem lt_up6 (x n1 n2 n3 n4 n5 n6 : Nat) : (x < x + n1 + n2 + n3 + n4 + n5 + n6) = (0 < n1 ∨ 0 < n2 ∨ 0 < n3 ∨ 0 < n4 ∨ 0 < n5 ∨ 0 < n6) := by simp only [eq_iff_iff]; omega
@[go_sem] theorem lt_up7 (x n1 n2 n3 n4 n5 n6 n7 : Nat) : (x < x + n1 + n2 + n3 + n4 + n5 + n6 + n7) = (0 < n1 ∨ 0 < n2 ∨ 0 < n3 ∨ 0 < n4 ∨ 0 < n5 ∨ 0 < n6 ∨ 0 < n7) := by simp only [eq_iff_iff]; omega
@[go_sem] theorem lt_up8 (x n1 n2 n3 n4 n5 n6 n7 n8 : Nat) : (x < x + n1 + n2 + n3 + n4 + n5 + n6 + n7 + n8) = (0 < n1 ∨ 0 < n2 ∨ 0 < n3 ∨ 0 < n4 ∨ 0 < n5 ∨ 0 < n6 ∨ 0 < n7 ∨ 0 < n8) := by simp only [eq_iff_iff]; omega
@[go_sem] theorem lt_up9 (x n1 n2 n3 n4 n5 n6 n7 n8 n9 : Nat) : (x < x + n1 + n2 + n3 + n4 + n5 + n6 + n7 + n8 + n9) = (0 < n1 ∨ 0 < n2 ∨ 0 < n3 ∨ 0 < n4 ∨ 0 < n5 ∨ 0 < n6 ∨ 0 < n7 ∨ 0 < n8 ∨ 0 < n9) := by simp only [eq_iff_iff]; omega
@[go_sem] theorem lt_up10 (x n1 n2 n3 n4 n5 n6 n7 n8 n9 n10 : Nat) : (x < x + n1 + n2 + n3 + n4 + n5 + n6 + n7 + n8 + n9 + n10) = (0 < n1 ∨ 0 < n2 ∨ 0 < n3 ∨ 0 < n4 ∨ 0 < n5 ∨ 0 < n6 ∨ 0 < n7 ∨ 0 < n8 ∨ 0 < n9 ∨ 0 < n10) := by simp only [eq_iff_iff]; omega
@[go_sem] theorem lt_up11 (x n1 n2 n3 n4 n5 n6 n7 n8 n9 n10 n11 : Nat) : (x < x + n1 + n2 + n3 + n4 + n5 + n6 + n7 + n8 + n9 + n10 + n11) = (0 < n1 ∨ 0 < n2 ∨ 0 < n3 ∨ 0 < n4 ∨ 0 < n5 ∨ 0 < n6 ∨ 0 < n7 ∨ 0 < n8 ∨ 0 < n9 ∨ 0 < n10 ∨ 0 < n11) := by simp only [eq_iff_iff]; omega
@[go_sem] theorem lt_up12 (x n1 n2 n3 n4 n5 n6 n7 n8 n9 n10 n11 n12 : Nat) : (x < x + n1 + n2 + n3 + n4 + n5 + n6 + n7 + n8 + n9 + n10 + n11 + n12) = (0 < n1 ∨ 0 < n2 ∨ 0 < n3 ∨ 0 < n4 ∨ 0 < n5 ∨ 0 < n6 ∨ 0 < n7 ∨ 0 < n8 ∨ 0 < n9 ∨ 0 < n10 ∨ 0 < n11 ∨ 0 < n12) := by simp only [eq_iff_iff]; omega
@[go_sem] theorem lt_up13 (x n1 n2 n3 n4 n5 n6 n7 n8 n9 n10 n11 n12 n13 : Nat) : (x < x + n1 + n2 + n3 + n4 + n5 + n6 + n7 + n8 + n9 + n10 + n11 + n12 + n13) = (0 < n1 ∨ 0 < n2 ∨ 0 < n3 ∨ 0 < n4 ∨ 0 < n5 ∨ 0 < n6 ∨ 0 < n7 ∨ 0 < n8 ∨ 0 < n9 ∨ 0 < n10 ∨ 0 < n11 ∨ 0 < n12 ∨ 0 < n13) := by simp only [eq_iff_iff]; omega
@[go_sem] theorem lt_up14 (x n1 n2 n3 n4 n5 n6 n7 n8 n9 n10 n11 n12 n13 n14 : Nat) : (x < x + n1 + n2 + n3 + n4 + n5 + n6 + n7 + n8 + n9 + n10 + n11 + n12 + n13 + n14) = (0 < n1 ∨ 0 < n2 ∨ 0 < n3 ∨ 0 < n4 ∨ 0 < n5 ∨ 0 < n6 ∨ 0 < n7 ∨ 0 < n8 ∨ 0 < n9 ∨ 0 < n10 ∨ 0 < n11 ∨ 0 < n12 ∨ 0 < n13 ∨ 0 < n14) := by simp only [eq_iff_iff]; omega
@[go_sem] theorem lt_over1 {x s : Nat} (n1 : Nat) (h : x < s) : (x < s + n1) = True := by simp only [eq_iff_iff, iff_true]; omega
@[go_sem] theorem lt_over2 {x s : Nat} (n1 n2 : Nat) (h : x < s) : (x < s + n1 + n2) = True := by simp only [eq_iff_iff, iff_true]; omega
@[go_sem] theorem lt_over3 {x s : Nat} (n1 n2 n3 : Nat) (h : x < s) : (x < s + n1 + n2 + n3) = True := by simp only [eq_iff_iff, iff_true]; omega
@[go_sem] theorem lt_over4 {x s : Nat} (n1 n2 n3 n4 : Nat) (h : x < s) : (x < s + n1 + n2 + n3 + n4) = True := by simp only [eq_iff_iff, iff_true]; omega
@[go_sem] theorem lt_over5 {x s : Nat} (n1 n2 n3 n4 n5 : Nat) (h : x < s) : (x < s + n1 + n2 + n3 + n4 + n5) = True := by simp only [eq_iff_iff, iff_true]; omega
@[go_sem] theorem lt_over6 {x s : Nat} (n1 n2 n3 n4 n5 n6 : Nat) (h : x < s) : (x < s + n1 + n2 + n3 + n4 + n5 + n6) = True := by simp only [eq_iff_iff, iff_true]; omega
@[go_sem] theorem lt_over7 {x s : Nat} (n1 n2 n3 n4 n5 n6 n7 : Nat) (h : x < s) : (x < s + n1 + n2 + n3 + n4 + n5 + n6 + n7) = True := by simp only [eq_iff_iff, iff_true]; omega
@[go_sem] theorem lt_over8 {x s : Nat} (n1 n2 n3 n4 n5 n6 n7 n8 : Nat) (h : x < s) : (x < s + n1 + n2 + n3 + n4 + n5 + n6 + n7 + n8) = True := by simp only [eq_iff_iff, iff_true]; omega
@[go_sem] theorem lt_over9 {x s : Nat} (n1 n2 n3 n4 n5 n6 n7 n8 n9 : Nat) (h : x < s) : (x < s + n1 + n2 + n3 + n4 + n5 + n6 + n7 + n8 + n9) = True := by simp only [eq_iff_iff, iff_true]; omega
@[go_sem] theorem lt_over10 {x s : Nat} (n1 n2 n3 n4 n5 n6 n7 n8 n9 n10 : Nat) (h : x < s) : (x < s + n1 + n2 + n3 + n4 + n5 + n6 + n7 + n8 + n9 + n10) = True := by simp only [eq_iff_iff, iff_true]; omega
@[go_sem] theorem lt_over11 {x s : Nat} (n1 n2 n3 n4 n5 n6 n7 n8 n9 n10 n11 : Nat) (h : x < s) : (x < s + n1 + n2 + n3 + n4 + n5 + n6 + n7 + n8 + n9 + n10 + n11) = True := by simp only [eq_iff_iff, iff_true]; omega
@[go_sem] theorem lt_over12 {x s : Nat} (n1 n2 n3 n4 n5 n6 n7 n8 n9 n10 n11 n12 : Nat) (h : x < s) : (x < s + n1 + n2 + n3 + n4 + n5 + n6 + n7 + n8 + n9 + n10 + n11 + n12) = True := by simp only [eq_iff_iff, iff_true]; omega
@[go_sem] theorem lt_over13 {x s : Nat} (n1 n2 n3 n4 n5 n6 n7 n8 n9 n10 n11 n12 n13 : Nat) (h : x < s) : (x < s + n1 + n2 + n3 + n4 + n5 + n6 + n7 + n8 + n9 + n10 + n11 + n12 + n13) = True := by simp only [eq_iff_iff, iff_true]; omega
@[go_sem] theorem lt_over14 {x s : Nat} (n1 n2 n3 n4 n5 n6 n7 n8 n9 n10 n11 n12 n13 n14 : Nat) (h : x < s) : (x < s + n1 + n2 + n3 + n4 + n5 + n6 + n7 + n8 + n9 + n10 + n11 + n12 + n13 + n14) = True := by simp only [eq_iff_iff, iff_true]; omega

/-- `w'` is `w`, grown. -/
def Ext (w w' : World) : Prop := ∃ l d, w' = more w l d

theorem Ext.refl (w : World) : Ext w w := ⟨[], w.drawn, by simp [more]⟩
theorem Ext.trans {a b c : World} (h : Ext a b) (k : Ext b c) : Ext a c := by
  obtain ⟨l, d, rfl⟩ := h; obtain ⟨l', d', rfl⟩ := k
  exact ⟨_, _, more_more ..⟩
theorem Ext.alloc {a b : World} (h : Ext a b) (o : Obj) : Ext a (b.alloc o) :=
  h.trans ⟨[o], b.drawn, by show ({ b with heap := b.heap.push o } : World) = { b with heap := b.heap ++ [o].toArray, drawn := b.drawn }; simp⟩
theorem Ext.drew {a b : World} (h : Ext a b) : Ext a b.drew := h.trans ⟨[], b.drawn + 1, by show ({ b with drawn := b.drawn + 1 } : World) = { b with heap := b.heap ++ [].toArray, drawn := b.drawn + 1 }; simp⟩
theorem Ext.drewN {a b : World} (h : Ext a b) (n : Nat) : Ext a (b.drewN n) := h.trans ⟨[], b.drawn + n, by show ({ b with drawn := b.drawn + n } : World) = { b with heap := b.heap ++ [].toArray, drawn := b.drawn + n }; simp⟩
theorem Ext.more {a b : World} (h : Ext a b) (l : List Obj) (d : Nat) : Ext a (more b l d) := h.trans ⟨l, d, rfl⟩
theorem Ext.tail {a w : World} {l l' : List Obj} {d : Nat} (h : Ext a (Go.Proofs.YtcnkfkjgpdmebaaGreatDoor.more w l d)) : Ext a (Go.Proofs.YtcnkfkjgpdmebaaGreatDoor.more w (l ++ l') d) := by
  have := h.more l' d
  rwa [more_more] at this
theorem Ext.pre {w : World} {l l' : List Obj} {d d' : Nat} (h : l <+: l') : Ext (Go.Proofs.YtcnkfkjgpdmebaaGreatDoor.more w l d) (Go.Proofs.YtcnkfkjgpdmebaaGreatDoor.more w l' d') := by
  obtain ⟨t, rfl⟩ := h
  have := (Ext.refl (Go.Proofs.YtcnkfkjgpdmebaaGreatDoor.more w l d)).more t d'
  rwa [more_more] at this
theorem Ext.same (w : World) (l : List Obj) (d d' : Nat) : Ext (Go.Proofs.YtcnkfkjgpdmebaaGreatDoor.more w l d) (Go.Proofs.YtcnkfkjgpdmebaaGreatDoor.more w l d') := by
  have := (Ext.refl (Go.Proofs.YtcnkfkjgpdmebaaGreatDoor.more w l d)).more [] d'
  rwa [more_more, List.append_nil] at this
theorem Ext.below {w w' : World} (h : Ext w w') : Below w.heap.size w w' := by
  obtain ⟨l, d, rfl⟩ := h
  exact ⟨rfl, rfl, rfl, by simp, fun k hk => heap_more w l d k hk⟩
theorem Ext.size {w w' : World} (h : Ext w w') : w.heap.size ≤ w'.heap.size := h.below.size
theorem Ext.heap {w w' : World} (h : Ext w w') {n : Nat} (hn : n < w.heap.size) : w'.heap[n]? = w.heap[n]? := h.below.block n hn
theorem Ext.of_grown {w w' : World} (h : w.grownBy w' none) : Ext w w' := by
  refine ⟨(w'.heap.toList.drop w.heap.size), w'.drawn, ?_⟩
  have e : w'.heap = w.heap ++ (w'.heap.toList.drop w.heap.size).toArray := by
    apply Array.ext_getElem?
    intro k
    by_cases hk : k < w.heap.size
    · rw [Array.getElem?_append_left hk, h.block k hk (by simp)]
    · rw [Array.getElem?_append_right (Nat.le_of_not_lt hk)]
      simp only [List.getElem?_toArray, List.getElem?_drop]
      rw [show w.heap.size + (k - w.heap.size) = k by omega]
      simp
  cases w'; cases w
  have h1 := h.os; have h2 := h.tape; have h3 := h.output
  simp only [Go.Proofs.YtcnkfkjgpdmebaaGreatDoor.more] at *
  subst h1; subst h2; subst h3
  congr 1
theorem Ext.of_below {B : Nat} {w w' : World} (h : Below B w w') (hB : w.heap.size ≤ B) : Ext w w' :=
  Ext.of_grown ⟨h.os, h.tape, h.output, h.size, fun k hk _ => h.block k (by omega)⟩

theorem Ext.grown {w a b : World} {row : Option Nat} (h : Ext w a) (hg : a.grownBy b row) (hr : ∀ k, row = some k → w.heap.size ≤ k) : Ext w b :=
  Ext.of_below (h.below.grown hg h.size hr) (Nat.le_refl _)
theorem Ext.setCell {w a : World} (h : Ext w a) {p : Addr} (hp : w.heap.size ≤ p.block) (u : Value) : Ext w (a.setCell p u) :=
  Ext.of_below (h.below.setCell hp u) (Nat.le_refl _)
theorem blk_setCell {w : World} {c : Nat} {cs : Array Value} {t : TypeId} (h : w.heap[c]? = some (.cells cs t (0, 0))) (i : Nat) (v : Value) :
    (w.setCell ⟨c, i, none⟩ v).heap[c]? = some (.cells (cs.setIfInBounds i v) t (0, 0)) := by
  simp [World.setCell, Array.getElem?_modify, h]

/-- A block's cells, set anew. -/
def reCells (cs : Array Value) : Obj → Obj
  | .cells _ t fr => .cells cs t fr
  | o => o
def setBlk (w : World) (c : Nat) (cs : Array Value) : World := { w with heap := w.heap.modify c (reCells cs) }

section
variable (w : World) (l : List Obj) (d n i c : Nat) (v : Value) (o : Obj) (cs cs' : Array Value) (t : TypeId)
@[go_sem, simp] theorem size_setBlk : (setBlk w c cs).heap.size = w.heap.size := by simp [setBlk]
@[go_sem, simp] theorem tape_setBlk : (setBlk w c cs).tape = w.tape := rfl
@[go_sem, simp] theorem setBlk_drew : setBlk w.drew c cs = (setBlk w c cs).drew := rfl
theorem heap_setBlk (h : n ≠ c) : (setBlk w c cs).heap[n]? = w.heap[n]? := by
  simp only [setBlk, Array.getElem?_modify]
  rw [if_neg (Ne.symm h)]
@[go_sem] theorem cell_setBlk_gt (h : c < n) : (setBlk w c cs).cell? ⟨n, i, none⟩ = w.cell? ⟨n, i, none⟩ :=
  World.cell?_of_block (heap_setBlk w n c cs (by simp; omega))
@[go_sem] theorem frozen_setBlk_gt (h : c < n) : (setBlk w c cs).frozen? ⟨n, i, none⟩ = w.frozen? ⟨n, i, none⟩ :=
  World.frozen?_of_block (heap_setBlk w n c cs (by simp; omega))
@[go_sem] theorem cell_setBlk_lt (h : n < c) : (setBlk w c cs).cell? ⟨n, i, none⟩ = w.cell? ⟨n, i, none⟩ :=
  World.cell?_of_block (heap_setBlk w n c cs (by simp; omega))
@[go_sem] theorem frozen_setBlk_lt (h : n < c) : (setBlk w c cs).frozen? ⟨n, i, none⟩ = w.frozen? ⟨n, i, none⟩ :=
  World.frozen?_of_block (heap_setBlk w n c cs (by simp; omega))
theorem setCell_setBlk (h : n ≠ c) : (setBlk w c cs).setCell ⟨n, i, none⟩ v = setBlk (w.setCell ⟨n, i, none⟩ v) c cs := by
  unfold World.setCell setBlk
  congr 1
  apply Array.ext_getElem?
  intro k
  simp only [Array.getElem?_modify]
  by_cases hk : n = k
  · subst hk
    rw [if_pos rfl, if_neg (Ne.symm h), if_neg (Ne.symm h), if_pos rfl]
  · rw [if_neg hk, if_neg hk]
@[go_sem] theorem setCell_setBlk_gt (h : c < n) : (setBlk w c cs).setCell ⟨n, i, none⟩ v = setBlk (w.setCell ⟨n, i, none⟩ v) c cs :=
  setCell_setBlk w n i c v cs (by omega)
@[go_sem] theorem setCell_setBlk_lt (h : n < c) : (setBlk w c cs).setCell ⟨n, i, none⟩ v = setBlk (w.setCell ⟨n, i, none⟩ v) c cs :=
  setCell_setBlk w n i c v cs (by omega)
end

end Go.Proofs.YtcnkfkjgpdmebaaGreatDoor

/- Words and the plain model of a cursor; rows of memory that hold words. No program in sight. -/
namespace Go.Proofs.YtcnkfkjgpdmebaaGreatDoor
open Go.RowKit

structure Tok where
  kind : Int
  pos : Int
  n : Int
  text : ByteArray

def Tok.zero : Tok := ⟨0, 0, 0, ⟨#[]⟩⟩
def Tok.cells (t : Tok) : List Value := [.int .i64 t.kind, .int .i64 t.pos, .int .i64 t.n, .string t.text]
@[go_sem] def tokV (t : Tok) : Value := .agg #[.int .i64 t.kind, .int .i64 t.pos, .int .i64 t.n, .string t.text]
def tokAt (ts : List Tok) (i : Nat) : Tok := ts.getD i Tok.zero

/-- A row of `n` elements of `size` cells each, `xs`, at `A`. -/
def Row (w : World) (A : Option Addr) (size n : Nat) (xs : List Value) : Prop :=
  xs.length = n * size ∧ (0 < n → ∃ b o, A = some ⟨b, o, none⟩ ∧ b < w.heap.size ∧ ∀ j u, xs[j]? = some u → w.cell? ⟨b, o + j, none⟩ = some u)

section
variable {w w' : World} {size n : Nat} {A : Option Addr} {xs : List Value}
theorem Row.nil (A : Option Addr) (size : Nat) : Row w A size 0 [] := ⟨by simp, fun h => absurd h (by omega)⟩
theorem Row.keep (h : Row w A size n xs) (hs : w.heap.size ≤ w'.heap.size) (hk : ∀ b o, A = some ⟨b, o, none⟩ → b < w.heap.size → w'.heap[b]? = w.heap[b]?) : Row w' A size n xs :=
  ⟨h.1, fun hn => by
    obtain ⟨b, o, e, hb, hc⟩ := h.2 hn
    exact ⟨b, o, e, by omega, fun j u hu => (World.cell?_of_block (a := ⟨b, o + j, none⟩) (hk b o e hb)).trans (hc j u hu)⟩⟩
theorem Row.ext (h : Row w A size n xs) (k : Ext w w') : Row w' A size n xs := h.keep k.size fun _ _ _ hb => k.heap hb
theorem Row.set (h : Row w A size n xs) {c : Nat} (cs : Array Value) (hc : ∀ o, A ≠ some ⟨c, o, none⟩) : Row (setBlk w c cs) A size n xs :=
  h.keep (by simp) fun b o e _ => heap_setBlk _ _ _ _ (fun h => hc o (by rw [e, h]))
theorem Row.cut (h : Row w A size n xs) {k cap : Nat} (hk : k ≤ n) (hc : n ≤ cap) :
    Row w (if cap = k then A else A.map (·.add (k * size))) size (n - k) (xs.drop (k * size)) := by
  refine ⟨by rw [List.length_drop, h.1, Nat.sub_mul], fun hn => ?_⟩
  obtain ⟨b, o, rfl, hb, hcell⟩ := h.2 (by omega)
  rw [if_neg (by omega)]
  refine ⟨b, o + k * size, ?_, hb, fun j u hu => ?_⟩
  · unfold Addr.add
    simp only [Option.map_some]
    split
    · rename_i h0; rw [h0]; rfl
    · rfl
  · rw [Nat.add_assoc]
    exact hcell _ u (by rw [← hu, List.getElem?_drop])
end

/-- All cells of things, one behind the other. -/
theorem flat_get {α : Type} (f : α → List Value) (k : Nat) (hf : ∀ x, (f x).length = k) : ∀ (l : List α) (i j : Nat), j < k →
    (l.flatMap f)[i * k + j]? = (l[i]?).bind fun x => (f x)[j]?
  | [], i, j, _ => by simp
  | x :: l, 0, j, hj => by
    simp only [List.flatMap_cons, Nat.zero_mul, Nat.zero_add, List.getElem?_cons_zero, Option.bind_some]
    rw [List.getElem?_append_left (by rw [hf]; exact hj)]
  | x :: l, i + 1, j, hj => by
    simp only [List.flatMap_cons, List.getElem?_cons_succ]
    rw [List.getElem?_append_right (by rw [hf, Nat.succ_mul]; omega), hf, show (i + 1) * k + j - k = i * k + j by rw [Nat.succ_mul]; omega]
    exact flat_get f k hf l i j hj
theorem flat_len {α : Type} (f : α → List Value) (k : Nat) (hf : ∀ x, (f x).length = k) (l : List α) : (l.flatMap f).length = l.length * k := by
  induction l with
  | nil => simp
  | cons x l ih => simp only [List.flatMap_cons, List.length_append, List.length_cons, ih, hf, Nat.succ_mul]; omega
theorem flat_drop {α : Type} (f : α → List Value) (k : Nat) (hf : ∀ x, (f x).length = k) : ∀ (l : List α) (i : Nat), (l.flatMap f).drop (i * k) = (l.drop i).flatMap f
  | l, 0 => by simp
  | [], i + 1 => by simp
  | x :: l, i + 1 => by
    simp only [List.flatMap_cons, List.drop_succ_cons]
    rw [show (i + 1) * k = k + i * k by rw [Nat.succ_mul]; omega, ← List.drop_drop, List.drop_left' (hf x)]
    exact flat_drop f k hf l i

def toks (ts : List Tok) : List Value := ts.flatMap Tok.cells
/-- Words that stand in memory. -/
def Toks (w : World) (A : Option Addr) (ts : List Tok) : Prop := Row w A 4 ts.length (toks ts)

theorem Toks.at_ {w : World} {A : Option Addr} {ts : List Tok} (h : Toks w A ts) {i : Nat} (hi : i < ts.length) :
    ∃ b o, A = some ⟨b, o, none⟩ ∧ b < w.heap.size ∧ w.cell? ⟨b, o + i * 4, none⟩ = some (.int .i64 (tokAt ts i).kind) ∧ w.cell? ⟨b, o + i * 4 + 1, none⟩ = some (.int .i64 (tokAt ts i).pos) ∧
      w.cell? ⟨b, o + i * 4 + 2, none⟩ = some (.int .i64 (tokAt ts i).n) ∧ w.cell? ⟨b, o + i * 4 + 3, none⟩ = some (.string (tokAt ts i).text) := by
  obtain ⟨b, o, e, hb, hc⟩ := h.2 (by omega)
  have e0 : ts[i]? = some (tokAt ts i) := by simp [tokAt, hi]
  have g (j : Nat) (hj : j < 4) : (toks ts)[i * 4 + j]? = (tokAt ts i).cells[j]? := by
    unfold toks
    rw [flat_get _ 4 (fun _ => rfl) ts i j hj, e0]; rfl
  refine ⟨b, o, e, hb, ?_, ?_, ?_, ?_⟩
  · have := hc (i * 4 + 0) _ (g 0 (by omega)); simpa using this
  · have := hc (i * 4 + 1) _ (g 1 (by omega)); simpa [Nat.add_assoc] using this
  · have := hc (i * 4 + 2) _ (g 2 (by omega)); simpa [Nat.add_assoc] using this
  · have := hc (i * 4 + 3) _ (g 3 (by omega)); simpa [Nat.add_assoc] using this
theorem Toks.head {w : World} {A : Option Addr} {ts : List Tok} (h : Toks w A ts) (hi : 0 < ts.length) :
    ∃ b o, A = some ⟨b, o, none⟩ ∧ b < w.heap.size ∧ w.cell? ⟨b, o, none⟩ = some (.int .i64 (tokAt ts 0).kind) ∧ w.cell? ⟨b, o + 1, none⟩ = some (.int .i64 (tokAt ts 0).pos) ∧
      w.cell? ⟨b, o + 2, none⟩ = some (.int .i64 (tokAt ts 0).n) ∧ w.cell? ⟨b, o + 3, none⟩ = some (.string (tokAt ts 0).text) := by
  have := h.at_ hi
  simpa using this
theorem Toks.ext {w w' : World} {A : Option Addr} {ts : List Tok} (h : Toks w A ts) (k : Ext w w') : Toks w' A ts := Row.ext h k
theorem Toks.nil {w : World} (A : Option Addr) : Toks w A [] := Row.nil A 4
theorem Toks.cut {w : World} {A : Option Addr} {ts : List Tok} (h : Toks w A ts) {k cap : Nat} (hk : k ≤ ts.length) (hc : ts.length ≤ cap) :
    Toks w (if cap = k then A else A.map (·.add (k * 4))) (ts.drop k) := by
  have := Row.cut h hk hc
  unfold Toks
  rw [List.length_drop]
  unfold toks at this ⊢
  rw [flat_drop _ 4 (fun _ => rfl)] at this
  exact this

/-! ### The plain model -/
structure M where
  rest : List Tok
  ep : Int
  nest : Nat
  err : Int
  pos : Int

namespace M
def peek (m : M) : Tok := if m.err = 0 then (match m.rest with | [] => ⟨0, m.ep, 0, ⟨#[]⟩⟩ | t :: _ => t) else Tok.zero
def next (m : M) : M := if m.err = 0 then { m with rest := m.rest.tail } else m
end M
def wordB (t : Tok) (s : ByteArray) : Bool := (t.kind == 4 || t.kind == 5) && t.text.toList == s.toList
namespace M
def is (m : M) (s : ByteArray) : Bool := m.err == 0 && wordB m.peek s
def take (m : M) (s : ByteArray) : M := if m.is s then m.next else m
def fail (m : M) (e : Int) : M := if m.err = 0 then { m with err := if e = 0 then 1 else e, pos := m.peek.pos } else m
def want (m : M) (s : ByteArray) : M := if m.is s then m.next else m.fail 5
def kindB (m : M) (k : Int) : Bool := m.err == 0 && m.peek.kind == k
def kind (m : M) (k : Int) : M := if m.kindB k then m.next else m.fail 5
def enterB (m : M) : Bool := m.err == 0 && decide (m.nest < 200)
def enter (m : M) : M := if m.enterB then { m with nest := m.nest + 1 } else m.fail 2
end M
/-- (, {: 1; ), }: 2; ;: 3; another text that is `s`: 4; 0. -/
def aheadL (s : ByteArray) : List Tok → Nat → Bool
  | [], _ => false
  | t :: l, d =>
    if wordB t ⟨#[40]⟩ || wordB t ⟨#[123]⟩ then aheadL s l (d + 1)
    else if wordB t ⟨#[41]⟩ || wordB t ⟨#[125]⟩ then (if d = 0 then false else aheadL s l (d - 1))
    else if d ≠ 0 then aheadL s l d
    else if wordB t ⟨#[59]⟩ then false
    else if wordB t s then true
    else aheadL s l d
def M.ahead (m : M) (s : ByteArray) : Bool := m.err == 0 && aheadL s m.rest 0

/-- The value of the reference's cursor. -/
@[go_sem] def refV (A : Option Addr) (cap : Nat) (m : M) : Value :=
  .agg #[.slice A m.rest.length cap, .int .i64 0, .int .i64 m.ep, .int .i64 0, .string ⟨#[]⟩, .int .i64 m.nest, .int .i64 m.err, .int .i64 m.pos]
structure RefC (w : World) (A : Option Addr) (cap : Nat) (m : M) : Prop where
  le : m.rest.length ≤ cap
  max : cap ≤ 9223372036854775807
  nest : m.nest ≤ 200
  row : Toks w A m.rest
theorem RefC.ext {w w' : World} {A : Option Addr} {cap : Nat} {m : M} (h : RefC w A cap m) (k : Ext w w') : RefC w' A cap m := ⟨h.le, h.max, h.nest, h.row.ext k⟩

end Go.Proofs.YtcnkfkjgpdmebaaGreatDoor
