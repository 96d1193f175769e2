/- The record of a search in memory: one block of 4004 cells. No program in sight. -/
import Derived.Test.YtnbnhchgkbbiiaaApp
import Derived.Test.YtnbnhchgkbbiiaaGrA
import Derived.Test.YtnbnhchgkbbiiaaTarB
namespace Go.Proofs.Ytnbnhchgkbbiiaa
open Go.RowKit

def cellsOf (N : Nat) (f : Nat → Value) : Array Value := ((List.range N).map f).toArray
theorem cellsOf_get (N : Nat) (f : Nat → Value) {j : Nat} (hj : j < N) : (cellsOf N f)[j]? = some (f j) := by
  unfold cellsOf
  simp [hj]
theorem cellsOf_set (N : Nat) (f g : Nat → Value) (j : Nat) (x : Value) (h : ∀ i, i < N → g i = if i = j then x else f i) : (cellsOf N f).setIfInBounds j x = cellsOf N g := by
  unfold cellsOf
  rw [List.setIfInBounds_toArray]
  congr 1
  apply List.ext_getElem?
  intro i
  by_cases hi : i < N
  · by_cases e : j = i
    · subst e; simp [hi, h]
    · have e' : ¬ i = j := fun h => e h.symm
      simp [e, e', hi, h]
  · simp [hi]

/-- The record of a search. -/
structure WR where
  to : Value
  count : Nat
  index : Nat → Nat
  low : Nat → Nat
  opn : Nat → Bool
  stack : Value
  least : Value
  group : Nat → Nat
def WR.cell (r : WR) (j : Nat) : Value :=
  if j = 0 then r.to else if j = 1 then .int .i64 (r.count : Int) else if j < 1002 then .int .i64 (r.index (j - 2) : Int) else if j < 2002 then .int .i64 (r.low (j - 1002) : Int)
  else if j < 3002 then .bool (r.opn (j - 2002)) else if j = 3002 then r.stack else if j = 3003 then r.least else .int .i64 (r.group (j - 3004) : Int)
/-- It lies in block `b`. -/
def Wk (ty : TypeId) (w : World) (b : Nat) (r : WR) : Prop := w.heap[b]? = some (.cells (cellsOf 4004 r.cell) ty (0, 0))
section
variable {ty : TypeId} {w : World} {b : Nat} {r : WR}
theorem Wk.lt (h : Wk ty w b r) : b < w.heap.size := lt_of_obj h
theorem Wk.get (h : Wk ty w b r) {j : Nat} (hj : j < 4004) : w.cell? ⟨b, j, none⟩ = some (r.cell j) := by
  unfold Wk at h
  rw [← cellsOf_get 4004 r.cell hj]
  generalize cellsOf 4004 r.cell = cs at *
  simp [World.cell?, h]
theorem Wk.free (h : Wk ty w b r) (i : Nat) : w.frozen? ⟨b, i, none⟩ = false := by
  unfold Wk at h
  generalize cellsOf 4004 r.cell = cs at *
  simp [World.frozen?, h]
theorem Wk.put (h : Wk ty w b r) {r' : WR} {j : Nat} {x : Value} (hx : ∀ i, i < 4004 → r'.cell i = if i = j then x else r.cell i) : Wk ty (w.setCell ⟨b, j, none⟩ x) b r' := by
  unfold Wk at h ⊢
  have := blk_setCell h j x
  rw [this, cellsOf_set 4004 r.cell r'.cell j x hx]
theorem Wk.keep {w' : World} (h : Wk ty w b r) (e : w'.heap[b]? = w.heap[b]?) : Wk ty w' b r := e.trans h
theorem Wk.to_ (h : Wk ty w b r) : w.cell? ⟨b, 0, none⟩ = some r.to := (h.get (by omega)).trans (by simp [WR.cell])
theorem Wk.count_ (h : Wk ty w b r) : w.cell? ⟨b, 1, none⟩ = some (.int .i64 (r.count : Int)) := (h.get (by omega)).trans (by simp [WR.cell])
theorem Wk.index_ (h : Wk ty w b r) {v : Nat} (hv : v < 1000) : w.cell? ⟨b, 2 + v, none⟩ = some (.int .i64 (r.index v : Int)) :=
  (h.get (by omega)).trans (by unfold WR.cell; rw [if_neg (by omega), if_neg (by omega), if_pos (by omega), Nat.add_sub_cancel_left])
theorem Wk.low_ (h : Wk ty w b r) {v : Nat} (hv : v < 1000) : w.cell? ⟨b, 1002 + v, none⟩ = some (.int .i64 (r.low v : Int)) :=
  (h.get (by omega)).trans (by unfold WR.cell; rw [if_neg (by omega), if_neg (by omega), if_neg (by omega), if_pos (by omega), Nat.add_sub_cancel_left])
theorem Wk.opn_ (h : Wk ty w b r) {v : Nat} (hv : v < 1000) : w.cell? ⟨b, 2002 + v, none⟩ = some (.bool (r.opn v)) :=
  (h.get (by omega)).trans (by unfold WR.cell; rw [if_neg (by omega), if_neg (by omega), if_neg (by omega), if_neg (by omega), if_pos (by omega), Nat.add_sub_cancel_left])
theorem Wk.stack_ (h : Wk ty w b r) : w.cell? ⟨b, 3002, none⟩ = some r.stack := (h.get (by omega)).trans (by simp [WR.cell])
theorem Wk.least_ (h : Wk ty w b r) : w.cell? ⟨b, 3003, none⟩ = some r.least := (h.get (by omega)).trans (by simp [WR.cell])
theorem Wk.group_ (h : Wk ty w b r) {v : Nat} (hv : v < 1000) : w.cell? ⟨b, 3004 + v, none⟩ = some (.int .i64 (r.group v : Int)) :=
  (h.get (by omega)).trans (by unfold WR.cell; rw [if_neg (by omega), if_neg (by omega), if_neg (by omega), if_neg (by omega), if_neg (by omega), if_neg (by omega), if_neg (by omega), Nat.add_sub_cancel_left])
/-- A function, told anew at one place. -/
def upd {α : Type} (f : Nat → α) (v : Nat) (x : α) : Nat → α := fun z => if z = v then x else f z
theorem Wk.setCount (h : Wk ty w b r) (c : Nat) : Wk ty (w.setCell ⟨b, 1, none⟩ (.int .i64 (c : Int))) b { r with count := c } := by
  refine h.put fun i _ => ?_
  unfold WR.cell
  by_cases e : i = 1
  · subst e; simp
  · simp [e]
theorem Wk.setStack (h : Wk ty w b r) (x : Value) : Wk ty (w.setCell ⟨b, 3002, none⟩ x) b { r with stack := x } := by
  refine h.put fun i _ => ?_
  unfold WR.cell
  by_cases e : i = 3002
  · subst e; simp
  · simp [e]
theorem Wk.setLeast (h : Wk ty w b r) (x : Value) : Wk ty (w.setCell ⟨b, 3003, none⟩ x) b { r with least := x } := by
  refine h.put fun i _ => ?_
  unfold WR.cell
  by_cases e : i = 3003
  · subst e; simp
  · simp [e]
theorem Wk.setIndex (h : Wk ty w b r) {v : Nat} (hv : v < 1000) (x : Nat) : Wk ty (w.setCell ⟨b, 2 + v, none⟩ (.int .i64 (x : Int))) b { r with index := upd r.index v x } := by
  refine h.put fun i _ => ?_
  unfold WR.cell upd
  dsimp only
  by_cases e : i = 2 + v
  · subst e; rw [if_neg (by omega), if_neg (by omega), if_pos (by omega)]; simp
  · rw [if_neg e]
    by_cases h0 : i = 0
    · simp [h0]
    by_cases h1 : i < 1002
    · have : ¬ (i - 2 = v ∧ i ≠ 1) := by omega
      by_cases h2 : i = 1
      · simp [h2]
      · rw [if_neg h0, if_neg h2, if_pos h1, if_neg (by omega : ¬ i - 2 = v), if_neg h0, if_neg h2, if_pos h1]
    · simp [h1]
theorem Wk.setLow (h : Wk ty w b r) {v : Nat} (hv : v < 1000) (x : Nat) : Wk ty (w.setCell ⟨b, 1002 + v, none⟩ (.int .i64 (x : Int))) b { r with low := upd r.low v x } := by
  refine h.put fun i _ => ?_
  unfold WR.cell upd
  dsimp only
  by_cases e : i = 1002 + v
  · subst e; rw [if_neg (by omega), if_neg (by omega), if_neg (by omega), if_pos (by omega)]; simp
  · rw [if_neg e]
    by_cases h0 : i < 1002
    · simp [h0]
    by_cases h1 : i < 2002
    · rw [if_neg (by omega : ¬ i - 1002 = v)]
    · simp [h1]
theorem Wk.setOpn (h : Wk ty w b r) {v : Nat} (hv : v < 1000) (x : Bool) : Wk ty (w.setCell ⟨b, 2002 + v, none⟩ (.bool x)) b { r with opn := upd r.opn v x } := by
  refine h.put fun i _ => ?_
  unfold WR.cell upd
  dsimp only
  by_cases e : i = 2002 + v
  · subst e; rw [if_neg (by omega), if_neg (by omega), if_neg (by omega), if_neg (by omega), if_pos (by omega)]; simp
  · rw [if_neg e]
    by_cases h0 : i < 2002
    · simp [h0]
    by_cases h1 : i < 3002
    · rw [if_neg (by omega : ¬ i - 2002 = v)]
    · simp [h1]
theorem Wk.setGroup (h : Wk ty w b r) {v : Nat} (hv : v < 1000) (x : Nat) : Wk ty (w.setCell ⟨b, 3004 + v, none⟩ (.int .i64 (x : Int))) b { r with group := upd r.group v x } := by
  refine h.put fun i _ => ?_
  unfold WR.cell upd
  dsimp only
  by_cases e : i = 3004 + v
  · subst e; rw [if_neg (by omega), if_neg (by omega), if_neg (by omega), if_neg (by omega), if_neg (by omega), if_neg (by omega), if_neg (by omega)]; simp
  · rw [if_neg e]
    by_cases h0 : i < 3004
    · have : i < 3002 ∨ i = 3002 ∨ i = 3003 := by omega
      rcases this with h1 | h1 | h1 <;> simp [h1]
    · rw [if_neg (by omega : ¬ i - 3004 = v)]
end

end Go.Proofs.Ytnbnhchgkbbiiaa
