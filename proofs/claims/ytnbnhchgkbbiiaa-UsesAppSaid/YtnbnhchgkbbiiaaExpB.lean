/- What is a type, a pattern, an expression: the plain law. No walk here. -/
import Derived.Test.YtnbnhchgkbbiiaaNod
namespace Go.Proofs.Ytnbnhchgkbbiiaa
open Go.RowKit

def Tree.kid (t : Tree) (i : Nat) : Tree := t.kids.getD i Tree.zero
theorem kid_get {t : Tree} {i : Nat} (h : i < t.kids.length) : t.kid i = t.kids[i]'h := by unfold Tree.kid; simp [h]

noncomputable def typeB : Tree → Bool := Tree.fold fun t l =>
  if t.kind = 1 then namedB varB t && decide (t.kids.length = 0)
  else if t.kind = 2 ∧ t.n = 0 then (if t.text = [45, 62] then decide (t.kids.length = 2) && l.all id else conB t.text && l.all id)
  else false
theorem all_map {f : Tree → Bool} (l : List Tree) : (l.map f).all id = l.all f := by rw [List.all_map]; rfl
theorem typeB_eq (t : Tree) : typeB t = if t.kind = 1 then namedB varB t && decide (t.kids.length = 0)
  else if t.kind = 2 ∧ t.n = 0 then (if t.text = [45, 62] then decide (t.kids.length = 2) && t.kids.all typeB else conB t.text && t.kids.all typeB)
  else false := by
  unfold typeB
  rw [Tree.fold_eq, all_map]
noncomputable def patB : Tree → Bool := Tree.fold fun t l =>
  if t.kind = 11 then namedB varB t && decide (t.kids.length = 0)
  else if t.kind = 12 then bareB t && decide (t.kids.length = 0)
  else if t.kind = 13 then (t.text == []) && decide (0 ≤ t.n) && decide (t.kids.length = 0)
  else if t.kind = 14 then namedB conB t && l.all id
  else false
theorem patB_eq (t : Tree) : patB t = if t.kind = 11 then namedB varB t && decide (t.kids.length = 0)
  else if t.kind = 12 then bareB t && decide (t.kids.length = 0)
  else if t.kind = 13 then (t.text == []) && decide (0 ≤ t.n) && decide (t.kids.length = 0)
  else if t.kind = 14 then namedB conB t && t.kids.all patB
  else false := by
  unfold patB
  rw [Tree.fold_eq, all_map]
noncomputable def predB (t : Tree) : Bool := decide (t.kind = 3) && namedB conB t && decide (t.kids.length = 1) && typeB (t.kid 0)
noncomputable def qualB (t : Tree) : Bool := decide (t.kind = 4) && bareB t && decide (1 ≤ t.kids.length) && (t.kids.take (t.kids.length - 1)).all predB && typeB (t.kid (t.kids.length - 1))
noncomputable def sigB (t : Tree) : Bool := decide (t.kind = 32) && namedB varB t && decide (t.kids.length = 1) && qualB (t.kid 0)

/-- An expression; a binding; an alternative. -/
noncomputable def expF (t : Tree) (l : List (Bool × Bool × Bool)) : Bool × Bool × Bool :=
  (if t.kind = 21 then namedB varB t && decide (t.kids.length = 0)
   else if t.kind = 22 then namedB conB t && decide (t.kids.length = 0)
   else if t.kind = 23 then (t.text == []) && decide (0 ≤ t.n) && decide (t.kids.length = 0)
   else if t.kind = 24 then bareB t && decide (t.kids.length = 2) && (l.map (·.1)).all id
   else if t.kind = 25 then namedB varB t && decide (t.kids.length = 1) && (l.getD 0 (false, false, false)).1
   else if t.kind = 26 then bareB t && decide (2 ≤ t.kids.length) && ((t.kids.zip l).take (t.kids.length - 1)).all (fun x => x.2.2.1 || sigB x.1) && (l.getD (t.kids.length - 1) (false, false, false)).1
   else if t.kind = 27 then bareB t && decide (2 ≤ t.kids.length) && (l.getD 0 (false, false, false)).1 && ((l.drop 1).map (·.2.2)).all id
   else if t.kind = 28 then bareB t && decide (t.kids.length = 3) && (l.map (·.1)).all id
   else false,
   decide (t.kind = 31) && namedB varB t && decide (t.kids.length = 1) && (l.getD 0 (false, false, false)).1,
   decide (t.kind = 15) && bareB t && decide (t.kids.length = 2) && patB (t.kid 0) && (l.getD 1 (false, false, false)).1)
noncomputable def expT : Tree → Bool × Bool × Bool := Tree.fold expF
noncomputable def expB (t : Tree) : Bool := (expT t).1
noncomputable def bindB (t : Tree) : Bool := (expT t).2.1
noncomputable def altB (t : Tree) : Bool := (expT t).2.2
noncomputable def withinB (t : Tree) : Bool := bindB t || sigB t

theorem getD_map1 {t : Tree} {i : Nat} (h : i < t.kids.length) : ((t.kids.map expT).getD i (false, false, false)).1 = expB (t.kid i) := by
  rw [kid_get h]
  simp [h, expB]
theorem map1 (l : List Tree) : ((l.map expT).map (·.1)).all id = l.all expB := by
  rw [List.map_map, List.all_map]; rfl
theorem map3 (l : List Tree) : (((l.map expT).drop 1).map (·.2.2)).all id = (l.drop 1).all altB := by
  rw [← List.map_drop, List.map_map, List.all_map]; rfl
theorem zipE (l : List Tree) (n : Nat) : ((l.zip (l.map expT)).take n).all (fun x => x.2.2.1 || sigB x.1) = (l.take n).all withinB := by
  have : l.zip (l.map expT) = l.map (fun k => (k, expT k)) := by
    induction l with
    | nil => rfl
    | cons x l ih => simp only [List.map_cons, List.zip_cons_cons, ih]
  rw [this, ← List.map_take, List.all_map]
  rfl
section
variable (t : Tree)
theorem exp_eq : expB t = (expF t (t.kids.map expT)).1 := by unfold expB expT; rw [Tree.fold_eq]
theorem exp_var (h : t.kind = 21) : expB t = (namedB varB t && decide (t.kids.length = 0)) := by rw [exp_eq]; simp [expF, h]
theorem exp_con (h : t.kind = 22) : expB t = (namedB conB t && decide (t.kids.length = 0)) := by rw [exp_eq]; simp [expF, h]
theorem exp_int (h : t.kind = 23) : expB t = ((t.text == []) && decide (0 ≤ t.n) && decide (t.kids.length = 0)) := by rw [exp_eq]; simp [expF, h]
theorem exp_app (h : t.kind = 24) : expB t = (bareB t && decide (t.kids.length = 2) && t.kids.all expB) := by rw [exp_eq, ← map1]; simp only [expF, h]; rfl
theorem exp_lam (h : t.kind = 25) : expB t = (namedB varB t && decide (t.kids.length = 1) && expB (t.kid 0)) := by
  rw [exp_eq]
  by_cases hl : t.kids.length = 1
  · rw [← getD_map1 (by omega)]; simp only [expF, h]; rfl
  · simp [expF, h, hl]
theorem exp_let (h : t.kind = 26) : expB t = (bareB t && decide (2 ≤ t.kids.length) && (t.kids.take (t.kids.length - 1)).all withinB && expB (t.kid (t.kids.length - 1))) := by
  rw [exp_eq, ← zipE]
  by_cases hl : 2 ≤ t.kids.length
  · rw [← getD_map1 (by omega)]; simp only [expF, h]; rfl
  · simp [expF, h, hl]
theorem exp_case (h : t.kind = 27) : expB t = (bareB t && decide (2 ≤ t.kids.length) && expB (t.kid 0) && (t.kids.drop 1).all altB) := by
  rw [exp_eq, ← map3]
  by_cases hl : 2 ≤ t.kids.length
  · rw [← getD_map1 (by omega)]; simp only [expF, h]; rfl
  · simp [expF, h, hl]
theorem exp_if (h : t.kind = 28) : expB t = (bareB t && decide (t.kids.length = 3) && t.kids.all expB) := by rw [exp_eq, ← map1]; simp only [expF, h]; rfl
theorem exp_else (h1 : t.kind ≠ 21) (h2 : t.kind ≠ 22) (h3 : t.kind ≠ 23) (h4 : t.kind ≠ 24) (h5 : t.kind ≠ 25) (h6 : t.kind ≠ 26) (h7 : t.kind ≠ 27) (h8 : t.kind ≠ 28) : expB t = false := by
  rw [exp_eq]; simp [expF, h1, h2, h3, h4, h5, h6, h7, h8]
theorem bind_eq : bindB t = (decide (t.kind = 31) && namedB varB t && decide (t.kids.length = 1) && expB (t.kid 0)) := by
  have e : bindB t = (expF t (t.kids.map expT)).2.1 := by unfold bindB expT; rw [Tree.fold_eq]
  rw [e]
  by_cases hl : t.kids.length = 1
  · rw [← getD_map1 (by omega)]; rfl
  · simp [expF, hl]
theorem alt_eq : altB t = (decide (t.kind = 15) && bareB t && decide (t.kids.length = 2) && patB (t.kid 0) && expB (t.kid 1)) := by
  have e : altB t = (expF t (t.kids.map expT)).2.2 := by unfold altB expT; rw [Tree.fold_eq]
  rw [e]
  by_cases hl : t.kids.length = 2
  · rw [← getD_map1 (by omega)]; rfl
  · simp [expF, hl]
end

section
variable {w w' : World} {b o : Nat} {l : List Tree}
/-- The cells of a node in a row. -/
theorem NodesIn.cells (h : NodesIn w (some ⟨b, o, none⟩) l) {i : Nat} (hi : i < l.length) :
    w.cell? ⟨b, o + i * 5, none⟩ = some (.int .i64 (l[i]'hi).kind) ∧ w.cell? ⟨b, o + i * 5 + 1, none⟩ = some (.int .i64 (l[i]'hi).pos) ∧
      w.cell? ⟨b, o + i * 5 + 2, none⟩ = some (.int .i64 (l[i]'hi).n) ∧ w.cell? ⟨b, o + i * 5 + 3, none⟩ = some (.string ⟨(l[i]'hi).text.toArray⟩) ∧
      w.cell? ⟨b, o + i * 5 + 4, none⟩ = some (.slice (l[i]'hi).A (l[i]'hi).kids.length (l[i]'hi).cap) := by
  obtain ⟨b', o', e, _, h1⟩ := h.at_ hi
  cases e
  exact h1
theorem NodesIn.lt (h : NodesIn w (some ⟨b, o, none⟩) l) (hi : 0 < l.length) : b < w.heap.size := by
  obtain ⟨b', o', e, hb, _⟩ := h.at_ hi
  cases e
  exact hb
theorem NodesIn.some_ {A : Option Addr} (h : NodesIn w A l) (hi : 0 < l.length) : ∃ b o, A = some ⟨b, o, none⟩ ∧ b < w.heap.size := by
  obtain ⟨b', o', e, hb, _⟩ := h.at_ hi
  exact ⟨b', o', e, hb⟩
theorem NodesIn.take {A : Option Addr} (h : NodesIn w A l) {k : Nat} (hk : k ≤ l.length) : NodesIn w A (l.take k) := ⟨RowOf.take treeC h.row hk, fun x hx => h.kids x (List.mem_of_mem_take hx)⟩
theorem NodesIn.cut {A : Option Addr} (h : NodesIn w A l) {k cap : Nat} (hk : k ≤ l.length) (hc : l.length ≤ cap) : NodesIn w (if cap = k then A else A.map (·.add (k * 5))) (l.drop k) :=
  ⟨RowOf.cut treeC h.row hk hc, fun x hx => h.kids x (List.mem_of_mem_drop hx)⟩
end

end Go.Proofs.Ytnbnhchgkbbiiaa
