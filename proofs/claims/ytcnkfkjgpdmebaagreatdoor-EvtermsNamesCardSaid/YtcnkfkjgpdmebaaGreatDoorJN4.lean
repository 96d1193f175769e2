/- What is the call's own stays so in a world that has grown; append in a region; a new block. No program in sight. -/
import Derived.Test.YtcnkfkjgpdmebaaGreatDoorJN3
import Derived.WalkSpells
import Derived.WalkLawsBesides
import Derived.Deep.RegionLaw
import Derived.Test.YtcnkfkjgpdmebaaGreatDoorProg
import Derived.Deep.QuietTactic
import Derived.BigQuiet
/- What is the call's own stays so in a world that has grown; append in a region; a new block. No program in sight. -/
namespace Go.Proofs.YtcnkfkjgpdmebaaGreatDoor
open Go.RowKit

theorem own_extB {w w' : World} {base : Nat} {e : TypeId} {size : Nat} {v : Value} {n : Nat} {xs : List Value} (h : w.ownsRow base e size v n xs) (k : Ext w w') : w'.ownsRow base e size v n xs := by
  have hb := k.below
  cases hv : v.ownBlock with
  | none => exact h.kept (row := none) ⟨hb.os, hb.tape, hb.output, k.size, fun j hj _ => k.heap hj⟩ (.inl hv)
  | some g => exact h.kept (row := none) ⟨hb.os, hb.tape, hb.output, k.size, fun j hj _ => k.heap hj⟩ (.inr (by rw [hv]; simp))
theorem at_newB (w : World) (o : Obj) (n : Nat) (h : n = w.heap.size) : (w.alloc o).heap[n]? = some o := by subst h; exact heap_alloc_new w o
section
variable {P : Program} (w : World)
theorem step_append_rowB {ops : Array Oper} {o : Oper} {a : Act} {K : Act → World → Prop} {Q : Exit → Act → World → Prop} {E : Prop} (hgd : o.guard = none) (s x : Operand) (t : TypeId)
    (ho : o.op = .call { callee := .builtin .append, args := #[s, x], argTypes := #[t, t] })
    (base : Nat) (e : TypeId) (i : TypeInfo) (z : Value) (size bytes : Nat) (ht : P.underlying t = some (.slice e)) (hi : P.info? e = some i) (hz : i.zero = some z)
    (hsize : i.size = size) (hby : i.bytes = bytes) (hzs : z.cells.size = size) (hsz : 0 < size)
    (v : Value) (n : Nat) (xs : List Value) (hs : a.eval s = v) (hown : w.ownsRow base e size v n xs)
    (A : Option Addr) (m c : Nat) (news : List Value) (hx : a.eval x = .slice A m c) (hr : Row w A size m news) (h1 : ∀ u ∈ news, u.oneCell' = true)
    (h63 : n + m ≤ maxLen) (hbytes : (n + m) * bytes ≤ 140737488355328) (hbase : base ≤ w.heap.size)
    (h : ∀ v' w', w'.ownsRow base e size v' (n + m) (xs ++ news) → w.grownBy w' v.ownBlock → (v'.ownBlock = v.ownBlock ∨ v'.ownBlock = some w.heap.size) → K (a.put o.dst v') w') :
    if Region.wanted o (yielded ops a.tmps) = true then Oper.wp P o a w K Q else E := by
  have hw : Region.wanted o (yielded ops a.tmps) = true := by simp [Region.wanted, hgd]
  rw [if_pos hw]
  exact wp_append_row w s x t ho base e i z size bytes ht hi hz hsize hby hzs hsz v n xs hs hown A m c news hx hr h1 h63 hbytes hbase h
end

end Go.Proofs.YtcnkfkjgpdmebaaGreatDoor

/- Types in boxes; contracts: whether types are not too great. -/
namespace Go.Proofs.YtcnkfkjgpdmebaaGreatDoor
open Go.RowKit

/-- What a cell held it holds. -/
theorem Ext.cell {w w' : World} (e : Ext w w') {a : Addr} {v : Value} (h : w.cell? a = some v) : w'.cell? a = some v := by
  have hb : a.block < w.heap.size := by
    apply Classical.byContradiction
    intro hn
    have : w.heap[a.block]? = none := Array.getElem?_eq_none (by omega)
    simp [World.cell?, this] at h
  exact (World.cell?_of_block (e.heap hb)).trans h

/-- A type in a box. -/
def TBox (w : World) (b : Nat) (t : Ty) : Prop := w.heap[b]? = some (.cells #[encStr t.con, .int .i64 t.var, .slice t.A t.args.length t.cap] 53 (0, 0))
section
variable {w w' : World} {b : Nat} {t : Ty}
theorem TBox.new (w : World) (t : Ty) : TBox (w.alloc (.cells #[encStr t.con, .int .i64 t.var, .slice t.A t.args.length t.cap] 53)) w.heap.size t := at_newB _ _ _ rfl
theorem TBox.lt (h : TBox w b t) : b < w.heap.size := lt_of_obj h
theorem TBox.ext (h : TBox w b t) (e : Ext w w') : TBox w' b t := (e.heap h.lt).trans h
theorem TBox.c0 (h : TBox w b t) : w.cell? ⟨b, 0, none⟩ = some (encStr t.con) := by unfold TBox at h; simp [World.cell?, h]
theorem TBox.c1 (h : TBox w b t) : w.cell? ⟨b, 1, none⟩ = some (.int .i64 t.var) := by unfold TBox at h; simp [World.cell?, h]
theorem TBox.c2 (h : TBox w b t) : w.cell? ⟨b, 2, none⟩ = some (.slice t.A t.args.length t.cap) := by unfold TBox at h; simp [World.cell?, h]
theorem TBox.free (h : TBox w b t) (i : Nat) : w.frozen? ⟨b, i, none⟩ = false := by unfold TBox at h; simp [World.frozen?, h]
end

end Go.Proofs.YtcnkfkjgpdmebaaGreatDoor
