/- What 'CursorPlays' carries from deed to deed: the program's cursor, the reference's in a box, the deed in a box. -/
import Derived.Test.YtnegamkakdbhfaaCurL
import Derived.Test.YtnegamkakdbhfaaDeed
import Derived.WalkSpells
import Derived.WalkLawsBesides
namespace Go.Proofs.Ytnegamkakdbhfaa
open Go.RowKit

theorem Cur.far2 {w w' : World} {c cap k : Nat} {A : Option Addr} {ts : List Tok} {m : M} (h : Cur w c A cap ts k m) {c' : Nat} {cs : Array Value} (u : Upd w c' cs w') (hc : c ≠ c')
    (hA : 0 < ts.length → ∀ o, A ≠ some ⟨c', o, none⟩) : Cur w' c A cap ts k m := by
  refine ⟨(u.heap h.lt hc).trans h.blk, h.ne, ?_, h.le, h.max, h.cd⟩
  rcases Nat.eq_zero_or_pos ts.length with h0 | h0
  · have : ts = [] := List.eq_nil_of_length_eq_zero h0
    subst this
    exact Toks.nil _
  · exact Row.keep h.row u.size fun b o e hb => u.heap hb (fun hbc => hA h0 o (by rw [e, hbc]))

/-- The cells of the reference's cursor. -/
def refCells (A : Option Addr) (cap : Nat) (m : M) : Array Value :=
  #[.slice A m.rest.length cap, .int .i64 0, .int .i64 m.ep, .int .i64 0, .string ⟨#[]⟩, .int .i64 m.nest, .int .i64 m.err, .int .i64 m.pos]
def deedCells (d : Deed) : Array Value := #[.int .i64 d.kind, .int .i64 d.n, .string d.text]

/-- The program's cursor `c` at `m`, the reference's at `m'` in box `X`. -/
structure PL (w0 w : World) (c : Nat) (A : Option Addr) (cap : Nat) (ts : List Tok) (m : M) (X : Nat) (A' : Option Addr) (cap' : Nat) (m' : M) : Prop where
  ext : Ext w0 w
  cur : ∃ k, Cur w c A cap ts k m
  xb : w.heap[X]? = some (.cells (refCells A' cap' m') 31 (0, 0))
  xr : RefC w0 A' cap' m'
  lt : c < X
  neA : 0 < ts.length → ∀ o, A ≠ some ⟨X, o, none⟩
  hts : ts.length ≤ 100
  hr : m'.rest.length ≤ 100
  le : w0.heap.size ≤ c

section
variable {w0 w w' : World} {c cap X cap' : Nat} {A A' : Option Addr} {ts : List Tok} {m m' : M}
theorem PL.extend (h : PL w0 w c A cap ts m X A' cap' m') (e : Ext w w') : PL w0 w' c A cap ts m X A' cap' m' :=
  ⟨h.ext.trans e, h.cur.imp fun _ hc => hc.ext e, (e.heap (lt_of_blk h.xb)).trans h.xb, h.xr, h.lt, h.neA, h.hts, h.hr, h.le⟩
theorem PL.upd (h : PL w0 w c A cap ts m X A' cap' m') {m2 : M} {k2 : Nat} (hd : CD ts k2 m2) (u : Upd w c (curCells A cap ts.length k2 m2) w') : PL w0 w' c A cap ts m2 X A' cap' m' := by
  obtain ⟨k, hk⟩ := h.cur
  exact ⟨h.ext.upd u h.le, ⟨k2, hk.upd hd u⟩, (u.heap (lt_of_blk h.xb) (by have := h.lt; omega)).trans h.xb, h.xr, h.lt, h.neA, h.hts, h.hr, h.le⟩
theorem PL.setX (h : PL w0 w c A cap ts m X A' cap' m') {A2 : Option Addr} {cap2 : Nat} {m2 : M} (r : RefC w0 A2 cap2 m2) (hr : m2.rest.length ≤ 100) :
    PL w0 (setBlk w X (refCells A2 cap2 m2)) c A cap ts m X A2 cap2 m2 := by
  obtain ⟨k, hk⟩ := h.cur
  have hX := h.lt
  have u : Upd w X (refCells A2 cap2 m2) (setBlk w X (refCells A2 cap2 m2)) := ⟨[], w.drawn, by
    show setBlk w X (refCells A2 cap2 m2) = { setBlk w X (refCells A2 cap2 m2) with heap := (setBlk w X (refCells A2 cap2 m2)).heap ++ [].toArray, drawn := w.drawn }
    simp [setBlk]⟩
  exact ⟨h.ext.upd u (by have := h.le; omega), ⟨k, hk.far2 u (by omega) h.neA⟩, u.block h.xb, r, h.lt, h.neA, h.hts, hr, h.le⟩
theorem PL.xlt (h : PL w0 w c A cap ts m X A' cap' m') : X < w.heap.size := lt_of_blk h.xb
theorem PL.xcell (h : PL w0 w c A cap ts m X A' cap' m') (i : Nat) : w.cell? ⟨X, i, none⟩ = (refCells A' cap' m')[i]? := by simp [World.cell?, h.xb]
theorem PL.xfree (h : PL w0 w c A cap ts m X A' cap' m') (i : Nat) : w.frozen? ⟨X, i, none⟩ = false := by simp [World.frozen?, h.xb]
theorem PL.xset (h : PL w0 w c A cap ts m X A' cap' m') (i : Nat) (v : Value) : w.setCell ⟨X, i, none⟩ v = setBlk w X ((refCells A' cap' m').setIfInBounds i v) := by
  rw [← setBlk_setCell, setBlk_same h.xb]
theorem PL.xcell2 (h : PL w0 w c A cap ts m X A' cap' m') (cs : Array Value) (i : Nat) : (setBlk w X cs).cell? ⟨X, i, none⟩ = cs[i]? := by
  simp [World.cell?, setBlk, Array.getElem?_modify, h.xb, reCells]
theorem PL.xfree2 (h : PL w0 w c A cap ts m X A' cap' m') (cs : Array Value) (i : Nat) : (setBlk w X cs).frozen? ⟨X, i, none⟩ = false := by
  simp [World.frozen?, setBlk, Array.getElem?_modify, h.xb, reCells]
end

theorem rest_next (m : M) : m.next.rest.length ≤ m.rest.length := by unfold M.next; split <;> simp
theorem rest_fail (m : M) (x : Int) : (m.fail x).rest.length ≤ m.rest.length := by unfold M.fail; split <;> simp
theorem rest_take (m : M) (s : ByteArray) : (m.take s).rest.length ≤ m.rest.length := by unfold M.take; split; exact rest_next m; exact Nat.le_refl _
theorem rest_want (m : M) (s : ByteArray) : (m.want s).rest.length ≤ m.rest.length := by unfold M.want; split; exact rest_next m; exact rest_fail m 5
theorem rest_kind (m : M) (x : Int) : (m.kind x).rest.length ≤ m.rest.length := by unfold M.kind; split; exact rest_next m; exact rest_fail m 5
theorem rest_enter (m : M) : m.enter.rest.length ≤ m.rest.length := by unfold M.enter; split; exact Nat.le_refl _; exact rest_fail m 2
theorem rest_leave (m : M) : m.leave.rest.length ≤ m.rest.length := by unfold M.leave; split <;> simp

end Go.Proofs.Ytnegamkakdbhfaa
