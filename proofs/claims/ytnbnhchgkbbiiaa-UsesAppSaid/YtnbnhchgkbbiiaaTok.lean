/- Words and the plain model of a cursor; rows of memory that hold words. No program in sight. -/
import Derived.Test.YtnbnhchgkbbiiaaLib
namespace Go.Proofs.Ytnbnhchgkbbiiaa
open Go.RowKit

structure Tok where
  kind : Int
  pos : Int
  n : Int
  text : ByteArray

def noText : ByteArray := ⟨#[]⟩
def Tok.zero : Tok := ⟨0, 0, 0, ⟨#[]⟩⟩
def Tok.cells (t : Tok) : List Value := [.int .i64 t.kind, .int .i64 t.pos, .int .i64 t.n, .string t.text]
@[go_sem] def tokV (t : Tok) : Value := .agg #[.int .i64 t.kind, .int .i64 t.pos, .int .i64 t.n, .string t.text]
def tokAt (ts : List Tok) (i : Nat) : Tok := ts.getD i Tok.zero

/-- A row of `n` elements of `size` cells each, `xs`, at `A`. -/
def Row (w : World) (A : Option Addr) (size n : Nat) (xs : List Value) : Prop :=
  xs.length = n * size ∧ (0 < n → ∃ b o, A = some ⟨b, o, none⟩ ∧ b < w.heap.size ∧ ∀ j u, xs[j]? = some u → w.cell? ⟨b, o + j, none⟩ = some u)

section
variable {w w' : World} {size n : Nat} {A : Option Addr} {xs : List Value}
theorem Row.nil (A : Option Addr) (size : Nat) : Row w A size 0 [] := ⟨by simp, fun h => absurd h (by omega)⟩
theorem Row.keep (h : Row w A size n xs) (hs : w.heap.size ≤ w'.heap.size) (hk : ∀ b o, A = some ⟨b, o, none⟩ → b < w.heap.size → w'.heap[b]? = w.heap[b]?) : Row w' A size n xs :=
  ⟨h.1, fun hn => by
    obtain ⟨b, o, e, hb, hc⟩ := h.2 hn
    exact ⟨b, o, e, by omega, fun j u hu => (World.cell?_of_block (a := ⟨b, o + j, none⟩) (hk b o e hb)).trans (hc j u hu)⟩⟩
theorem Row.ext (h : Row w A size n xs) (k : Ext w w') : Row w' A size n xs := h.keep k.size fun _ _ _ hb => k.heap hb
theorem Row.set (h : Row w A size n xs) {c : Nat} (cs : Array Value) (hc : ∀ o, A ≠ some ⟨c, o, none⟩) : Row (setBlk w c cs) A size n xs :=
  h.keep (by simp) fun b o e _ => heap_setBlk _ _ _ _ (fun h => hc o (by rw [e, h]))
theorem Row.cut (h : Row w A size n xs) {k cap : Nat} (hk : k ≤ n) (hc : n ≤ cap) :
    Row w (if cap = k then A else A.map (·.add (k * size))) size (n - k) (xs.drop (k * size)) := by
  refine ⟨by rw [List.length_drop, h.1, Nat.sub_mul], fun hn => ?_⟩
  obtain ⟨b, o, rfl, hb, hcell⟩ := h.2 (by omega)
  rw [if_neg (by omega)]
  refine ⟨b, o + k * size, ?_, hb, fun j u hu => ?_⟩
  · unfold Addr.add
    simp only [Option.map_some]
    split
    · rename_i h0; rw [h0]; rfl
    · rfl
  · rw [Nat.add_assoc]
    exact hcell _ u (by rw [← hu, List.getElem?_drop])
end

/-- All cells of things, one behind the other. -/
theorem flat_get {α : Type} (f : α → List Value) (k : Nat) (hf : ∀ x, (f x).length = k) : ∀ (l : List α) (i j : Nat), j < k →
    (l.flatMap f)[i * k + j]? = (l[i]?).bind fun x => (f x)[j]?
  | [], i, j, _ => by simp
  | x :: l, 0, j, hj => by
    simp only [List.flatMap_cons, Nat.zero_mul, Nat.zero_add, List.getElem?_cons_zero, Option.bind_some]
    rw [List.getElem?_append_left (by rw [hf]; exact hj)]
  | x :: l, i + 1, j, hj => by
    simp only [List.flatMap_cons, List.getElem?_cons_succ]
    rw [List.getElem?_append_right (by rw [hf, Nat.succ_mul]; omega), hf, show (i + 1) * k + j - k = i * k + j by rw [Nat.succ_mul]; omega]
    exact flat_get f k hf l i j hj
theorem flat_len {α : Type} (f : α → List Value) (k : Nat) (hf : ∀ x, (f x).length = k) (l : List α) : (l.flatMap f).length = l.length * k := by
  induction l with
  | nil => simp
  | cons x l ih => simp only [List.flatMap_cons, List.length_append, List.length_cons, ih, hf, Nat.succ_mul]; omega
theorem flat_drop {α : Type} (f : α → List Value) (k : Nat) (hf : ∀ x, (f x).length = k) : ∀ (l : List α) (i : Nat), (l.flatMap f).drop (i * k) = (l.drop i).flatMap f
  | l, 0 => by simp
  | [], i + 1 => by simp
  | x :: l, i + 1 => by
    simp only [List.flatMap_cons, List.drop_succ_cons]
    rw [show (i + 1) * k = k + i * k by rw [Nat.succ_mul]; omega, ← List.drop_drop, List.drop_left' (hf x)]
    exact flat_drop f k hf l i

def toks (ts : List Tok) : List Value := ts.flatMap Tok.cells
theorem toks_len (ts : List Tok) : (toks ts).length = ts.length * 4 := flat_len _ 4 (fun _ => rfl) ts

/-- Words that stand in memory. -/
def Toks (w : World) (A : Option Addr) (ts : List Tok) : Prop := Row w A 4 ts.length (toks ts)

theorem Toks.at_ {w : World} {A : Option Addr} {ts : List Tok} (h : Toks w A ts) {i : Nat} (hi : i < ts.length) :
    ∃ b o, A = some ⟨b, o, none⟩ ∧ b < w.heap.size ∧ w.cell? ⟨b, o + i * 4, none⟩ = some (.int .i64 (tokAt ts i).kind) ∧ w.cell? ⟨b, o + i * 4 + 1, none⟩ = some (.int .i64 (tokAt ts i).pos) ∧
      w.cell? ⟨b, o + i * 4 + 2, none⟩ = some (.int .i64 (tokAt ts i).n) ∧ w.cell? ⟨b, o + i * 4 + 3, none⟩ = some (.string (tokAt ts i).text) := by
  obtain ⟨b, o, e, hb, hc⟩ := h.2 (by omega)
  have e0 : ts[i]? = some (tokAt ts i) := by simp [tokAt, hi]
  have g (j : Nat) (hj : j < 4) : (toks ts)[i * 4 + j]? = (tokAt ts i).cells[j]? := by
    unfold toks
    rw [flat_get _ 4 (fun _ => rfl) ts i j hj, e0]; rfl
  refine ⟨b, o, e, hb, ?_, ?_, ?_, ?_⟩
  · have := hc (i * 4 + 0) _ (g 0 (by omega)); simpa using this
  · have := hc (i * 4 + 1) _ (g 1 (by omega)); simpa [Nat.add_assoc] using this
  · have := hc (i * 4 + 2) _ (g 2 (by omega)); simpa [Nat.add_assoc] using this
  · have := hc (i * 4 + 3) _ (g 3 (by omega)); simpa [Nat.add_assoc] using this
theorem Toks.head {w : World} {A : Option Addr} {ts : List Tok} (h : Toks w A ts) (hi : 0 < ts.length) :
    ∃ b o, A = some ⟨b, o, none⟩ ∧ b < w.heap.size ∧ w.cell? ⟨b, o, none⟩ = some (.int .i64 (tokAt ts 0).kind) ∧ w.cell? ⟨b, o + 1, none⟩ = some (.int .i64 (tokAt ts 0).pos) ∧
      w.cell? ⟨b, o + 2, none⟩ = some (.int .i64 (tokAt ts 0).n) ∧ w.cell? ⟨b, o + 3, none⟩ = some (.string (tokAt ts 0).text) := by
  have := h.at_ hi
  simpa using this
theorem Toks.ext {w w' : World} {A : Option Addr} {ts : List Tok} (h : Toks w A ts) (k : Ext w w') : Toks w' A ts := Row.ext h k
theorem Toks.nil {w : World} (A : Option Addr) : Toks w A [] := Row.nil A 4
theorem Toks.cut {w : World} {A : Option Addr} {ts : List Tok} (h : Toks w A ts) {k cap : Nat} (hk : k ≤ ts.length) (hc : ts.length ≤ cap) :
    Toks w (if cap = k then A else A.map (·.add (k * 4))) (ts.drop k) := by
  have := Row.cut h hk hc
  unfold Toks
  rw [List.length_drop]
  unfold toks at this ⊢
  rw [flat_drop _ 4 (fun _ => rfl)] at this
  exact this

/-! ### The plain model -/
structure M where
  rest : List Tok
  ep : Int
  nest : Nat
  err : Int
  pos : Int

namespace M
def peek (m : M) : Tok := if m.err = 0 then (match m.rest with | [] => ⟨0, m.ep, 0, ⟨#[]⟩⟩ | t :: _ => t) else Tok.zero
def next (m : M) : M := if m.err = 0 then { m with rest := m.rest.tail } else m
end M
def wordB (t : Tok) (s : ByteArray) : Bool := (t.kind == 4 || t.kind == 5) && t.text.toList == s.toList
namespace M
def is (m : M) (s : ByteArray) : Bool := m.err == 0 && wordB m.peek s
def take (m : M) (s : ByteArray) : M := if m.is s then m.next else m
def fail (m : M) (e : Int) : M := if m.err = 0 then { m with err := if e = 0 then 1 else e, pos := m.peek.pos } else m
def want (m : M) (s : ByteArray) : M := if m.is s then m.next else m.fail 5
def kindB (m : M) (k : Int) : Bool := m.err == 0 && m.peek.kind == k
def kind (m : M) (k : Int) : M := if m.kindB k then m.next else m.fail 5
def kindT (m : M) (k : Int) : Tok := if m.kindB k then m.peek else Tok.zero
def enterB (m : M) : Bool := m.err == 0 && decide (m.nest < 200)
def enter (m : M) : M := if m.enterB then { m with nest := m.nest + 1 } else m.fail 2
def leave (m : M) : M := if m.err = 0 then { m with nest := m.nest - 1 } else m
def doneP (m : M) : Int := if m.err = 0 then (match m.rest with | [] => m.ep | t :: _ => t.pos) else m.pos
def doneE (m : M) : Int := if m.err = 0 then (match m.rest with | [] => 0 | _ :: _ => 5) else m.err
end M
/-- (, {: 1; ), }: 2; ;: 3; another text that is `s`: 4; 0. -/
def aheadL (s : ByteArray) : List Tok → Nat → Bool
  | [], _ => false
  | t :: l, d =>
    if wordB t ⟨#[40]⟩ || wordB t ⟨#[123]⟩ then aheadL s l (d + 1)
    else if wordB t ⟨#[41]⟩ || wordB t ⟨#[125]⟩ then (if d = 0 then false else aheadL s l (d - 1))
    else if d ≠ 0 then aheadL s l d
    else if wordB t ⟨#[59]⟩ then false
    else if wordB t s then true
    else aheadL s l d
def M.ahead (m : M) (s : ByteArray) : Bool := m.err == 0 && aheadL s m.rest 0

/-- The value of the reference's cursor. -/
@[go_sem] def refV (A : Option Addr) (cap : Nat) (m : M) : Value :=
  .agg #[.slice A m.rest.length cap, .int .i64 0, .int .i64 m.ep, .int .i64 0, .string ⟨#[]⟩, .int .i64 m.nest, .int .i64 m.err, .int .i64 m.pos]
structure RefC (w : World) (A : Option Addr) (cap : Nat) (m : M) : Prop where
  le : m.rest.length ≤ cap
  max : cap ≤ 9223372036854775807
  nest : m.nest ≤ 200
  row : Toks w A m.rest
theorem RefC.ext {w w' : World} {A : Option Addr} {cap : Nat} {m : M} (h : RefC w A cap m) (k : Ext w w') : RefC w' A cap m := ⟨h.le, h.max, h.nest, h.row.ext k⟩

end Go.Proofs.Ytnbnhchgkbbiiaa
