/- What a proof is of; a proof with others in the place of what is given: the plain law. -/
import Derived.Test.YtcnkfkjgpdmebaaGreatDoorJN12
import Derived.Test.YtcnkfkjgpdmebaaGreatDoorProg
/- What a proof is of; a proof with others in the place of what is given: the plain law. -/
namespace Go.Proofs.YtcnkfkjgpdmebaaGreatDoor
open Go.RowKit

theorem legal_pure {t u : Ty} (h : t.pure = u.pure) : legalT t = legalT u := by
  obtain ⟨h1, h2⟩ := ty_sd t u h
  have h3 : shapeT t = shapeT u := by
    rw [Bool.eq_iff_iff]
    exact ⟨shape_pu t u h.symm, shape_pu u t h⟩
  unfold legalT
  rw [h1, h2, h3]
def PdEq (a b : Pd) : Prop := a.cls = b.cls ∧ a.ty.pure = b.ty.pure
theorem PdEq.legal {a b : Pd} (h : PdEq a b) : pdB a = pdB b := by unfold pdB; rw [h.1, legal_pure h.2]
theorem PdEq.refl (a : Pd) : PdEq a a := ⟨rfl, rfl⟩
theorem PdEq.trans {a b c : Pd} (h : PdEq a b) (k : PdEq b c) : PdEq a c := ⟨h.1.trans k.1, h.2.trans k.2⟩
theorem PdEq.symm {a b : Pd} (h : PdEq a b) : PdEq b a := ⟨h.1.symm, h.2.symm⟩

/-- The one at a number. -/
def atZ {α : Type} (l : List α) (n : Int) : Option α := if 0 ≤ n then l[n.toNat]? else none
theorem atZ_some {α : Type} {l : List α} {n : Int} {x : α} (h : atZ l n = some x) : 0 ≤ n ∧ n.toNat < l.length ∧ ∃ h : n.toNat < l.length, l[n.toNat]'h = x := by
  unfold atZ at h
  split at h
  · rename_i h0
    obtain ⟨h1, h2⟩ := List.getElem?_eq_some_iff.1 h
    exact ⟨h0, h1, h1, h2⟩
  · cases h
theorem atZ_mem {α : Type} {l : List α} {n : Int} {x : α} (h : atZ l n = some x) : x ∈ l := by
  obtain ⟨-, -, h1, h2⟩ := atZ_some h
  rw [← h2]
  exact List.getElem_mem h1
theorem atZ_nat {α : Type} (l : List α) (k : Nat) (h : k < l.length) : atZ l (k : Int) = some (l[k]'h) := by
  unfold atZ
  rw [if_pos (by omega)]
  simp [h]
theorem atZ_none {α : Type} {l : List α} {n : Int} (h : ¬ (0 ≤ n ∧ n < l.length)) : atZ l n = none := by
  unfold atZ
  split
  · rw [List.getElem?_eq_none (by omega)]
  · rfl

/-- Is a kid's predicate the one that an instance asks for? -/
noncomputable def wantB (types : List Ty) (x : Pd) (o : Option Pd) : Bool := match o with
  | some q => (q.cls == x.cls) && sameB q.ty (types.getD x.ty.var.toNat Ty.zero)
  | none => false
noncomputable def wantsB (types : List Ty) (ps : List Pd) (l : List (Option Pd)) : Bool := (ps.zip l).all fun p => wantB types p.1 p.2
noncomputable def instOkB (x : InD) (p : Pf) : Bool := instB x && decide ((p.types.length : Int) = x.n) && decide (p.kids.length = x.preds.length) && p.types.all legalT
noncomputable def instR (ins : List InD) (p : Pf) (l : List (Option Pd)) : Option Pd := (atZ ins p.n).bind fun x =>
  if (instOkB x p && wantsB p.types x.preds l) = true then some ⟨x.cls, .mk x.con 0 p.T p.tc p.types⟩ else none
def aboveR (cs : List KlD) (p : Pf) (l : List (Option Pd)) : Option Pd :=
  if p.kids.length = 1 ∧ p.types.length = 0 then (l.getD 0 none).bind fun q => (clF cs q.cls).bind fun c => (atZ c.sups p.n).map fun s => ⟨s, q.ty⟩ else none
def givenR (given : List Pd) (p : Pf) : Option Pd := if p.kids.length = 0 ∧ p.types.length = 0 then atZ given p.n else none
noncomputable def prv0 (cs : List KlD) (ins : List InD) (given : List Pd) (p : Pf) (l : List (Option Pd)) : Option Pd :=
  if p.kind = 1 then givenR given p else if p.kind = 2 then aboveR cs p l else if p.kind = 3 then instR ins p l else none
/-- What a proof is of. -/
noncomputable def prv (cs : List KlD) (ins : List InD) (given : List Pd) : Pf → Option Pd := Pf.fold fun p l => (prv0 cs ins given p l).filter pdB
theorem prv_eq (cs : List KlD) (ins : List InD) (given : List Pd) (p : Pf) : prv cs ins given p = (prv0 cs ins given p (p.kids.map (prv cs ins given))).filter pdB := by
  unfold prv; rw [Pf.fold_eq]
theorem prv_legal {cs : List KlD} {ins : List InD} {given : List Pd} {p : Pf} {q : Pd} (h : prv cs ins given p = some q) : pdB q = true := by
  rw [prv_eq] at h
  exact (Option.filter_eq_some_iff.1 h).2

/-! ### The same, in other memory -/
/-! ### Others in the place of what is given -/
end Go.Proofs.YtcnkfkjgpdmebaaGreatDoor

/- Terms in memory: six cells each, with slices of variables, of types, and of terms. No program in sight. -/
namespace Go.Proofs.YtcnkfkjgpdmebaaGreatDoor
open Go.RowKit

inductive Tm where
  | mk (kind n : Int) (name : Str) (V : Option Addr) (vc : Nat) (vars : List Int) (T : Option Addr) (tc : Nat) (types : List Ty) (A : Option Addr) (cap : Nat) (kids : List Tm) : Tm
namespace Tm
def kind : Tm → Int | .mk x _ _ _ _ _ _ _ _ _ _ _ => x
def n : Tm → Int | .mk _ x _ _ _ _ _ _ _ _ _ _ => x
def name : Tm → Str | .mk _ _ x _ _ _ _ _ _ _ _ _ => x
def V : Tm → Option Addr | .mk _ _ _ x _ _ _ _ _ _ _ _ => x
def vc : Tm → Nat | .mk _ _ _ _ x _ _ _ _ _ _ _ => x
def vars : Tm → List Int | .mk _ _ _ _ _ x _ _ _ _ _ _ => x
def T : Tm → Option Addr | .mk _ _ _ _ _ _ x _ _ _ _ _ => x
def tc : Tm → Nat | .mk _ _ _ _ _ _ _ x _ _ _ _ => x
def types : Tm → List Ty | .mk _ _ _ _ _ _ _ _ x _ _ _ => x
def A : Tm → Option Addr | .mk _ _ _ _ _ _ _ _ _ x _ _ => x
def cap : Tm → Nat | .mk _ _ _ _ _ _ _ _ _ _ x _ => x
def kids : Tm → List Tm | .mk _ _ _ _ _ _ _ _ _ _ _ x => x
/-- Induction on a term: what holds of all kids holds of it. -/
theorem ind {p : Tm → Prop} (h : ∀ t, (∀ k ∈ t.kids, p k) → p t) (t : Tm) : p t :=
  Tm.rec (motive_1 := p) (motive_2 := fun l => ∀ k ∈ l, p k) (fun _ _ _ _ _ _ _ _ _ _ _ _ hl => h _ hl) (fun _ hk => by cases hk)
    (fun _ _ hh ht k hk => by rcases List.mem_cons.1 hk with rfl | hk; exact hh; exact ht k hk) t
/-- What is reckoned of a term out of what is reckoned of its kids. -/
noncomputable def fold {β : Type} (f : Tm → List β → β) (t : Tm) : β :=
  Tm.rec (motive_1 := fun _ => β) (motive_2 := fun _ => List β) (fun k n s v vc vs T tc ts a c l r => f (.mk k n s v vc vs T tc ts a c l) r) [] (fun _ _ h t => h :: t) t
theorem fold_eq {β : Type} (f : Tm → List β → β) (t : Tm) : t.fold f = f t (t.kids.map (fold f)) := by
  cases t with
  | mk k n s v vc vs T tc ts a c l =>
    show f _ _ = f _ _
    congr 1
    show Tm.rec_1 (motive_1 := fun _ => β) (motive_2 := fun _ => List β) _ _ _ l = l.map (fold f)
    induction l with
    | nil => rfl
    | cons x l ih => exact congrArg (x.fold f :: ·) ih
noncomputable def size : Tm → Nat := fold fun _ l => l.sum + 1
theorem size_eq (t : Tm) : t.size = (t.kids.map size).sum + 1 := fold_eq _ t
theorem size_pos (t : Tm) : 0 < t.size := by rw [size_eq]; omega
noncomputable def depth : Tm → Nat := fold fun _ l => l.foldr max 0 + 1
theorem depth_eq (t : Tm) : t.depth = (t.kids.map depth).foldr max 0 + 1 := fold_eq _ t
theorem size_kid {t k : Tm} (h : k ∈ t.kids) : k.size < t.size := by rw [size_eq t]; have := Tree.mem_sum size h; omega
/-- A term without its memory: what it says. -/
inductive Pure where
  | mk (kind n : Int) (name : Str) (vars : List Int) (types : List Ty.Pure) (kids : List Pure) : Pure
noncomputable def pure : Tm → Pure := fold fun t l => .mk t.kind t.n t.name t.vars (t.types.map Ty.pure) l
theorem pure_eq (t : Tm) : t.pure = .mk t.kind t.n t.name t.vars (t.types.map Ty.pure) (t.kids.map pure) := fold_eq _ t
def zero : Tm := .mk 0 0 [] none 0 [] none 0 [] none 0 []
end Tm

def Tm.cells (t : Tm) : List Value := [.int .i64 t.kind, .int .i64 t.n, encStr t.name, .slice t.V t.vars.length t.vc, .slice t.T t.types.length t.tc, .slice t.A t.kids.length t.cap]
def tmC : Coder Tm := ⟨6, Tm.cells, fun _ => rfl, by omega⟩
@[go_sem] def tmV (t : Tm) : Value := .agg #[.int .i64 t.kind, .int .i64 t.n, encStr t.name, .slice t.V t.vars.length t.vc, .slice t.T t.types.length t.tc, .slice t.A t.kids.length t.cap]

/-- What a term says of itself stands in memory. -/
structure TmHd (w : World) (t : Tm) : Prop where
  vle : t.vars.length ≤ t.vc
  vmax : t.vc ≤ 9223372036854775807
  tle : t.types.length ≤ t.tc
  tmax : t.tc ≤ 9223372036854775807
  le : t.kids.length ≤ t.cap
  max : t.cap ≤ 9223372036854775807
  txt : t.name.length ≤ 9223372036854775807
  vars : Ints w t.V t.vars
  types : TysIn w t.T t.types
  row : RowOf tmC w t.A t.kids
/-- A term that stands in memory. -/
inductive TmIn (w : World) : Tm → Prop
  | mk {t : Tm} (hd : TmHd w t) (kids : ∀ k ∈ t.kids, TmIn w k) : TmIn w t
/-- Terms that stand in memory, in a row. -/
structure TmsIn (w : World) (A : Option Addr) (l : List Tm) : Prop where
  row : RowOf tmC w A l
  kids : ∀ k ∈ l, TmIn w k

section
variable {w w' : World} {t : Tm}
theorem TmHd.old (h : TmHd w t) (k : Below w.heap.size w w') : TmHd w' t :=
  ⟨h.vle, h.vmax, h.tle, h.tmax, h.le, h.max, h.txt, Row.old h.vars k.block k.size, h.types.old k, Row.old h.row k.block k.size⟩
theorem TmHd.ext (h : TmHd w t) (k : Ext w w') : TmHd w' t := h.old k.below
theorem TmIn.hd (h : TmIn w t) : TmHd w t := by cases h; assumption
theorem TmIn.all (h : TmIn w t) : TmsIn w t.A t.kids := by cases h with | mk h k => exact ⟨h.row, k⟩
theorem TmIn.old (h : TmIn w t) (k : Below w.heap.size w w') : TmIn w' t := by
  induction h with
  | mk h1 _ ih => exact .mk (h1.old k) ih
theorem TmIn.ext (h : TmIn w t) (k : Ext w w') : TmIn w' t := h.old k.below
theorem TmsIn.old {A : Option Addr} {l : List Tm} (h : TmsIn w A l) (k : Below w.heap.size w w') : TmsIn w' A l := ⟨Row.old h.row k.block k.size, fun x hx => (h.kids x hx).old k⟩
theorem TmsIn.ext {A : Option Addr} {l : List Tm} (h : TmsIn w A l) (k : Ext w w') : TmsIn w' A l := h.old k.below
theorem TmsIn.nil (w : World) (A : Option Addr) : TmsIn w A [] := ⟨RowOf.nil _ _ _, by simp⟩
theorem TmIn.zero (w : World) : TmIn w Tm.zero := .mk ⟨Nat.zero_le _, by decide, Nat.zero_le _, by decide, Nat.zero_le _, by decide, by decide, RowOf.nil _ _ _, TysIn.nil _ _, RowOf.nil _ _ _⟩ (by intro k hk; cases hk)
theorem TmsIn.at_ {A : Option Addr} {l : List Tm} (h : TmsIn w A l) {i : Nat} (hi : i < l.length) :
    ∃ b o, A = some ⟨b, o, none⟩ ∧ b < w.heap.size ∧ w.cell? ⟨b, o + i * 6, none⟩ = some (.int .i64 (l[i]'hi).kind) ∧ w.cell? ⟨b, o + i * 6 + 1, none⟩ = some (.int .i64 (l[i]'hi).n) ∧
      w.cell? ⟨b, o + i * 6 + 2, none⟩ = some (.string ⟨(l[i]'hi).name.toArray⟩) ∧ w.cell? ⟨b, o + i * 6 + 3, none⟩ = some (.slice (l[i]'hi).V (l[i]'hi).vars.length (l[i]'hi).vc) ∧
      w.cell? ⟨b, o + i * 6 + 4, none⟩ = some (.slice (l[i]'hi).T (l[i]'hi).types.length (l[i]'hi).tc) ∧ w.cell? ⟨b, o + i * 6 + 5, none⟩ = some (.slice (l[i]'hi).A (l[i]'hi).kids.length (l[i]'hi).cap) := by
  obtain ⟨b, o, e, hb, hc⟩ := RowOf.at_ tmC h.row hi
  refine ⟨b, o, e, hb, ?_, ?_, ?_, ?_, ?_, ?_⟩
  · have := hc 0 (by decide); simpa [tmC, Tm.cells] using this
  · have := hc 1 (by decide); simpa [tmC, Tm.cells] using this
  · have := hc 2 (by decide); simpa [tmC, Tm.cells] using this
  · have := hc 3 (by decide); simpa [tmC, Tm.cells] using this
  · have := hc 4 (by decide); simpa [tmC, Tm.cells] using this
  · have := hc 5 (by decide); simpa [tmC, Tm.cells] using this
theorem TmsIn.cut {A : Option Addr} {l : List Tm} (h : TmsIn w A l) {k cap : Nat} (hk : k ≤ l.length) (hc : l.length ≤ cap) : TmsIn w (if cap = k then A else A.map (·.add (k * 6))) (l.drop k) :=
  ⟨RowOf.cut tmC h.row hk hc, fun x hx => h.kids x (List.mem_of_mem_drop hx)⟩
theorem TmsIn.take {A : Option Addr} {l : List Tm} (h : TmsIn w A l) {k : Nat} (hk : k ≤ l.length) : TmsIn w A (l.take k) :=
  ⟨RowOf.take tmC h.row hk, fun x hx => h.kids x (List.mem_of_mem_take hx)⟩
end

/-! ### Away from a block -/
def OffB (c : Nat) (A : Option Addr) (n : Nat) : Prop := n ≠ 0 → ∀ a, A = some a → a.block ≠ c
theorem OffB.new {w : World} {A : Option Addr} {k n c : Nat} {l : List Value} (h : Row w A k n l) (hc : w.heap.size ≤ c) : OffB c A n := by
  intro hn a ha
  obtain ⟨b, o, e, hb, -⟩ := h.2 (by omega)
  subst ha
  injection e with e
  subst e
  show b ≠ c
  omega
/-- No part of a term lies in block c. -/
inductive AwayM (c : Nat) : Tm → Prop
  | mk {t : Tm} (v : OffB c t.V t.vars.length) (ty : OffB c t.T t.types.length) (tys : ∀ x ∈ t.types, awayB c x = true) (k : OffB c t.A t.kids.length) (kids : ∀ k ∈ t.kids, AwayM c k) : AwayM c t
section
variable {w w' : World} {t : Tm} {c : Nat}
theorem AwayM.v (h : AwayM c t) : OffB c t.V t.vars.length := by cases h; assumption
theorem AwayM.ty (h : AwayM c t) : OffB c t.T t.types.length := by cases h; assumption
theorem AwayM.tys (h : AwayM c t) : ∀ x ∈ t.types, awayB c x = true := by cases h; assumption
theorem AwayM.k (h : AwayM c t) : OffB c t.A t.kids.length := by cases h; assumption
theorem AwayM.kids (h : AwayM c t) : ∀ k ∈ t.kids, AwayM c k := by cases h; assumption
theorem awayM_new (h : TmIn w t) (hc : w.heap.size ≤ c) : AwayM c t := by
  induction h with
  | mk h _ ih => exact .mk (OffB.new h.vars hc) (OffB.new h.types.row hc) (fun x hx => away_new (h.types.args x hx) hc) (OffB.new h.row hc) ih
theorem TmIn.grown {row : Option Nat} (h : TmIn w t) (hg : w.grownBy w' row) (ha : ∀ c, row = some c → AwayM c t) : TmIn w' t := by
  induction h with
  | mk h _ ih =>
    refine .mk ⟨h.vle, h.vmax, h.tle, h.tmax, h.le, h.max, h.txt, row_grown h.vars hg (fun hn a hA e => (ha _ e).v hn a hA rfl), ⟨row_grown h.types.row hg (fun hn a hA e => (ha _ e).ty hn a hA rfl), fun x hx => (h.types.args x hx).grown hg (fun c e => (ha c e).tys x hx)⟩, row_grown h.row hg (fun hn a hA e => (ha _ e).k hn a hA rfl)⟩ (fun k hk => ih k hk (fun c e => (ha c e).kids k hk))
end

/-! ### The same -/
end Go.Proofs.YtcnkfkjgpdmebaaGreatDoor

/- Terms in boxes; lambdas and applications in memory. -/
namespace Go.Proofs.YtcnkfkjgpdmebaaGreatDoor
open Go.RowKit

/-- A term in a box. -/
def TmBox (w : World) (b : Nat) (t : Tm) : Prop := w.heap[b]? = some (.cells #[.int .i64 t.kind, .int .i64 t.n, encStr t.name, .slice t.V t.vars.length t.vc, .slice t.T t.types.length t.tc, .slice t.A t.kids.length t.cap] 40 (0, 0))
section
variable {w w' : World} {b : Nat} {t : Tm}
theorem TmBox.new (w : World) (t : Tm) : TmBox (w.alloc (.cells #[.int .i64 t.kind, .int .i64 t.n, encStr t.name, .slice t.V t.vars.length t.vc, .slice t.T t.types.length t.tc, .slice t.A t.kids.length t.cap] 40)) w.heap.size t := at_newB _ _ _ rfl
theorem TmBox.lt (h : TmBox w b t) : b < w.heap.size := lt_of_obj h
theorem TmBox.ext (h : TmBox w b t) (e : Ext w w') : TmBox w' b t := (e.heap h.lt).trans h
theorem TmBox.cells (h : TmBox w b t) : w.cell? ⟨b, 0, none⟩ = some (.int .i64 t.kind) ∧ w.cell? ⟨b, 1, none⟩ = some (.int .i64 t.n) ∧ w.cell? ⟨b, 2, none⟩ = some (.string ⟨t.name.toArray⟩) ∧ w.cell? ⟨b, 3, none⟩ = some (.slice t.V t.vars.length t.vc) ∧ w.cell? ⟨b, 4, none⟩ = some (.slice t.T t.types.length t.tc) ∧ w.cell? ⟨b, 5, none⟩ = some (.slice t.A t.kids.length t.cap) :=
  ⟨bytes_block h 0, bytes_block h 1, bytes_block h 2, bytes_block h 3, bytes_block h 4, bytes_block h 5⟩
theorem TmBox.free (h : TmBox w b t) (i : Nat) : w.frozen? ⟨b, i, none⟩ = false := free_block h i
theorem TmBox.frees (h : TmBox w b t) : w.frozen? ⟨b, 0, none⟩ = false ∧ w.frozen? ⟨b, 1, none⟩ = false ∧ w.frozen? ⟨b, 2, none⟩ = false ∧ w.frozen? ⟨b, 3, none⟩ = false ∧ w.frozen? ⟨b, 4, none⟩ = false ∧ w.frozen? ⟨b, 5, none⟩ = false :=
  ⟨h.free 0, h.free 1, h.free 2, h.free 3, h.free 4, h.free 5⟩
theorem TmBox.kept {row : Option Nat} (h : TmBox w b t) (hg : w.grownBy w' row) (hb : row ≠ some b) : TmBox w' b t := (hg.block b h.lt (fun e => hb e.symm)).trans h
end
/-- A term is written into a box. -/
def putTm (w : World) (b : Nat) (t : Tm) : World :=
  (((((w.setCell ⟨b, 0, none⟩ (.int .i64 t.kind)).setCell ⟨b, 1, none⟩ (.int .i64 t.n)).setCell ⟨b, 2, none⟩ (.string ⟨t.name.toArray⟩)).setCell ⟨b, 3, none⟩ (.slice t.V t.vars.length t.vc)).setCell ⟨b, 4, none⟩ (.slice t.T t.types.length t.tc)).setCell ⟨b, 5, none⟩ (.slice t.A t.kids.length t.cap)
theorem grown_tr {a b c : World} {row : Option Nat} (h : a.grownBy b row) (k : b.grownBy c row) : a.grownBy c row := ⟨k.os.trans h.os, k.tape.trans h.tape, k.output.trans h.output, Nat.le_trans h.size k.size, fun j hj hne => (k.block j (Nat.lt_of_lt_of_le hj h.size) hne).trans (h.block j hj hne)⟩
theorem putTm_grown (w : World) (b : Nat) (t : Tm) : w.grownBy (putTm w b t) (some b) :=
  grown_tr (grown_tr (grown_tr (grown_tr (grown_tr (grown_cell _ _ _ _) (grown_cell _ _ _ _)) (grown_cell _ _ _ _)) (grown_cell _ _ _ _)) (grown_cell _ _ _ _)) (grown_cell _ _ _ _)
theorem putTm_size (w : World) (b : Nat) (t : Tm) : (putTm w b t).heap.size = w.heap.size := by simp [putTm, World.setCell]
theorem putTm_box {w : World} {b : Nat} (t : Tm) {v0 v1 v2 v3 v4 v5 : Value} (h : w.heap[b]? = some (.cells #[v0, v1, v2, v3, v4, v5] 40 (0, 0))) : TmBox (putTm w b t) b t := by
  have := blk_setCell (blk_setCell (blk_setCell (blk_setCell (blk_setCell (blk_setCell h 0 (.int .i64 t.kind)) 1 (.int .i64 t.n)) 2 (.string ⟨t.name.toArray⟩)) 3 (.slice t.V t.vars.length t.vc)) 4 (.slice t.T t.types.length t.tc)) 5 (.slice t.A t.kids.length t.cap)
  unfold putTm TmBox
  simpa using this
theorem putTm_ext {W w : World} {b : Nat} (h : Ext W w) (hb : W.heap.size ≤ b) (t : Tm) : Ext W (putTm w b t) := h.grown (putTm_grown w b t) (fun c e => by injection e with e; omega)

/-! ### Lambdas and applications -/
def appT (a b : Tm) (g : Nat) : Tm := .mk 4 0 [] none 0 [] none 0 [] (some ⟨g, 0, none⟩) 2 [a, b]
def appP (a b : Tm.Pure) : Tm.Pure := .mk 4 0 [] [] [] [a, b]
theorem appT_pure (a b : Tm) (g : Nat) : (appT a b g).pure = appP a.pure b.pure := by rw [Tm.pure_eq]; rfl
theorem appT_in {w : World} {a b : Tm} {g : Nat} (ha : TmIn w a) (hb : TmIn w b) (h : w.heap[g]? = some (.cells ([a, b].flatMap tmC.f).toArray 40 (0, 0))) : TmIn w (appT a b g) :=
  .mk ⟨Nat.le_refl _, Nat.zero_le _, Nat.le_refl _, Nat.zero_le _, by simp [appT, Tm.kids, Tm.cap], (by show 2 ≤ _; omega), Nat.zero_le _, RowOf.nil _ _ _, TysIn.nil _ _, RowOf.block tmC [a, b] h⟩ (fun y hy => by
    simp [appT, Tm.kids] at hy
    rcases hy with rfl | rfl
    · exact ha
    · exact hb)
theorem appT_away {c : Nat} {a b : Tm} {g : Nat} (hg : g ≠ c) (ha : AwayM c a) (hb : AwayM c b) : AwayM c (appT a b g) :=
  .mk (fun h => absurd rfl h) (fun h => absurd rfl h) (by simp [appT, Tm.types]) (fun _ x e => by injection e with e; subst e; exact hg) (fun y hy => by
    simp [appT, Tm.kids] at hy
    rcases hy with rfl | rfl
    · exact ha
    · exact hb)
noncomputable def appsP (f : Tm.Pure) (l : List Tm) : Tm.Pure := l.foldl (fun f x => appP f x.pure) f
theorem appsP_take (f : Tm.Pure) (l : List Tm) {k : Nat} (h : k < l.length) : appsP f (l.take (k + 1)) = appP (appsP f (l.take k)) (l[k]'h).pure := by
  unfold appsP
  rw [List.take_succ_eq_append_getElem h, List.foldl_append]
  rfl

end Go.Proofs.YtcnkfkjgpdmebaaGreatDoor

/- Evidence as terms: what the term of a proof says. Plain; no program in sight. -/
namespace Go.Proofs.YtcnkfkjgpdmebaaGreatDoor
open Go.RowKit

/-- The name '@class@con' of an instance. -/
def nameI (c t : Str) : Str := ([64] : Str) ++ c ++ ([64] : Str) ++ t
/-- The name of a number. -/
def numT (i : Int) : Tm := .mk 1 0 (([35] : Str) ++ digs i.toNat) none 0 [] none 0 [] none 0 []
/-- So many names from one on. -/
def namesT (n first : Int) : List Tm := if n < 1 ∨ n > 4096 ∨ first < 0 ∨ first > 1099511627776 then [] else (List.range n.toNat).map fun (i : Nat) => numT (first + (i : Int))
def ev0 (cls : Pf → Str) (ins : List InD) (given : List Tm.Pure) (p : Pf) (types : List Ty.Pure) (l : List Tm.Pure) : Tm.Pure :=
  if p.kind = 1 then (atZ given p.n).getD (.mk 0 0 [] [] [] [])
  else if p.kind = 2 then .mk 13 p.n (cls (p.kids.getD 0 Pf.zero)) [] [] [l.getD 0 (.mk 0 0 [] [] [] [])]
  else match atZ ins p.n with
    | some x => l.foldl appP (if types = [] then .mk 1 0 (nameI x.cls x.con) [] [] [] else .mk 6 0 [] [] types [.mk 1 0 (nameI x.cls x.con) [] [] []])
    | none => .mk 0 0 [] [] [] []
/-- What the term of a proof says. -/
noncomputable def evP (cs : List KlD) (ins : List InD) (preds : List Pd) (given : List Tm.Pure) : Pf → Tm.Pure := Pf.fold fun p l =>
  ev0 (fun k => ((prv cs ins preds k).map Pd.cls).getD []) ins given p (p.types.map Ty.pure) l
theorem evP_eq (cs : List KlD) (ins : List InD) (preds : List Pd) (given : List Tm.Pure) (p : Pf) : evP cs ins preds given p = ev0 (fun k => ((prv cs ins preds k).map Pd.cls).getD []) ins given p (p.types.map Ty.pure) (p.kids.map (evP cs ins preds given)) := by
  unfold evP; rw [Pf.fold_eq]
/-- What a proof that is one has, by its kind. -/
theorem prv_parts {cs : List KlD} {ins : List InD} {preds : List Pd} {p : Pf} {q : Pd} (h : prv cs ins preds p = some q) :
    (p.kind = 1 ∧ p.kids = [] ∧ p.types = [] ∧ 0 ≤ p.n ∧ p.n < preds.length) ∨
    (p.kind = 2 ∧ p.types = [] ∧ ∃ k b, p.kids = [k] ∧ prv cs ins preds k = some b) ∨
    (p.kind = 3 ∧ ∃ x, atZ ins p.n = some x ∧ p.kids.length = x.preds.length ∧ ∀ k ∈ p.kids, ∃ b, prv cs ins preds k = some b) := by
  rw [prv_eq] at h
  obtain ⟨h, -⟩ := Option.filter_eq_some_iff.1 h
  unfold prv0 at h
  by_cases k1 : p.kind = 1
  · rw [if_pos k1] at h
    left
    unfold givenR at h
    split at h
    · rename_i hc
      obtain ⟨a1, a2, -⟩ := atZ_some h
      exact ⟨k1, List.length_eq_zero_iff.1 hc.1, List.length_eq_zero_iff.1 hc.2, a1, by omega⟩
    · cases h
  · rw [if_neg k1] at h
    by_cases k2 : p.kind = 2
    · rw [if_pos k2] at h
      right; left
      unfold aboveR at h
      split at h
      · rename_i hc
        obtain ⟨k, hk⟩ := List.length_eq_one_iff.1 hc.1
        obtain ⟨b, hb, -⟩ := Option.bind_eq_some_iff.1 h
        rw [hk] at hb
        exact ⟨k2, List.length_eq_zero_iff.1 hc.2, k, b, hk, hb⟩
      · cases h
    · rw [if_neg k2] at h
      by_cases k3 : p.kind = 3
      · rw [if_pos k3] at h
        right; right
        unfold instR at h
        obtain ⟨x, hx, h⟩ := Option.bind_eq_some_iff.1 h
        split at h
        · rename_i hc
          rw [Bool.and_eq_true] at hc
          obtain ⟨hc1, hc2⟩ := hc
          unfold instOkB at hc1
          simp only [Bool.and_eq_true, decide_eq_true_eq] at hc1
          refine ⟨k3, x, hx, hc1.1.2, fun k hk => ?_⟩
          obtain ⟨i, hi, rfl⟩ := List.mem_iff_getElem.1 hk
          unfold wantsB at hc2
          rw [List.all_eq_true] at hc2
          have hl := hc1.1.2
          have hz : i < (x.preds.zip (p.kids.map (prv cs ins preds))).length := by rw [List.length_zip, List.length_map]; omega
          have := hc2 _ (List.getElem_mem hz)
          rw [List.getElem_zip, List.getElem_map] at this
          unfold wantB at this
          cases hp : prv cs ins preds (p.kids[i]'hi) with
          | none => rw [hp] at this; cases this
          | some b => exact ⟨b, rfl⟩
        · cases h
      · rw [if_neg k3] at h; cases h

end Go.Proofs.YtcnkfkjgpdmebaaGreatDoor

/- Terms in a row that is written one by one. (Split off XCnQ.) -/
namespace Go.Proofs.YtcnkfkjgpdmebaaGreatDoor
open Go.RowKit

/-! ### Terms in a row -/
def rowM (us : List Tm) (n : Nat) : Array Value := ((us ++ List.replicate n Tm.zero).flatMap tmC.f).toArray
/-- A term is written at a place. -/
def putTmAt (w : World) (b o : Nat) (t : Tm) : World :=
  (((((w.setCell ⟨b, o, none⟩ (.int .i64 t.kind)).setCell ⟨b, o + 1, none⟩ (.int .i64 t.n)).setCell ⟨b, o + 2, none⟩ (.string ⟨t.name.toArray⟩)).setCell ⟨b, o + 3, none⟩ (.slice t.V t.vars.length t.vc)).setCell ⟨b, o + 4, none⟩ (.slice t.T t.types.length t.tc)).setCell ⟨b, o + 5, none⟩ (.slice t.A t.kids.length t.cap)
theorem set6 (us : List Tm) (n : Nat) (u : Tm) : ((((((rowM us (n + 1)).setIfInBounds (us.length * 6) (.int .i64 u.kind)).setIfInBounds (us.length * 6 + 1) (.int .i64 u.n)).setIfInBounds (us.length * 6 + 2) (.string ⟨u.name.toArray⟩)).setIfInBounds (us.length * 6 + 3) (.slice u.V u.vars.length u.vc)).setIfInBounds (us.length * 6 + 4) (.slice u.T u.types.length u.tc)).setIfInBounds (us.length * 6 + 5) (.slice u.A u.kids.length u.cap) = rowM (us ++ [u]) n := by
  unfold rowM
  have h1 : (us ++ List.replicate (n + 1) Tm.zero).flatMap tmC.f = us.flatMap tmC.f ++ (tmC.f Tm.zero ++ (List.replicate n Tm.zero).flatMap tmC.f) := by
    rw [List.flatMap_append, List.replicate_succ, List.flatMap_cons]
  have h2 : (us ++ [u] ++ List.replicate n Tm.zero).flatMap tmC.f = us.flatMap tmC.f ++ (tmC.f u ++ (List.replicate n Tm.zero).flatMap tmC.f) := by
    rw [List.flatMap_append, List.flatMap_append, List.flatMap_cons, List.flatMap_nil, List.append_nil, List.append_assoc]
  have hl : (us.flatMap tmC.f).length = us.length * 6 := flat_len _ _ tmC.hf _
  rw [h1, h2, ← hl]
  generalize us.flatMap tmC.f = a
  generalize (List.replicate n Tm.zero).flatMap tmC.f = b
  show ((((((a ++ (([.int .i64 0, .int .i64 0, .string ⟨#[]⟩, .slice none 0 0, .slice none 0 0, .slice none 0 0] : List Value) ++ b)).toArray.setIfInBounds _ _).setIfInBounds _ _).setIfInBounds _ _).setIfInBounds _ _).setIfInBounds _ _).setIfInBounds _ _ = (a ++ (([.int .i64 u.kind, .int .i64 u.n, encStr u.name, .slice u.V u.vars.length u.vc, .slice u.T u.types.length u.tc, .slice u.A u.kids.length u.cap] : List Value) ++ b)).toArray
  simp only [List.setIfInBounds_toArray]
  congr 1
  rw [List.set_append_right _ _ (Nat.le_refl _), List.set_append_right _ _ (by omega), List.set_append_right _ _ (by omega), List.set_append_right _ _ (by omega), List.set_append_right _ _ (by omega), List.set_append_right _ _ (by omega)]
  simp
theorem row_at6 (us : List Tm) (n : Nat) : (rowM us (n + 1))[us.length * 6]? = some (.int .i64 0) ∧ (rowM us (n + 1))[us.length * 6 + 1]? = some (.int .i64 0) ∧ (rowM us (n + 1))[us.length * 6 + 2]? = some (.string ⟨#[]⟩) ∧ (rowM us (n + 1))[us.length * 6 + 3]? = some (.slice none 0 0) ∧ (rowM us (n + 1))[us.length * 6 + 4]? = some (.slice none 0 0) ∧ (rowM us (n + 1))[us.length * 6 + 5]? = some (.slice none 0 0) := by
  unfold rowM
  have h1 : (us ++ List.replicate (n + 1) Tm.zero).flatMap tmC.f = us.flatMap tmC.f ++ (tmC.f Tm.zero ++ (List.replicate n Tm.zero).flatMap tmC.f) := by
    rw [List.flatMap_append, List.replicate_succ, List.flatMap_cons]
  have hl : (us.flatMap tmC.f).length = us.length * 6 := flat_len _ _ tmC.hf _
  rw [h1, ← hl]
  generalize us.flatMap tmC.f = a
  generalize (List.replicate n Tm.zero).flatMap tmC.f = b
  have e : tmC.f Tm.zero = [.int .i64 0, .int .i64 0, .string ⟨#[]⟩, .slice none 0 0, .slice none 0 0, .slice none 0 0] := rfl
  rw [e]
  simp only [List.getElem?_toArray]
  refine ⟨?_, ?_, ?_, ?_, ?_, ?_⟩ <;> rw [List.getElem?_append_right (by omega)] <;> simp
theorem rowM_done (us : List Tm) : rowM us 0 = (us.flatMap tmC.f).toArray := by unfold rowM; simp
theorem put6 {w : World} {b n : Nat} {us : List Tm} (u : Tm) (h : w.heap[b]? = some (.cells (rowM us (n + 1)) 40 (0, 0))) :
    (putTmAt w b (us.length * 6) u).heap[b]? = some (.cells (rowM (us ++ [u]) n) 40 (0, 0)) := by
  rw [← set6]
  exact blk_setCell (blk_setCell (blk_setCell (blk_setCell (blk_setCell (blk_setCell h _ _) _ _) _ _) _ _) _ _) _ _
def zero6 : Array Value := #[.int .i64 0, .int .i64 0, .string ⟨#[]⟩, .slice none 0 0, .slice none 0 0, .slice none 0 0]
theorem tm_info6 : (Tryz.prog.info? 40).map (fun i => (i.zero, i.size, i.bytes)) = some (some (.agg #[.int .i64 0, .int .i64 0, .string ⟨#[]⟩, .slice none 0 0, .slice none 0 0, .slice none 0 0]), 6, 104) := by kernel_rfl
theorem zerosM_eq (m : Nat) : madeCells zero6 (m * 6) = rowM [] m := by
  unfold madeCells rowM
  rw [List.nil_append]
  apply Array.toList_inj.1
  rw [Array.toList_map, Array.toList_range]
  induction m with
  | zero => rfl
  | succ m ih =>
    rw [List.replicate_succ', List.flatMap_append, show (m + 1) * 6 = m * 6 + 1 + 1 + 1 + 1 + 1 + 1 by omega, List.range_succ, List.range_succ, List.range_succ, List.range_succ, List.range_succ, List.range_succ, List.map_append, List.map_append, List.map_append, List.map_append, List.map_append, List.map_append, ih]
    simp only [List.append_assoc]
    congr 1
    have h0 : (m * 6) % 6 = 0 := by omega
    have h1 : (m * 6 + 1) % 6 = 1 := by omega
    have h2 : (m * 6 + 1 + 1) % 6 = 2 := by omega
    have h3 : (m * 6 + 1 + 1 + 1) % 6 = 3 := by omega
    have h4 : (m * 6 + 1 + 1 + 1 + 1) % 6 = 4 := by omega
    have h5 : (m * 6 + 1 + 1 + 1 + 1 + 1) % 6 = 5 := by omega
    simp only [List.map_cons, List.map_nil, show zero6.size = 6 from rfl, h0, h1, h2, h3, h4, h5, List.flatMap_cons, List.flatMap_nil]
    rfl
theorem make_zerosM (m : Nat) (hm : m ≤ 100000) (W : World) : (Instr.makeSlice 28 (.int .i64 m) (.int .i64 m)).run Tryz.prog W = .ok (.slice (some ⟨W.heap.size, 0, none⟩) m m) (W.alloc (.cells (rowM [] m) 40)) := by
  obtain ⟨i1, hj, hy0, hy1, hy2⟩ := info_parts tm_info6
  have hmk := run_make (P := Tryz.prog) W 28 40 i1 _ Tryz.underlying28 hj hy0 .i64 .i64 m m (by omega) (Int.le_refl _) (by rw [hy2]; omega) (by omega)
  rw [hy1, Int.toNat_natCast, show (Value.agg #[.int .i64 0, .int .i64 0, .string ⟨#[]⟩, .slice none 0 0, .slice none 0 0, .slice none 0 0]).cells = zero6 from rfl, zerosM_eq] at hmk
  exact hmk

end Go.Proofs.YtcnkfkjgpdmebaaGreatDoor

/- Contracts: so many names from one on, the program's and the reference's. -/
namespace Go.Proofs.YtcnkfkjgpdmebaaGreatDoor
open Go.RowKit

theorem namesT_no {n first : Int} (h : n < 1 ∨ n > 4096 ∨ first < 0 ∨ first > 1099511627776) : namesT n first = [] := if_pos h
theorem namesT_yes {n f : Nat} (h1 : ¬ (n : Int) < 1) (h2 : ¬ (n : Int) > 4096) (h4 : ¬ (f : Int) > 1099511627776) : namesT n f = (List.range n).map fun (i : Nat) => numT ((f + i : Nat) : Int) := by
  unfold namesT
  rw [if_neg (by omega), Int.toNat_natCast]
  exact List.map_congr_left fun i _ => by rw [Int.natCast_add]
theorem numT_in (w : World) (m : Nat) (h : m ≤ 9223372036854775807) : TmIn w (numT m) := by
  have H20 := digs_len 19 m (Nat.lt_of_le_of_lt h (by decide))
  exact .mk ⟨Nat.zero_le _, by show 0 ≤ 9223372036854775807; omega, Nat.zero_le _, by show 0 ≤ 9223372036854775807; omega, Nat.zero_le _, by show 0 ≤ 9223372036854775807; omega, by show (([35] : Str) ++ digs (m : Int).toNat).length ≤ _; rw [Int.toNat_natCast, List.length_append, List.length_singleton]; omega, RowOf.nil _ _ _, TysIn.nil _ _, RowOf.nil _ _ _⟩ (by intro k hk; cases hk)

set_option maxRecDepth 10000 in
set_option maxHeartbeats 4000000 in
theorem e_names (n first : Int) (w : World) : Calls Tryz.prog 20 #[.int .i64 n, .int .i64 first] w fun e w' => (∃ A c, e = .returned (.slice A (namesT n first).length c) ∧ (namesT n first).length ≤ c ∧ c ≤ 9223372036854775807 ∧ TmsIn w' A (namesT n first)) ∧ Ext w w' := by
  by_cases h1 : n < 1
  · rw [namesT_no (.inl h1)]
    go_enter Tryz.func20, Tryz.ntmps20
    go_wp2
    go_ret
    first
      | exact ⟨⟨none, 0, rfl, Nat.le_refl _, Nat.zero_le _, ⟨RowOf.nil _ _ _, fun t h => absurd h (by simp)⟩⟩, Ext.refl _⟩
      | exact ⟨⟨none, 0, rfl, Nat.zero_le _, ⟨RowOf.nil _ _ _, fun t h => absurd h (by simp)⟩⟩, Ext.refl _⟩
      | exact ⟨⟨none, 0, rfl, ⟨RowOf.nil _ _ _, fun t h => absurd h (by simp)⟩⟩, Ext.refl _⟩
  by_cases h2 : n > 4096
  · rw [namesT_no (.inr (.inl h2))]
    go_enter Tryz.func20, Tryz.ntmps20
    go_wp2
    go_ret
    first
      | exact ⟨⟨none, 0, rfl, Nat.le_refl _, Nat.zero_le _, ⟨RowOf.nil _ _ _, fun t h => absurd h (by simp)⟩⟩, Ext.refl _⟩
      | exact ⟨⟨none, 0, rfl, Nat.zero_le _, ⟨RowOf.nil _ _ _, fun t h => absurd h (by simp)⟩⟩, Ext.refl _⟩
      | exact ⟨⟨none, 0, rfl, ⟨RowOf.nil _ _ _, fun t h => absurd h (by simp)⟩⟩, Ext.refl _⟩
  by_cases h3 : first < 0
  · rw [namesT_no (.inr (.inr (.inl h3)))]
    go_enter Tryz.func20, Tryz.ntmps20
    go_wp2
    go_ret
    first
      | exact ⟨⟨none, 0, rfl, Nat.le_refl _, Nat.zero_le _, ⟨RowOf.nil _ _ _, fun t h => absurd h (by simp)⟩⟩, Ext.refl _⟩
      | exact ⟨⟨none, 0, rfl, Nat.zero_le _, ⟨RowOf.nil _ _ _, fun t h => absurd h (by simp)⟩⟩, Ext.refl _⟩
      | exact ⟨⟨none, 0, rfl, ⟨RowOf.nil _ _ _, fun t h => absurd h (by simp)⟩⟩, Ext.refl _⟩
  by_cases h4 : first > 1099511627776
  · rw [namesT_no (.inr (.inr (.inr h4)))]
    go_enter Tryz.func20, Tryz.ntmps20
    go_wp2
    go_ret
    first
      | exact ⟨⟨none, 0, rfl, Nat.le_refl _, Nat.zero_le _, ⟨RowOf.nil _ _ _, fun t h => absurd h (by simp)⟩⟩, Ext.refl _⟩
      | exact ⟨⟨none, 0, rfl, Nat.zero_le _, ⟨RowOf.nil _ _ _, fun t h => absurd h (by simp)⟩⟩, Ext.refl _⟩
      | exact ⟨⟨none, 0, rfl, ⟨RowOf.nil _ _ _, fun t h => absurd h (by simp)⟩⟩, Ext.refl _⟩
  obtain ⟨N, rfl⟩ : ∃ N : Nat, n = N := ⟨n.toNat, by omega⟩
  obtain ⟨f, rfl⟩ : ∃ f : Nat, first = f := ⟨first.toNat, by omega⟩
  have hNf := namesT_yes (n := N) (f := f) h1 h2 h4
  rw [hNf]
  clear hNf
  have hmk := make_zerosM N (by omega) w
  obtain ⟨W, hW⟩ : ∃ W, W = w.alloc (.cells (rowM [] N) 40) := ⟨_, rfl⟩
  rw [← hW] at hmk
  have X0 : Hid (Ext w W) := hide (by rw [hW]; exact (Ext.refl _).alloc _)
  have B0 : Hid (W.heap[w.heap.size]? = some (.cells (rowM [] N) 40 (0, 0))) := hide (by rw [hW]; exact at_newB _ _ _ rfl)
  have hlw := lt_of_obj B0.out
  have b1 : ¬ N < 1 := by omega
  have b2 : ¬ 4096 < N := by omega
  clear hW
  go_enter Tryz.func20, Tryz.ntmps20
  go_wp2
  go_loopw [25] (fun i wr => ∃ k : Nat, k ≤ N ∧ i = .int .i64 k ∧ Hid (wr.heap[w.heap.size]? = some (.cells (rowM ((List.range k).map fun (i : Nat) => numT ((f + i : Nat) : Int)) (N - k)) 40 (0, 0))) ∧ Hid (Ext w wr)) (fun i _ => N - (intOf i).toNat)
  case atStart => exact ⟨0, Nat.zero_le _, rfl, hide (by rw [List.range_zero]; exact B0.out), X0⟩
  case round =>
    obtain ⟨k, hk, rfl, HR, HX⟩ := hrel
    by_cases hlt : k < N
    · have hlt' : (k : Int) < (N : Int) := by omega
      have hk0 : (0 : Int) ≤ (k : Int) := by omega
      obtain ⟨m, hm⟩ : ∃ m : Nat, m = f + k := ⟨_, rfl⟩
      have hw1 : IntKind.i64.wrap ((f : Int) + (k : Int)) = (m : Int) := by rw [IntKind.wrap_i64]; omega
      have HT := hide (i_text m (by omega) wr)
      have hd := digs_len 19 m (by omega)
      have hsz : ¬ ((⟨[(35 : UInt8)].toArray⟩ : ByteArray).size + (⟨(digs m).toArray⟩ : ByteArray).size > 9223372036854775807) := by rw [ba_size, ba_size]; simp; omega
      have e1 := ByteArray.mk_append_mk [(35 : UInt8)] (digs m)
      obtain ⟨q, hq⟩ : ∃ q, N - k = q + 1 := ⟨N - k - 1, by omega⟩
      have Hq2 : Hid (N - (k + 1) = q) := hide (by omega)
      have Hrs : Hid ((List.range (k + 1)).map (fun (i : Nat) => numT ((f + i : Nat) : Int)) = (List.range k).map (fun (i : Nat) => numT ((f + i : Nat) : Int)) ++ [numT m]) := hide (by rw [List.range_succ, List.map_append, List.map_singleton, hm])
      have hln : ((List.range k).map fun (i : Nat) => numT ((f + i : Nat) : Int)).length = k := by simp
      rw [hq] at HR
      generalize ((List.range k).map fun (i : Nat) => numT ((f + i : Nat) : Int)) = us at *
      have Hln := hide hln
      clear hq hln hm
      go_wp2_with fail
      refine HT.out.mono ?_
      rintro e w3 ⟨rfl, hx⟩
      have HR3 := hide ((hx.heap (lt_of_obj HR.out)).trans HR.out)
      have X3 := hide (HX.out.trans hx)
      have HRn := hide (put6 (numT m) HR3.out)
      have HXn : Hid (Ext w (putTmAt w3 w.heap.size (us.length * 6) (numT m))) := hide ((((((X3.out.setCell (by simp) _).setCell (by simp) _).setCell (by simp) _).setCell (by simp) _).setCell (by simp) _).setCell (by simp) _)
      have f0 := free_block HR3.out (us.length * 6)
      have f1 := free_block HR3.out (us.length * 6 + 1)
      have f2 := free_block HR3.out (us.length * 6 + 2)
      have f3 := free_block HR3.out (us.length * 6 + 3)
      have f4 := free_block HR3.out (us.length * 6 + 4)
      have f5 := free_block HR3.out (us.length * 6 + 5)
      have k0 := (bytes_block HR3.out (us.length * 6)).trans (row_at6 us q).1
      have k1 := (bytes_block HR3.out (us.length * 6 + 1)).trans (row_at6 us q).2.1
      have k2 := (bytes_block HR3.out (us.length * 6 + 2)).trans (row_at6 us q).2.2.1
      have k3 := (bytes_block HR3.out (us.length * 6 + 3)).trans (row_at6 us q).2.2.2.1
      have k4 := (bytes_block HR3.out (us.length * 6 + 4)).trans (row_at6 us q).2.2.2.2.1
      have k5 := (bytes_block HR3.out (us.length * 6 + 5)).trans (row_at6 us q).2.2.2.2.2
      rw [Hln.out] at f0 f1 f2 f3 f4 f5 k0 k1 k2 k3 k4 k5 HRn HXn
      have hl3 := lt_of_obj HR3.out
      clear hx HR3 HT
      go_wp2
      go_roundw
      case rel => exact ⟨k + 1, hlt, by go_num, hide (by rw [Hq2.out, Hrs.out]; exact HRn.out), HXn⟩
      case measure => simp [intOf]; omega
    · have hge : ¬ (k : Int) < (N : Int) := by omega
      have hkn : k = N := by omega
      subst hkn
      have HRd : Hid (wr.heap[w.heap.size]? = some (.cells (((List.range k).map fun (i : Nat) => numT ((f + i : Nat) : Int)).flatMap tmC.f).toArray 40 (0, 0))) := hide (by have := HR.out; rwa [Nat.sub_self, rowM_done] at this)
      have HF : Hid (TmsIn wr (some ⟨w.heap.size, 0, none⟩) ((List.range k).map fun (i : Nat) => numT ((f + i : Nat) : Int))) := hide ⟨RowOf.block tmC _ HRd.out, fun t ht => by
        obtain ⟨i, hi, rfl⟩ := List.mem_map.1 ht
        have := List.mem_range.1 hi
        exact numT_in _ _ (by omega)⟩
      clear HR HRd
      go_wp2
      go_ret
      exact ⟨⟨_, _, rfl, Nat.le_refl _, by omega, HF.out⟩, HX.out⟩

end Go.Proofs.YtcnkfkjgpdmebaaGreatDoor
