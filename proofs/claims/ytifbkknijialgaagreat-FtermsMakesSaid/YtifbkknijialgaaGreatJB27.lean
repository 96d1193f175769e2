/- Terms in memory: six cells each, with slices of variables, of types, and of terms. No program in sight. -/
import Derived.Test.YtifbkknijialgaaGreatJB26
import Derived.Test.YtifbkknijialgaaGreatProg
import Derived.Shelf.Abstract
import Derived.WalkSpells
import Derived.WalkLawsBesides
/- Terms in memory: six cells each, with slices of variables, of types, and of terms. No program in sight. -/
namespace Go.Proofs.YtifbkknijialgaaGreat
open Go.RowKit

inductive Tm where
  | mk (kind n : Int) (name : Str) (V : Option Addr) (vc : Nat) (vars : List Int) (T : Option Addr) (tc : Nat) (types : List Ty) (A : Option Addr) (cap : Nat) (kids : List Tm) : Tm
namespace Tm
def kind : Tm → Int | .mk x _ _ _ _ _ _ _ _ _ _ _ => x
def n : Tm → Int | .mk _ x _ _ _ _ _ _ _ _ _ _ => x
def name : Tm → Str | .mk _ _ x _ _ _ _ _ _ _ _ _ => x
def V : Tm → Option Addr | .mk _ _ _ x _ _ _ _ _ _ _ _ => x
def vc : Tm → Nat | .mk _ _ _ _ x _ _ _ _ _ _ _ => x
def vars : Tm → List Int | .mk _ _ _ _ _ x _ _ _ _ _ _ => x
def T : Tm → Option Addr | .mk _ _ _ _ _ _ x _ _ _ _ _ => x
def tc : Tm → Nat | .mk _ _ _ _ _ _ _ x _ _ _ _ => x
def types : Tm → List Ty | .mk _ _ _ _ _ _ _ _ x _ _ _ => x
def A : Tm → Option Addr | .mk _ _ _ _ _ _ _ _ _ x _ _ => x
def cap : Tm → Nat | .mk _ _ _ _ _ _ _ _ _ _ x _ => x
def kids : Tm → List Tm | .mk _ _ _ _ _ _ _ _ _ _ _ x => x
/-- Induction on a term: what holds of all kids holds of it. -/
theorem ind {p : Tm → Prop} (h : ∀ t, (∀ k ∈ t.kids, p k) → p t) (t : Tm) : p t :=
  Tm.rec (motive_1 := p) (motive_2 := fun l => ∀ k ∈ l, p k) (fun _ _ _ _ _ _ _ _ _ _ _ _ hl => h _ hl) (fun _ hk => by cases hk)
    (fun _ _ hh ht k hk => by rcases List.mem_cons.1 hk with rfl | hk; exact hh; exact ht k hk) t
/-- What is reckoned of a term out of what is reckoned of its kids. -/
noncomputable def fold {β : Type} (f : Tm → List β → β) (t : Tm) : β :=
  Tm.rec (motive_1 := fun _ => β) (motive_2 := fun _ => List β) (fun k n s v vc vs T tc ts a c l r => f (.mk k n s v vc vs T tc ts a c l) r) [] (fun _ _ h t => h :: t) t
theorem fold_eq {β : Type} (f : Tm → List β → β) (t : Tm) : t.fold f = f t (t.kids.map (fold f)) := by
  cases t with
  | mk k n s v vc vs T tc ts a c l =>
    show f _ _ = f _ _
    congr 1
    show Tm.rec_1 (motive_1 := fun _ => β) (motive_2 := fun _ => List β) _ _ _ l = l.map (fold f)
    induction l with
    | nil => rfl
    | cons x l ih => exact congrArg (x.fold f :: ·) ih
noncomputable def size : Tm → Nat := fold fun _ l => l.sum + 1
theorem size_eq (t : Tm) : t.size = (t.kids.map size).sum + 1 := fold_eq _ t
theorem size_pos (t : Tm) : 0 < t.size := by rw [size_eq]; omega
noncomputable def depth : Tm → Nat := fold fun _ l => l.foldr max 0 + 1
theorem depth_eq (t : Tm) : t.depth = (t.kids.map depth).foldr max 0 + 1 := fold_eq _ t
theorem size_kid {t k : Tm} (h : k ∈ t.kids) : k.size < t.size := by rw [size_eq t]; have := Tree.mem_sum size h; omega
theorem kids_len (t : Tm) : t.kids.length < t.size := by
  rw [size_eq t]
  have : ∀ l : List Tm, l.length ≤ (l.map size).sum := by
    intro l
    induction l with
    | nil => simp
    | cons x l ih => have := size_pos x; simp only [List.length_cons, List.map_cons, List.sum_cons]; omega
  have := this t.kids
  omega
/-- A term without its memory: what it says. -/
inductive Pure where
  | mk (kind n : Int) (name : Str) (vars : List Int) (types : List Ty.Pure) (kids : List Pure) : Pure
noncomputable def pure : Tm → Pure := fold fun t l => .mk t.kind t.n t.name t.vars (t.types.map Ty.pure) l
theorem pure_eq (t : Tm) : t.pure = .mk t.kind t.n t.name t.vars (t.types.map Ty.pure) (t.kids.map pure) := fold_eq _ t
def zero : Tm := .mk 0 0 [] none 0 [] none 0 [] none 0 []
end Tm

def Tm.cells (t : Tm) : List Value := [.int .i64 t.kind, .int .i64 t.n, encStr t.name, .slice t.V t.vars.length t.vc, .slice t.T t.types.length t.tc, .slice t.A t.kids.length t.cap]
def tmC : Coder Tm := ⟨6, Tm.cells, fun _ => rfl, by omega⟩
@[go_sem] def tmV (t : Tm) : Value := .agg #[.int .i64 t.kind, .int .i64 t.n, encStr t.name, .slice t.V t.vars.length t.vc, .slice t.T t.types.length t.tc, .slice t.A t.kids.length t.cap]

/-- What a term says of itself stands in memory. -/
structure TmHd (w : World) (t : Tm) : Prop where
  vle : t.vars.length ≤ t.vc
  vmax : t.vc ≤ 9223372036854775807
  tle : t.types.length ≤ t.tc
  tmax : t.tc ≤ 9223372036854775807
  le : t.kids.length ≤ t.cap
  max : t.cap ≤ 9223372036854775807
  txt : t.name.length ≤ 9223372036854775807
  vars : Ints w t.V t.vars
  types : TysIn w t.T t.types
  row : RowOf tmC w t.A t.kids
/-- A term that stands in memory. -/
inductive TmIn (w : World) : Tm → Prop
  | mk {t : Tm} (hd : TmHd w t) (kids : ∀ k ∈ t.kids, TmIn w k) : TmIn w t
/-- Terms that stand in memory, in a row. -/
structure TmsIn (w : World) (A : Option Addr) (l : List Tm) : Prop where
  row : RowOf tmC w A l
  kids : ∀ k ∈ l, TmIn w k

section
variable {w w' : World} {t : Tm}
theorem TmHd.old (h : TmHd w t) (k : Below w.heap.size w w') : TmHd w' t :=
  ⟨h.vle, h.vmax, h.tle, h.tmax, h.le, h.max, h.txt, Row.old h.vars k.block k.size, h.types.old k, Row.old h.row k.block k.size⟩
theorem TmHd.ext (h : TmHd w t) (k : Ext w w') : TmHd w' t := h.old k.below
theorem TmIn.hd (h : TmIn w t) : TmHd w t := by cases h; assumption
theorem TmIn.all (h : TmIn w t) : TmsIn w t.A t.kids := by cases h with | mk h k => exact ⟨h.row, k⟩
theorem TmIn.old (h : TmIn w t) (k : Below w.heap.size w w') : TmIn w' t := by
  induction h with
  | mk h1 _ ih => exact .mk (h1.old k) ih
theorem TmIn.ext (h : TmIn w t) (k : Ext w w') : TmIn w' t := h.old k.below
theorem TmsIn.old {A : Option Addr} {l : List Tm} (h : TmsIn w A l) (k : Below w.heap.size w w') : TmsIn w' A l := ⟨Row.old h.row k.block k.size, fun x hx => (h.kids x hx).old k⟩
theorem TmsIn.ext {A : Option Addr} {l : List Tm} (h : TmsIn w A l) (k : Ext w w') : TmsIn w' A l := h.old k.below
theorem TmsIn.nil (w : World) (A : Option Addr) : TmsIn w A [] := ⟨RowOf.nil _ _ _, by simp⟩
theorem TmIn.zero (w : World) : TmIn w Tm.zero := .mk ⟨Nat.zero_le _, by decide, Nat.zero_le _, by decide, Nat.zero_le _, by decide, by decide, RowOf.nil _ _ _, TysIn.nil _ _, RowOf.nil _ _ _⟩ (by intro k hk; cases hk)
theorem TmsIn.at_ {A : Option Addr} {l : List Tm} (h : TmsIn w A l) {i : Nat} (hi : i < l.length) :
    ∃ b o, A = some ⟨b, o, none⟩ ∧ b < w.heap.size ∧ w.cell? ⟨b, o + i * 6, none⟩ = some (.int .i64 (l[i]'hi).kind) ∧ w.cell? ⟨b, o + i * 6 + 1, none⟩ = some (.int .i64 (l[i]'hi).n) ∧
      w.cell? ⟨b, o + i * 6 + 2, none⟩ = some (.string ⟨(l[i]'hi).name.toArray⟩) ∧ w.cell? ⟨b, o + i * 6 + 3, none⟩ = some (.slice (l[i]'hi).V (l[i]'hi).vars.length (l[i]'hi).vc) ∧
      w.cell? ⟨b, o + i * 6 + 4, none⟩ = some (.slice (l[i]'hi).T (l[i]'hi).types.length (l[i]'hi).tc) ∧ w.cell? ⟨b, o + i * 6 + 5, none⟩ = some (.slice (l[i]'hi).A (l[i]'hi).kids.length (l[i]'hi).cap) := by
  obtain ⟨b, o, e, hb, hc⟩ := RowOf.at_ tmC h.row hi
  refine ⟨b, o, e, hb, ?_, ?_, ?_, ?_, ?_, ?_⟩
  · have := hc 0 (by decide); simpa [tmC, Tm.cells] using this
  · have := hc 1 (by decide); simpa [tmC, Tm.cells] using this
  · have := hc 2 (by decide); simpa [tmC, Tm.cells] using this
  · have := hc 3 (by decide); simpa [tmC, Tm.cells] using this
  · have := hc 4 (by decide); simpa [tmC, Tm.cells] using this
  · have := hc 5 (by decide); simpa [tmC, Tm.cells] using this
theorem TmsIn.cut {A : Option Addr} {l : List Tm} (h : TmsIn w A l) {k cap : Nat} (hk : k ≤ l.length) (hc : l.length ≤ cap) : TmsIn w (if cap = k then A else A.map (·.add (k * 6))) (l.drop k) :=
  ⟨RowOf.cut tmC h.row hk hc, fun x hx => h.kids x (List.mem_of_mem_drop hx)⟩
theorem TmsIn.take {A : Option Addr} {l : List Tm} (h : TmsIn w A l) {k : Nat} (hk : k ≤ l.length) : TmsIn w A (l.take k) :=
  ⟨RowOf.take tmC h.row hk, fun x hx => h.kids x (List.mem_of_mem_take hx)⟩
end

/-! ### Away from a block -/
def OffB (c : Nat) (A : Option Addr) (n : Nat) : Prop := n ≠ 0 → ∀ a, A = some a → a.block ≠ c
theorem OffB.new {w : World} {A : Option Addr} {k n c : Nat} {l : List Value} (h : Row w A k n l) (hc : w.heap.size ≤ c) : OffB c A n := by
  intro hn a ha
  obtain ⟨b, o, e, hb, -⟩ := h.2 (by omega)
  subst ha
  injection e with e
  subst e
  show b ≠ c
  omega
/-- No part of a term lies in block c. -/
inductive AwayM (c : Nat) : Tm → Prop
  | mk {t : Tm} (v : OffB c t.V t.vars.length) (ty : OffB c t.T t.types.length) (tys : ∀ x ∈ t.types, awayB c x = true) (k : OffB c t.A t.kids.length) (kids : ∀ k ∈ t.kids, AwayM c k) : AwayM c t
section
variable {w w' : World} {t : Tm} {c : Nat}
theorem AwayM.v (h : AwayM c t) : OffB c t.V t.vars.length := by cases h; assumption
theorem AwayM.ty (h : AwayM c t) : OffB c t.T t.types.length := by cases h; assumption
theorem AwayM.tys (h : AwayM c t) : ∀ x ∈ t.types, awayB c x = true := by cases h; assumption
theorem AwayM.k (h : AwayM c t) : OffB c t.A t.kids.length := by cases h; assumption
theorem AwayM.kids (h : AwayM c t) : ∀ k ∈ t.kids, AwayM c k := by cases h; assumption
theorem awayM_new (h : TmIn w t) (hc : w.heap.size ≤ c) : AwayM c t := by
  induction h with
  | mk h _ ih => exact .mk (OffB.new h.vars hc) (OffB.new h.types.row hc) (fun x hx => away_new (h.types.args x hx) hc) (OffB.new h.row hc) ih
theorem TmIn.grown {row : Option Nat} (h : TmIn w t) (hg : w.grownBy w' row) (ha : ∀ c, row = some c → AwayM c t) : TmIn w' t := by
  induction h with
  | mk h _ ih =>
    refine .mk ⟨h.vle, h.vmax, h.tle, h.tmax, h.le, h.max, h.txt, row_grown h.vars hg (fun hn a hA e => (ha _ e).v hn a hA rfl), ⟨row_grown h.types.row hg (fun hn a hA e => (ha _ e).ty hn a hA rfl), fun x hx => (h.types.args x hx).grown hg (fun c e => (ha c e).tys x hx)⟩, row_grown h.row hg (fun hn a hA e => (ha _ e).k hn a hA rfl)⟩ (fun k hk => ih k hk (fun c e => (ha c e).kids k hk))
end

noncomputable def msizes (l : List Tm) : Nat := (l.map Tm.size).sum
theorem msizes_snoc (l : List Tm) (t : Tm) : msizes (l ++ [t]) = msizes l + t.size := by simp [msizes]
theorem msizes_take (l : List Tm) {k : Nat} (h : k < l.length) : msizes (l.take (k + 1)) = msizes (l.take k) + (l[k]'h).size := by rw [List.take_succ_eq_append_getElem h, msizes_snoc]
theorem msizes_le (l : List Tm) (k : Nat) : msizes (l.take k) ≤ msizes l := by
  have : msizes l = msizes (l.take k) + msizes (l.drop k) := by unfold msizes; rw [← List.sum_append, ← List.map_append, List.take_append_drop]
  omega

/-! ### The same -/
noncomputable def sameM (a b : Tm) : Bool := @decide (a.pure = b.pure) (Classical.propDecidable _)
theorem sameM_iff {a b : Tm} : sameM a b = true ↔ a.pure = b.pure := by unfold sameM; exact @decide_eq_true_iff _ (Classical.propDecidable _)
noncomputable def allSame {α : Type} (f : α → α → Bool) (l m : List α) : Bool := decide (l.length = m.length) && (l.zip m).all fun p => f p.1 p.2
theorem allSame_iff {α β : Type} (f : α → α → Bool) (g : α → β) (h : ∀ a b, f a b = true ↔ g a = g b) (l m : List α) : allSame f l m = true ↔ l.map g = m.map g := by
  unfold allSame
  rw [Bool.and_eq_true, decide_eq_true_eq, List.all_eq_true]
  induction l generalizing m with
  | nil => cases m <;> simp
  | cons x l ih =>
    cases m with
    | nil => simp
    | cons y m =>
      simp only [List.length_cons, Nat.add_right_cancel_iff, List.zip_cons_cons, List.mem_cons, forall_eq_or_imp, List.map_cons, List.cons.injEq]
      rw [← ih, h]
      exact ⟨fun ⟨h1, h2, h3⟩ => ⟨h2, h1, h3⟩, fun ⟨h2, h1, h3⟩ => ⟨h1, h2, h3⟩⟩
theorem sameM_parts (a b : Tm) : sameM a b = (decide (a.kind = b.kind) && decide (a.n = b.n) && decide (a.name = b.name) && decide (a.vars = b.vars) && allSame sameB a.types b.types && allSame sameM a.kids b.kids) := by
  rw [Bool.eq_iff_iff, sameM_iff, Tm.pure_eq a, Tm.pure_eq b]
  simp only [Bool.and_eq_true, decide_eq_true_eq, Tm.Pure.mk.injEq]
  rw [allSame_iff sameB Ty.pure (fun _ _ => sameB_iff), allSame_iff sameM Tm.pure (fun _ _ => sameM_iff)]
  constructor
  · rintro ⟨h1, h2, h3, h4, h5, h6⟩; exact ⟨⟨⟨⟨⟨h1, h2⟩, h3⟩, h4⟩, h5⟩, h6⟩
  · rintro ⟨⟨⟨⟨⟨h1, h2⟩, h3⟩, h4⟩, h5⟩, h6⟩; exact ⟨h1, h2, h3, h4, h5, h6⟩

end Go.Proofs.YtifbkknijialgaaGreat

/- Arguments that are terms, opened. -/
namespace Go.Proofs.YtifbkknijialgaaGreat
open Go.RowKit Go.ChangeShapes Go.WideShapes Go.Deep

section
variable {H : Type} {enc : TypeId × Value → H} {w : World} {base : Nat} {spare : Nat → Bool} {held : Bool}
theorem open_rowsZ {α : Type} (C : Coder α) (Q : α → Prop) {t e : TypeId} (ht : Tryz.prog.underlying t = some (.slice e)) (hC : Tryz.prog.cellsOf e = C.k)
    (he : ∀ n cs x, DataW.trod enc Tryz.prog w base spare held n e cs = some x → Sized Tryz.prog e x.1 → ∃ a, cs = C.f a ∧ Q a)
    {v : Value} {d : DataW H} {p : List MemPlace} (h : DataW.Trod enc Tryz.prog w base spare held t v d p) (hv : ∃ a n c, v = .slice a n c) (hz : Sized Tryz.prog t d) :
    ∃ (A : Option Addr) (cap : Nat) (xs : List α), v = .slice A xs.length cap ∧ xs.length ≤ cap ∧ cap ≤ 9223372036854775807 ∧ RowOf C w A xs ∧ ∀ x ∈ xs, Q x := by
  obtain ⟨a, n, c, rfl⟩ := hv
  obtain ⟨fuel, hf'⟩ := h
  have hf'' : DataW.trod enc Tryz.prog w base spare held fuel t [.slice a n c] = some (d, p) := by simpa [Value.cells] using hf'
  obtain ⟨A, c', xs, e, h1, h2, h3, h4, -⟩ := open_cellsZ C Q ht hC (fun m _ cs x hh => he m cs x hh) hf'' hz
  exact ⟨A, c', xs, e, h1, h2, h3, h4⟩
theorem term_reads : ∀ (fuel : Nat) (cs : List Value) (x : DataW H × List MemPlace), DataW.trod enc Tryz.prog w base spare held fuel 50 cs = some x → Sized Tryz.prog 50 x.1 → ∃ t : Tm, cs = tmC.f t ∧ TmIn w t := by
  intro fuel
  induction fuel using Nat.strongRecOn with
  | ind fuel IH =>
  intro cs x h hz
  obtain ⟨hl, n, hn, hf⟩ := fields_oneZ Tryz.underlying50 (by kernel_rfl) (by kernel_rfl) h
  obtain ⟨v0, y0, e0, r0, z0⟩ := hf 0 _ rfl
  obtain ⟨v1, y1, e1, r1, z1⟩ := hf 1 _ rfl
  obtain ⟨v2, y2, e2, r2, z2⟩ := hf 2 _ rfl
  obtain ⟨v3, y3, e3, r3, z3⟩ := hf 3 _ rfl
  obtain ⟨v4, y4, e4, r4, z4⟩ := hf 4 _ rfl
  obtain ⟨v5, y5, e5, r5, z5⟩ := hf 5 _ rfl
  obtain ⟨k, q0, -⟩ := int_reads Tryz.underlying3 _ _ _ r0
  obtain ⟨m, q1, -⟩ := int_reads Tryz.underlying3 _ _ _ r1
  obtain ⟨s, q2, hs⟩ := str_readsZ Tryz.underlying9 _ _ _ r2 (z2 hz)
  obtain ⟨V, vc, vs, q3, a1, a2, a3, -, -⟩ := open_cellsZ intC (fun _ : Int => True) Tryz.underlying30 (by kernel_rfl) (fun m hm cs x hh _ => by
    obtain ⟨a, qa, -⟩ := int_reads Tryz.underlying3 _ _ _ hh
    exact ⟨a, qa, trivial⟩) r3 (z3 hz)
  obtain ⟨T, tc, ts, q4, b1, b2, b3, b4, -⟩ := open_cellsZ tyC (fun t => TyIn w t ∧ okI t = true) Tryz.underlying23 (by kernel_rfl) (fun m hm cs x hh => type_reads m cs x hh) r4 (z4 hz)
  obtain ⟨A, cp, ks, q5, c1, c2, c3, c4, -⟩ := open_cellsZ tmC (fun t => TmIn w t) Tryz.underlying45 (by kernel_rfl) (fun m hm cs x hh => IH m (by omega) cs x hh) r5 (z5 hz)
  simp only [List.cons.injEq, and_true, strC] at q0 q1 q2
  subst q0 q1 q2 q3 q4 q5
  refine ⟨.mk k m s V vc vs T tc ts A cp ks, ?_, .mk ⟨a1, a2, b1, b2, c1, c2, Nat.le_trans hs (by decide), a3, ⟨b3, fun x hx => (b4 x hx).1⟩, c3⟩ c4⟩
  match cs, hl with
  | [x0, x1, x2, x3, x4, x5], _ =>
    simp only [List.getElem?_cons_zero, List.getElem?_cons_succ, Option.some.injEq] at e0 e1 e2 e3 e4 e5
    subst e0 e1 e2 e3 e4 e5
    rfl
theorem open_term {v : Value} {d : DataW H} {p : List MemPlace} (h : DataW.Trod enc Tryz.prog w base spare held 50 v d p) (hv : ∃ cs, v = .agg cs) (hz : Sized Tryz.prog 50 d) : ∃ t : Tm, v = tmV t ∧ TmIn w t := by
  obtain ⟨arr, rfl⟩ := hv
  obtain ⟨fuel, hf⟩ := h
  obtain ⟨t, e, ht⟩ := term_reads fuel _ _ hf hz
  refine ⟨t, ?_, ht⟩
  have e1 : arr.toList = tmC.f t := by simpa [Value.cells] using e
  have e2 : arr = (tmC.f t).toArray := by rw [← e1]
  rw [e2]
  rfl
theorem open_terms {v : Value} {d : DataW H} {p : List MemPlace} (h : DataW.Trod enc Tryz.prog w base spare held 45 v d p) (hv : ∃ a n c, v = .slice a n c) (hz : Sized Tryz.prog 45 d) :
    ∃ (A : Option Addr) (cap : Nat) (l : List Tm), v = .slice A l.length cap ∧ l.length ≤ cap ∧ cap ≤ 9223372036854775807 ∧ TmsIn w A l := by
  obtain ⟨A, cap, l, e, h1, h2, h3, h4⟩ := open_rowsZ tmC (fun t => TmIn w t) Tryz.underlying45 (by kernel_rfl) (fun n cs x hh => term_reads n cs x hh) h hv hz
  exact ⟨A, cap, l, e, h1, h2, ⟨h3, h4⟩⟩
theorem open_types {v : Value} {d : DataW H} {p : List MemPlace} (h : DataW.Trod enc Tryz.prog w base spare held 23 v d p) (hv : ∃ a n c, v = .slice a n c) (hz : Sized Tryz.prog 23 d) :
    ∃ (A : Option Addr) (cap : Nat) (l : List Ty), v = .slice A l.length cap ∧ l.length ≤ cap ∧ cap ≤ 9223372036854775807 ∧ TysIn w A l := by
  obtain ⟨A, cap, l, e, h1, h2, h3, h4⟩ := open_rowsZ tyC (fun t => TyIn w t ∧ okI t = true) Tryz.underlying23 (by kernel_rfl) (fun n cs x hh => type_reads n cs x hh) h hv hz
  exact ⟨A, cap, l, e, h1, h2, ⟨h3, fun x hx => (h4 x hx).1⟩⟩
end

end Go.Proofs.YtifbkknijialgaaGreat

/- Terms in boxes; lambdas and applications in memory. -/
namespace Go.Proofs.YtifbkknijialgaaGreat
open Go.RowKit

/-- A term in a box. -/
def TmBox (w : World) (b : Nat) (t : Tm) : Prop := w.heap[b]? = some (.cells #[.int .i64 t.kind, .int .i64 t.n, encStr t.name, .slice t.V t.vars.length t.vc, .slice t.T t.types.length t.tc, .slice t.A t.kids.length t.cap] 50 (0, 0))
section
variable {w w' : World} {b : Nat} {t : Tm}
theorem TmBox.new (w : World) (t : Tm) : TmBox (w.alloc (.cells #[.int .i64 t.kind, .int .i64 t.n, encStr t.name, .slice t.V t.vars.length t.vc, .slice t.T t.types.length t.tc, .slice t.A t.kids.length t.cap] 50)) w.heap.size t := at_newB _ _ _ rfl
theorem TmBox.lt (h : TmBox w b t) : b < w.heap.size := lt_of_obj h
theorem TmBox.ext (h : TmBox w b t) (e : Ext w w') : TmBox w' b t := (e.heap h.lt).trans h
theorem TmBox.cells (h : TmBox w b t) : w.cell? ⟨b, 0, none⟩ = some (.int .i64 t.kind) ∧ w.cell? ⟨b, 1, none⟩ = some (.int .i64 t.n) ∧ w.cell? ⟨b, 2, none⟩ = some (.string ⟨t.name.toArray⟩) ∧ w.cell? ⟨b, 3, none⟩ = some (.slice t.V t.vars.length t.vc) ∧ w.cell? ⟨b, 4, none⟩ = some (.slice t.T t.types.length t.tc) ∧ w.cell? ⟨b, 5, none⟩ = some (.slice t.A t.kids.length t.cap) :=
  ⟨bytes_block h 0, bytes_block h 1, bytes_block h 2, bytes_block h 3, bytes_block h 4, bytes_block h 5⟩
theorem TmBox.free (h : TmBox w b t) (i : Nat) : w.frozen? ⟨b, i, none⟩ = false := free_block h i
theorem TmBox.frees (h : TmBox w b t) : w.frozen? ⟨b, 0, none⟩ = false ∧ w.frozen? ⟨b, 1, none⟩ = false ∧ w.frozen? ⟨b, 2, none⟩ = false ∧ w.frozen? ⟨b, 3, none⟩ = false ∧ w.frozen? ⟨b, 4, none⟩ = false ∧ w.frozen? ⟨b, 5, none⟩ = false :=
  ⟨h.free 0, h.free 1, h.free 2, h.free 3, h.free 4, h.free 5⟩
theorem TmBox.kept {row : Option Nat} (h : TmBox w b t) (hg : w.grownBy w' row) (hb : row ≠ some b) : TmBox w' b t := (hg.block b h.lt (fun e => hb e.symm)).trans h
end
/-- A term is written into a box. -/
def putTm (w : World) (b : Nat) (t : Tm) : World :=
  (((((w.setCell ⟨b, 0, none⟩ (.int .i64 t.kind)).setCell ⟨b, 1, none⟩ (.int .i64 t.n)).setCell ⟨b, 2, none⟩ (.string ⟨t.name.toArray⟩)).setCell ⟨b, 3, none⟩ (.slice t.V t.vars.length t.vc)).setCell ⟨b, 4, none⟩ (.slice t.T t.types.length t.tc)).setCell ⟨b, 5, none⟩ (.slice t.A t.kids.length t.cap)
theorem grown_tr {a b c : World} {row : Option Nat} (h : a.grownBy b row) (k : b.grownBy c row) : a.grownBy c row := ⟨k.os.trans h.os, k.tape.trans h.tape, k.output.trans h.output, Nat.le_trans h.size k.size, fun j hj hne => (k.block j (Nat.lt_of_lt_of_le hj h.size) hne).trans (h.block j hj hne)⟩
theorem putTm_grown (w : World) (b : Nat) (t : Tm) : w.grownBy (putTm w b t) (some b) :=
  grown_tr (grown_tr (grown_tr (grown_tr (grown_tr (grown_cell _ _ _ _) (grown_cell _ _ _ _)) (grown_cell _ _ _ _)) (grown_cell _ _ _ _)) (grown_cell _ _ _ _)) (grown_cell _ _ _ _)
theorem putTm_size (w : World) (b : Nat) (t : Tm) : (putTm w b t).heap.size = w.heap.size := by simp [putTm, World.setCell]
theorem putTm_box {w : World} {b : Nat} (t : Tm) {v0 v1 v2 v3 v4 v5 : Value} (h : w.heap[b]? = some (.cells #[v0, v1, v2, v3, v4, v5] 50 (0, 0))) : TmBox (putTm w b t) b t := by
  have := blk_setCell (blk_setCell (blk_setCell (blk_setCell (blk_setCell (blk_setCell h 0 (.int .i64 t.kind)) 1 (.int .i64 t.n)) 2 (.string ⟨t.name.toArray⟩)) 3 (.slice t.V t.vars.length t.vc)) 4 (.slice t.T t.types.length t.tc)) 5 (.slice t.A t.kids.length t.cap)
  unfold putTm TmBox
  simpa using this
theorem putTm_ext {W w : World} {b : Nat} (h : Ext W w) (hb : W.heap.size ≤ b) (t : Tm) : Ext W (putTm w b t) := h.grown (putTm_grown w b t) (fun c e => by injection e with e; omega)

/-! ### Lambdas and applications -/
def lamT (s : Str) (x : Ty) (t : Tm) (g k : Nat) : Tm := .mk 3 0 s none 0 [] (some ⟨g, 0, none⟩) 1 [x] (some ⟨k, 0, none⟩) 1 [t]
def lamP (s : Str) (x : Ty.Pure) (t : Tm.Pure) : Tm.Pure := .mk 3 0 s [] [x] [t]
theorem lamT_pure (s : Str) (x : Ty) (t : Tm) (g k : Nat) : (lamT s x t g k).pure = lamP s x.pure t.pure := by rw [Tm.pure_eq]; rfl
theorem lamT_in {w : World} {s : Str} {x : Ty} {t : Tm} {g k : Nat} (hs : s.length ≤ 9223372036854775807) (hx : TyIn w x) (ht : TmIn w t) (hg : TBox w g x) (hk : TmBox w k t) : TmIn w (lamT s x t g k) :=
  .mk ⟨Nat.le_refl _, Nat.zero_le _, by simp [lamT, Tm.types, Tm.tc], (by show 1 ≤ _; omega), by simp [lamT, Tm.kids, Tm.cap], (by show 1 ≤ _; omega), hs, RowOf.nil _ _ _,
    ⟨RowOf.block tyC [x] (by simpa [tyC, Ty.cells, TBox] using hg), fun y hy => by simp [lamT, Tm.types] at hy; subst hy; exact hx⟩,
    RowOf.block tmC [t] (by simpa [tmC, Tm.cells, TmBox] using hk)⟩ (fun y hy => by simp [lamT, Tm.kids] at hy; subst hy; exact ht)
theorem lamT_away {c : Nat} {s : Str} {x : Ty} {t : Tm} {g k : Nat} (hg : g ≠ c) (hk : k ≠ c) (hx : awayB c x = true) (ht : AwayM c t) : AwayM c (lamT s x t g k) :=
  .mk (fun h => absurd rfl h) (fun _ a e => by injection e with e; subst e; exact hg) (fun y hy => by simp [lamT, Tm.types] at hy; subst hy; exact hx)
    (fun _ a e => by injection e with e; subst e; exact hk) (fun y hy => by simp [lamT, Tm.kids] at hy; subst hy; exact ht)
def appT (a b : Tm) (g : Nat) : Tm := .mk 4 0 [] none 0 [] none 0 [] (some ⟨g, 0, none⟩) 2 [a, b]
def appP (a b : Tm.Pure) : Tm.Pure := .mk 4 0 [] [] [] [a, b]
theorem appT_pure (a b : Tm) (g : Nat) : (appT a b g).pure = appP a.pure b.pure := by rw [Tm.pure_eq]; rfl
theorem appT_in {w : World} {a b : Tm} {g : Nat} (ha : TmIn w a) (hb : TmIn w b) (h : w.heap[g]? = some (.cells ([a, b].flatMap tmC.f).toArray 50 (0, 0))) : TmIn w (appT a b g) :=
  .mk ⟨Nat.le_refl _, Nat.zero_le _, Nat.le_refl _, Nat.zero_le _, by simp [appT, Tm.kids, Tm.cap], (by show 2 ≤ _; omega), Nat.zero_le _, RowOf.nil _ _ _, TysIn.nil _ _, RowOf.block tmC [a, b] h⟩ (fun y hy => by
    simp [appT, Tm.kids] at hy
    rcases hy with rfl | rfl
    · exact ha
    · exact hb)
theorem appT_away {c : Nat} {a b : Tm} {g : Nat} (hg : g ≠ c) (ha : AwayM c a) (hb : AwayM c b) : AwayM c (appT a b g) :=
  .mk (fun h => absurd rfl h) (fun h => absurd rfl h) (by simp [appT, Tm.types]) (fun _ x e => by injection e with e; subst e; exact hg) (fun y hy => by
    simp [appT, Tm.kids] at hy
    rcases hy with rfl | rfl
    · exact ha
    · exact hb)
noncomputable def lamsP (l : List (Str × Ty)) (t : Tm.Pure) : Tm.Pure := l.foldr (fun p q => lamP p.1 p.2.pure q) t
theorem lamsP_drop (l : List (Str × Ty)) (t : Tm.Pure) {k : Nat} (h : k < l.length) : lamsP (l.drop k) t = lamP (l[k]'h).1 (l[k]'h).2.pure (lamsP (l.drop (k + 1)) t) := by
  rw [List.drop_eq_getElem_cons h]; rfl
noncomputable def appsP (f : Tm.Pure) (l : List Tm) : Tm.Pure := l.foldl (fun f x => appP f x.pure) f
theorem appsP_take (f : Tm.Pure) (l : List Tm) {k : Nat} (h : k < l.length) : appsP f (l.take (k + 1)) = appP (appsP f (l.take k)) (l[k]'h).pure := by
  unfold appsP
  rw [List.take_succ_eq_append_getElem h, List.foldl_append]
  rfl

end Go.Proofs.YtifbkknijialgaaGreat

/- Contracts of Go's package slices on rows of types, and of terms: whether one is there. -/
namespace Go.Proofs.YtifbkknijialgaaGreat
open Go.RowKit Go.Shelf

set_option maxRecDepth 10000 in
set_option maxHeartbeats 2000000 in
theorem index_ft (f : FuncId) (lb : Array Value) (ef : Opens f) (p : Ty → Bool) (A : Option Addr) (cap : Nat) (l : List Ty) (w : World) (h : TysIn w A l) (hl : l.length ≤ 1000000) (hp : ∀ w', Ext w w' → ∀ x ∈ l, Calls Tryz.prog f (#[tyV x] ++ lb) w' fun e w'' => e = .returned (.bool (p x)) ∧ Ext w' w'') :
    Calls Tryz.prog 215 #[.slice A l.length cap, .func (.func f) #[] lb] w fun e w' => (∃ i : Int, e = .returned (.int .i64 i) ∧ (0 ≤ i ↔ l.any p = true)) ∧ Ext w w' := by
  have HL := hide h
  have HP := hide hp
  unfold Opens at ef
  clear h hp
  obtain ⟨R, hR⟩ : ∃ R, R = l.any p := ⟨_, rfl⟩
  have HR := hide hR
  rw [← hR]
  clear hR
  go_enter Tryz.func215, Tryz.ntmps215
  go_wp2
  go_loopw [8] (fun i wr => ∃ k : Nat, k ≤ l.length ∧ i = .int .i64 k ∧ Hid ((l.take k).any p = false) ∧ Hid (Ext w wr)) (fun i _ => l.length - (intOf i).toNat)
  case atStart => exact ⟨0, Nat.zero_le _, rfl, hide (by simp), hide (Ext.refl _)⟩
  case round =>
    obtain ⟨k, hk, rfl, HA, HX⟩ := hrel
    by_cases hlt : k < l.length
    · have hlt' : (k : Int) < (l.length : Int) := by omega
      have hk0 : (0 : Int) ≤ (k : Int) := by omega
      obtain ⟨b, o, rfl, hb, q0, q1, q2⟩ := (HL.out.ext HX.out).at_ hlt
      have hm := List.getElem_mem hlt
      have HC := hide (HP.out wr HX.out _ hm)
      have Htk : Hid (l.take (k + 1) = l.take k ++ [l[k]'hlt]) := hide (List.take_succ_eq_append_getElem hlt)
      have Hm := hide hm
      clear hm
      unfold tyV at HC
      generalize l[k]'hlt = x at *
      cases hb : p x
      · rw [hb] at HC
        have Hb := hide hb
        clear hb
        go_wp2_with fail
        refine HC.out.mono ?_
        rintro e w3 ⟨rfl, hx⟩
        have X3 := hide (HX.out.trans hx)
        clear hx
        go_wp2
        go_roundw
        case rel => exact ⟨k + 1, hlt, by go_num, hide (by rw [Htk.out, List.any_append, HA.out]; simpa using Hb.out), X3⟩
        case measure => simp [intOf]; omega
      · rw [hb] at HC
        have HN : Hid (R = true) := hide (by rw [HR.out, List.any_eq_true]; exact ⟨x, Hm.out, hb⟩)
        clear hb
        go_wp2_with fail
        refine HC.out.mono ?_
        rintro e w3 ⟨rfl, hx⟩
        go_wp2
        go_ret
        exact ⟨⟨(k : Int), rfl, by rw [HN.out]; simp⟩, HX.out.trans hx⟩
    · have hge : ¬ (k : Int) < (l.length : Int) := by omega
      have HN : Hid (R = false) := hide (by rw [HR.out]; have := HA.out; rwa [List.take_of_length_le (by omega)] at this)
      go_wp2
      go_ret
      exact ⟨⟨-1, rfl, by rw [HN.out]; simp⟩, HX.out⟩

set_option maxRecDepth 10000 in
set_option maxHeartbeats 1000000 in
theorem has_ft (f : FuncId) (lb : Array Value) (ef : Opens f) (p : Ty → Bool) (A : Option Addr) (cap : Nat) (l : List Ty) (w : World) (h : TysIn w A l) (hl : l.length ≤ 1000000) (hp : ∀ w', Ext w w' → ∀ x ∈ l, Calls Tryz.prog f (#[tyV x] ++ lb) w' fun e w'' => e = .returned (.bool (p x)) ∧ Ext w' w'') :
    Calls Tryz.prog 168 #[.slice A l.length cap, .func (.func f) #[] lb] w fun e w' => e = .returned (.bool (l.any p)) ∧ Ext w w' := by
  have HI := hide (index_ft f lb ef p A cap l w h hl hp)
  clear h hp
  generalize l.any p = R at *
  go_enter Tryz.func168, Tryz.ntmps168
  go_wp2_with fail
  refine HI.out.mono ?_
  rintro e w2 ⟨⟨i, rfl, hi⟩, hx⟩
  have HR : Hid (decide ((0 : Int) ≤ i) = R) := hide (by cases R <;> simp_all)
  have X := hide hx
  clear hi hx
  go_wp2
  go_ret
  exact ⟨by first | rfl | (rw [← HR.out]; rfl), X.out⟩

set_option maxRecDepth 10000 in
set_option maxHeartbeats 2000000 in
theorem index_fm (f : FuncId) (lb : Array Value) (ef : Opens f) (p : Tm → Bool) (A : Option Addr) (cap : Nat) (l : List Tm) (w : World) (h : TmsIn w A l) (hl : l.length ≤ 1000000) (hp : ∀ w', Ext w w' → ∀ x ∈ l, Calls Tryz.prog f (#[tmV x] ++ lb) w' fun e w'' => e = .returned (.bool (p x)) ∧ Ext w' w'') :
    Calls Tryz.prog 170 #[.slice A l.length cap, .func (.func f) #[] lb] w fun e w' => (∃ i : Int, e = .returned (.int .i64 i) ∧ (0 ≤ i ↔ l.any p = true)) ∧ Ext w w' := by
  have HL := hide h
  have HP := hide hp
  unfold Opens at ef
  clear h hp
  obtain ⟨R, hR⟩ : ∃ R, R = l.any p := ⟨_, rfl⟩
  have HR := hide hR
  rw [← hR]
  clear hR
  go_enter Tryz.func170, Tryz.ntmps170
  go_wp2
  go_loopw [8] (fun i wr => ∃ k : Nat, k ≤ l.length ∧ i = .int .i64 k ∧ Hid ((l.take k).any p = false) ∧ Hid (Ext w wr)) (fun i _ => l.length - (intOf i).toNat)
  case atStart => exact ⟨0, Nat.zero_le _, rfl, hide (by simp), hide (Ext.refl _)⟩
  case round =>
    obtain ⟨k, hk, rfl, HA, HX⟩ := hrel
    by_cases hlt : k < l.length
    · have hlt' : (k : Int) < (l.length : Int) := by omega
      have hk0 : (0 : Int) ≤ (k : Int) := by omega
      obtain ⟨b, o, rfl, hb, q0, q1, q2, q3, q4, q5⟩ := (HL.out.ext HX.out).at_ hlt
      have hm := List.getElem_mem hlt
      have HC := hide (HP.out wr HX.out _ hm)
      have Htk : Hid (l.take (k + 1) = l.take k ++ [l[k]'hlt]) := hide (List.take_succ_eq_append_getElem hlt)
      have Hm := hide hm
      clear hm
      unfold tmV at HC
      generalize l[k]'hlt = x at *
      cases hb : p x
      · rw [hb] at HC
        have Hb := hide hb
        clear hb
        go_wp2_with fail
        refine HC.out.mono ?_
        rintro e w3 ⟨rfl, hx⟩
        have X3 := hide (HX.out.trans hx)
        clear hx
        go_wp2
        go_roundw
        case rel => exact ⟨k + 1, hlt, by go_num, hide (by rw [Htk.out, List.any_append, HA.out]; simpa using Hb.out), X3⟩
        case measure => simp [intOf]; omega
      · rw [hb] at HC
        have HN : Hid (R = true) := hide (by rw [HR.out, List.any_eq_true]; exact ⟨x, Hm.out, hb⟩)
        clear hb
        go_wp2_with fail
        refine HC.out.mono ?_
        rintro e w3 ⟨rfl, hx⟩
        go_wp2
        go_ret
        exact ⟨⟨(k : Int), rfl, by rw [HN.out]; simp⟩, HX.out.trans hx⟩
    · have hge : ¬ (k : Int) < (l.length : Int) := by omega
      have HN : Hid (R = false) := hide (by rw [HR.out]; have := HA.out; rwa [List.take_of_length_le (by omega)] at this)
      go_wp2
      go_ret
      exact ⟨⟨-1, rfl, by rw [HN.out]; simp⟩, HX.out⟩

set_option maxRecDepth 10000 in
set_option maxHeartbeats 1000000 in
theorem has_fm (f : FuncId) (lb : Array Value) (ef : Opens f) (p : Tm → Bool) (A : Option Addr) (cap : Nat) (l : List Tm) (w : World) (h : TmsIn w A l) (hl : l.length ≤ 1000000) (hp : ∀ w', Ext w w' → ∀ x ∈ l, Calls Tryz.prog f (#[tmV x] ++ lb) w' fun e w'' => e = .returned (.bool (p x)) ∧ Ext w' w'') :
    Calls Tryz.prog 120 #[.slice A l.length cap, .func (.func f) #[] lb] w fun e w' => e = .returned (.bool (l.any p)) ∧ Ext w w' := by
  have HI := hide (index_fm f lb ef p A cap l w h hl hp)
  clear h hp
  generalize l.any p = R at *
  go_enter Tryz.func120, Tryz.ntmps120
  go_wp2_with fail
  refine HI.out.mono ?_
  rintro e w2 ⟨⟨i, rfl, hi⟩, hx⟩
  have HR : Hid (decide ((0 : Int) ≤ i) = R) := hide (by cases R <;> simp_all)
  have X := hide hx
  clear hi hx
  go_wp2
  go_ret
  exact ⟨by first | rfl | (rw [← HR.out]; rfl), X.out⟩

end Go.Proofs.YtifbkknijialgaaGreat

/- A scheme's type is alike itself. No program in sight. -/
namespace Go.Proofs.YtifbkknijialgaaGreat
open Go.RowKit

/-- How great is what a type says? -/
noncomputable def szP (p : Ty.Pure) : Nat :=
  Ty.Pure.rec (motive_1 := fun _ => Nat) (motive_2 := fun _ => Nat) (fun _ _ _ r => r + 1) 0 (fun _ _ a b => a + b) p
theorem szP_eq (c : Str) (v : Int) (l : List Ty.Pure) : szP (.mk c v l) = (l.map szP).sum + 1 := by
  show Ty.Pure.rec_1 (motive_1 := fun _ => Nat) (motive_2 := fun _ => Nat) _ _ _ l + 1 = _
  congr 1
  induction l with
  | nil => rfl
  | cons x l ih => rw [List.map_cons, List.sum_cons, ← ih]; rfl
theorem size_pure (t : Ty) : t.size = szP t.pure := by
  induction t using Ty.ind with
  | h t ih =>
    rw [Ty.size_eq, Ty.pure_eq, szP_eq, List.map_map]
    congr 2
    exact List.map_congr_left ih
/-- Has no variable args? -/
inductive POk : Ty.Pure → Prop where
  | mk {c : Str} {v : Int} {l : List Ty.Pure} (h : c = [] → l = []) (h2 : ∀ x ∈ l, POk x) : POk (.mk c v l)
theorem pok_shape (t : Ty) (h : shapeT t = true) : POk t.pure := by
  induction t using Ty.ind with
  | h t ih =>
    unfold shapeT at h ih
    rw [allB_eq, Bool.and_eq_true, List.all_eq_true] at h
    rw [Ty.pure_eq]
    refine .mk (fun hc => ?_) (fun x hx => ?_)
    · have h1 := h.1
      rw [hc] at h1
      unfold headOk at h1
      simp at h1
      simp [h1]
    · obtain ⟨k, hk, rfl⟩ := List.mem_map.1 hx
      exact ih k hk (h.2 k hk)
theorem put_self (vars : List Int) (t : Ty) (h : POk t.pure) : putP vars (vars.map varT) t = t.pure := by
  induction t using Ty.ind with
  | h t ih =>
    rw [Ty.pure_eq] at h
    cases h with
    | mk h1 h2 =>
      rw [putP_eq]
      split
      · rename_i hc
        have hl : t.args = [] := by have := h1 hc; simpa using this
        unfold putAt
        split
        · rename_i hi
          have hany : vars.any (· == t.var) = true := by rw [← idxI_ge vars t.var]; exact decide_eq_true hi
          have e : idxI vars t.var = ((vars.findIdx (· == t.var) : Nat) : Int) := by unfold idxI; rw [if_pos hany]
          obtain ⟨x, hx, hxe⟩ := List.any_eq_true.1 hany
          have hlt : vars.findIdx (· == t.var) < vars.length := List.findIdx_lt_length_of_exists ⟨x, hx, hxe⟩
          have hat := List.findIdx_getElem (w := hlt)
          rw [e]
          have hat2 : vars[vars.findIdx (· == t.var)]'hlt = t.var := by simpa using hat
          rw [Int.toNat_natCast, List.getElem?_map, List.getElem?_eq_getElem hlt, hat2]
          show (varT t.var).pure = _
          rw [Ty.pure_eq, Ty.pure_eq t, hl, hc]
          rfl
        · rfl
      · rw [Ty.pure_eq t]
        congr 1
        exact List.map_congr_left (fun k hk => ih k hk (h2 _ (List.mem_map.2 ⟨k, hk, rfl⟩)))
theorem range_nodup (m : Nat) : (rangeI m).Nodup := by
  unfold rangeI
  exact List.pairwise_map.2 (List.nodup_range.imp (fun h e => h (by omega)))
theorem alike_self (p : Po) (hv : p.vars.Nodup) (ht : POk p.ty.pure) : alikeP p p = true := by
  have hm : meetsI p.vars (freeL p) = false := by
    unfold meetsI freeL
    rw [List.any_eq_false]
    intro v hv
    have h2 := (List.mem_filter.1 hv).2
    simp at h2 ⊢
    exact fun hh => h2 v hh rfl
  unfold alikeP eqP
  rw [hm, put_self p.vars p.ty ht]
  simp [hv]
theorem pok_fun (l : List Ty.Pure) (q : Ty.Pure) (hl : ∀ x ∈ l, POk x) (hq : POk q) : POk (funPP l q) := by
  induction l with
  | nil => exact hq
  | cons x l ih =>
    refine .mk (fun h => by cases h) (fun y hy => ?_)
    simp at hy
    rcases hy with rfl | rfl
    · exact hl y (by simp)
    · exact ih (fun z hz => hl z (by simp [hz]))
theorem pok_of (s : Sc) : POk (ofTyP s) := by
  unfold ofTyP
  split
  · rename_i h
    unfold scB legalT at h
    simp only [Bool.and_eq_true, List.all_eq_true, decide_eq_true_eq] at h
    refine pok_fun _ _ (fun x hx => ?_) (pok_shape _ h.1.1.1.1.2)
    obtain ⟨p, hp, rfl⟩ := List.mem_map.1 hx
    have hp2 := h.1.1.1.2 p hp
    unfold pdB legalT at hp2
    simp only [Bool.and_eq_true, decide_eq_true_eq] at hp2
    refine .mk (fun e => by simp at e) (fun y hy => ?_)
    simp at hy
    subst hy
    exact pok_shape _ hp2.2.2
  · rw [zero_pure]
    exact .mk (fun _ => rfl) (by simp)
theorem sz_fun (l : List Pd) (q : Ty.Pure) : szP (funPP (l.map fun p => dictP p.cls p.ty.pure) q) = szP q + psz l + 2 * l.length := by
  induction l with
  | nil => simp [funPP, psz]
  | cons p l ih =>
    show szP (arrP (dictP p.cls p.ty.pure) (funPP (l.map fun p => dictP p.cls p.ty.pure) q)) = _
    unfold arrP dictP
    rw [szP_eq, List.map_cons, List.map_cons, szP_eq]
    simp only [List.map_cons, List.map_nil, List.sum_cons, List.sum_nil, Nat.add_zero]
    have h2 : psz (p :: l) = p.ty.size + psz l := by unfold psz; simp
    unfold dictP at ih
    rw [ih, h2, size_pure p.ty, List.length_cons]
    omega
theorem sz_of (s : Sc) : szP (ofTyP s) ≤ s.ty.size + psz s.preds + 2 * s.preds.length + 1 := by
  unfold ofTyP
  split
  · rw [sz_fun, size_pure s.ty]; omega
  · rw [zero_pure, szP_eq]; simp
theorem ofVs_nodup (s : Sc) : (ofVs s).Nodup := by
  unfold ofVs
  split
  · exact range_nodup _
  · simp
theorem ofVs_len (s : Sc) : (ofVs s).length ≤ 4096 := by
  unfold ofVs
  split
  · rename_i h
    unfold scB at h
    simp only [Bool.and_eq_true, decide_eq_true_eq] at h
    rw [rangeI_len]
    have := h.1.2
    omega
  · simp

end Go.Proofs.YtifbkknijialgaaGreat
