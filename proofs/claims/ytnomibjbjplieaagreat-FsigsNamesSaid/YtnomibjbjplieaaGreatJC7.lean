/- Arguments opened, with the form's own reach of what lies in them. -/
import Derived.Test.YtnomibjbjplieaaGreatJC6
import Derived.SizedLaws
import Derived.Lib.SmallJoins
/- Arguments opened, with the form's own reach of what lies in them. -/
namespace Go.Proofs.YtnomibjbjplieaaGreat
open Go.RowKit Go.ChangeShapes Go.WideShapes Go.Deep

/-- Whatever lies in a datum is within the form's reach. -/
def Sized {H : Type} (P : Program) (t : TypeId) (d : DataW H) : Prop := ∀ n ∈ d.weights P t, n ≤ reachBytes
theorem Sized.of_each {H : Type} {P : Program} {ts : List TypeId} {ds : List (DataW H)} (h : (DataW.weightsEach P ts ds).all (· ≤ reachBytes) = true) {j : Nat} {t : TypeId} {d : DataW H} (ht : ts[j]? = some t) (hd : ds[j]? = some d) : Sized P t d := fun n hn => by
  have := List.all_eq_true.1 h _ (DataW.weights_mem_each ht hd n hn)
  simpa using this
theorem weightsAll_mem {H : Type} {P : Program} {e : TypeId} {d : DataW H} {n : Nat} : ∀ {l : List (DataW H)}, d ∈ l → n ∈ d.weights P e → n ∈ DataW.weightsAll P e l
  | [], h, _ => by cases h
  | x :: l, h, hn => by
    unfold DataW.weightsAll
    rw [List.mem_append]
    rcases List.mem_cons.1 h with rfl | h
    · exact .inl hn
    · exact .inr (weightsAll_mem h hn)

section
variable {H : Type} {enc : TypeId × Value → H} {P : Program} {w : World} {base : Nat} {spare : Nat → Bool} {held : Bool}
theorem fields_oneZ {t : TypeId} {fs : Array Field} {fuel : Nat} {cs : List Value} {x : DataW H × List MemPlace} (hs : P.underlying t = some (.struct fs)) (hone : oneCellFields P fs = true) (hC : P.cellsOf t = fs.size)
    (h : DataW.trod enc P w base spare held fuel t cs = some x) :
    cs.length = fs.size ∧ ∃ n, fuel = n + 1 ∧ ∀ (j : Nat) (f : Field), fs[j]? = some f → ∃ v y, cs[j]? = some v ∧ DataW.trod enc P w base spare held n f.type [v] = some y ∧ (Sized P t x.1 → Sized P f.type y.1) := by
  obtain ⟨ys, n, hn, hx, hlen, hyl, hf⟩ := DataW.trod_struct hs h
  refine ⟨by rw [hlen, hC], n, hn, fun j f hj => ?_⟩
  obtain ⟨ho, hk⟩ := hone_of hone j f hj
  have hjl : j < fs.size := (Array.getElem?_eq_some_iff.1 hj).1
  have hv : cs[j]? = some (cs[j]'(by omega)) := List.getElem?_eq_getElem (by omega)
  have h1 := hf j f hj
  rw [ho, hk] at h1
  have e1 : (cs.drop j).take 1 = [cs[j]'(by omega)] := by rw [List.drop_eq_getElem_cons (by omega)]; rfl
  rw [e1] at h1
  refine ⟨_, _, hv, h1.trans (List.getElem?_eq_getElem (by omega)), fun hz n hn => hz n ?_⟩
  rw [hx]
  unfold DataW.weights
  rw [hs]
  exact DataW.weights_mem_each (j := j) (t := f.type) (by rw [List.getElem?_map, Array.getElem?_toList, hj]; rfl) (by rw [List.getElem?_map, List.getElem?_eq_getElem (by omega)]; rfl) n hn

theorem open_cellsZ {α : Type} (C : Coder α) (Q : α → Prop) {t e : TypeId} (ht : P.underlying t = some (.slice e)) (hC : P.cellsOf e = C.k) {fuel : Nat} {v : Value} {x : DataW H × List MemPlace}
    (he : ∀ n, n < fuel → ∀ cs x, DataW.trod enc P w base spare held n e cs = some x → Sized P e x.1 → ∃ a, cs = C.f a ∧ Q a)
    (h : DataW.trod enc P w base spare held fuel t [v] = some x) (hz : Sized P t x.1) :
    ∃ (A : Option Addr) (c : Nat) (xs : List α), v = .slice A xs.length c ∧ xs.length ≤ c ∧ c ≤ 9223372036854775807 ∧ RowOf C w A xs ∧ (∀ x ∈ xs, Q x) ∧ xs.length * P.bytesOf e ≤ reachBytes := by
  rcases DataW.trod_slice ht h with ⟨hcs, _⟩ | ⟨a, len, cap, elems, rest, n, hn, hcs, hx, hb, hl, hm, hlen, hel, -, -⟩
  · simp at hcs
    subst hcs
    exact ⟨none, 0, [], rfl, Nat.le_refl _, by omega, RowOf.nil C _ _, by simp, by simp⟩
  · simp at hcs
    subst hcs
    have hw : (x.1).weights P t = ((elems.map (·.1)).length + (rest.map (·.1)).length) * P.bytesOf e :: (DataW.weightsAll P e (elems.map (·.1)) ++ DataW.weightsAll P e (rest.map (·.1))) := by
      rw [hx]
      show DataW.weights P t (.slice _ _) = _
      unfold DataW.weights
      rw [ht]
    obtain ⟨xs, hxl, hx2, hq⟩ := list_all (α := α) (P := fun i x => w.cells? base (a.add (i * C.k)) C.k = some (C.f x)) (Q := Q) len (fun i hi' => by
      have h1 := hel i hi'
      rw [List.getElem?_eq_getElem (by omega)] at h1
      obtain ⟨cs', h2, h3⟩ := Option.bind_eq_some_iff.1 h1
      obtain ⟨y, rfl, hy⟩ := he n (by omega) _ _ h3 (fun m hm => hz m (by
        rw [hw]
        refine List.mem_cons_of_mem _ (List.mem_append.2 (.inl (weightsAll_mem (List.mem_map.2 ⟨_, List.getElem_mem (by omega), rfl⟩) hm)))))
      rw [hC] at h2
      exact ⟨y, h2, hy⟩)
    subst hxl
    refine ⟨some a, cap, xs, rfl, hl, by unfold maxLen at hm; omega, Row.of_cells C.pos C.f C.hf xs hx2, hq, ?_⟩
    have := hz _ (by rw [hw]; exact List.mem_cons_self)
    rw [List.length_map, List.length_map, hlen] at this
    exact Nat.le_trans (Nat.mul_le_mul_right _ (Nat.le_add_right _ _)) this

theorem str_readsZ {t : TypeId} (ht : P.underlying t = some .string) (n : Nat) (cs : List Value) (x : DataW H × List MemPlace) (h : DataW.trod enc P w base spare held n t cs = some x) (hz : Sized P t x.1) :
    ∃ a : Str, cs = strC.f a ∧ a.length ≤ 140737488351232 := by
  obtain ⟨s, e, hx, hs⟩ := DataW.trod_string ht h
  refine ⟨s.data.toList, by rw [e]; simp [strC, encStr], ?_⟩
  have := hz s.data.toList.length (by rw [hx]; show _ ∈ DataW.weights P t (.lit (.string _)); unfold DataW.weights; exact List.mem_cons_self)
  exact this
end

end Go.Proofs.YtnomibjbjplieaaGreat

/- Arguments that are types, opened. -/
namespace Go.Proofs.YtnomibjbjplieaaGreat
open Go.RowKit Go.ChangeShapes Go.WideShapes Go.Deep

theorem wf_lo {a : Int} (h : (Lit.int .i64 a).wf = true) : -9223372036854775808 ≤ a := by
  have h1 : decide (IntKind.i64.min ≤ a) && decide (a ≤ IntKind.i64.max) := h
  rw [Bool.and_eq_true] at h1
  exact of_decide_eq_true h1.1
theorem wf_hi {a : Int} (h : (Lit.int .i64 a).wf = true) : a ≤ 9223372036854775807 := by
  have h1 : decide (IntKind.i64.min ≤ a) && decide (a ≤ IntKind.i64.max) := h
  rw [Bool.and_eq_true] at h1
  exact of_decide_eq_true h1.2
section
variable {H : Type} {enc : TypeId × Value → H} {w : World} {base : Nat} {spare : Nat → Bool} {held : Bool}
theorem type_reads : ∀ (fuel : Nat) (cs : List Value) (x : DataW H × List MemPlace), DataW.trod enc Tryz.prog w base spare held fuel 32 cs = some x → Sized Tryz.prog 32 x.1 → ∃ t : Ty, cs = tyC.f t ∧ TyIn w t ∧ okI t = true := by
  intro fuel
  induction fuel using Nat.strongRecOn with
  | ind fuel IH =>
  intro cs x h hz
  obtain ⟨hl, n, hn, hf⟩ := fields_oneZ Tryz.underlying32 (by kernel_rfl) (by kernel_rfl) h
  obtain ⟨v0, y0, e0, r0, z0⟩ := hf 0 _ rfl
  obtain ⟨v1, y1, e1, r1, z1⟩ := hf 1 _ rfl
  obtain ⟨v2, y2, e2, r2, z2⟩ := hf 2 _ rfl
  obtain ⟨s, q0, hs⟩ := str_readsZ Tryz.underlying9 _ _ _ r0 (z0 hz)
  obtain ⟨a, q1, hi⟩ := int_reads Tryz.underlying3 _ _ _ r1
  obtain ⟨A, cp, ks, q2, k1, k2, k3, k4, _⟩ := open_cellsZ tyC (fun t => TyIn w t ∧ okI t = true) Tryz.underlying30 (by kernel_rfl) (fun m hm cs x hh => IH m (by omega) cs x hh) r2 (z2 hz)
  simp only [List.cons.injEq, and_true, strC] at q0 q1
  subst q0 q1 q2
  refine ⟨.mk s a A cp ks, ?_, TyIn.mk k1 k2 (Nat.le_trans hs (by decide)) k3 (fun k hk => (k4 k hk).1), okI_mk (wf_lo hi) (wf_hi hi) hs (fun k hk => (k4 k hk).2)⟩
  match cs, hl with
  | [a0, a1, a2], _ =>
    simp only [List.getElem?_cons_zero, List.getElem?_cons_succ, Option.some.injEq] at e0 e1 e2
    subst e0 e1 e2
    rfl
theorem open_type {v : Value} {d : DataW H} {p : List MemPlace} (h : DataW.Trod enc Tryz.prog w base spare held 32 v d p) (hv : ∃ cs, v = .agg cs) (hz : Sized Tryz.prog 32 d) : ∃ t : Ty, v = tyV t ∧ TyIn w t ∧ okI t = true := by
  obtain ⟨arr, rfl⟩ := hv
  obtain ⟨fuel, hf⟩ := h
  obtain ⟨t, e, ht, hok⟩ := type_reads fuel _ _ hf hz
  refine ⟨t, ?_, ht, hok⟩
  have e1 : arr.toList = tyC.f t := by simpa [Value.cells] using e
  have e2 : arr = (tyC.f t).toArray := by rw [← e1]
  rw [e2]
  rfl
end

end Go.Proofs.YtnomibjbjplieaaGreat

/- Numbers as digits, letters, texts of types: the plain laws. No program in sight. -/
namespace Go.Proofs.YtnomibjbjplieaaGreat
open Go.RowKit

/-- A byte of a number. -/
def chr (n : Nat) : UInt8 := UInt8.ofNat n
/-- A number's digits. -/
def digs (n : Nat) : Str := if n < 10 then [chr (48 + n)] else digs (n / 10) ++ [chr (48 + n % 10)]
termination_by n
theorem digs_lo {n : Nat} (h : n < 10) : digs n = [chr (48 + n)] := by rw [digs, if_pos h]
theorem digs_hi {n : Nat} (h : ¬ n < 10) : digs n = digs (n / 10) ++ [chr (48 + n % 10)] := by rw [digs, if_neg h]
theorem digs_len : ∀ (k n : Nat), n < 10 ^ (k + 1) → (digs n).length ≤ k + 1 := by
  intro k
  induction k with
  | zero => intro n h; rw [digs_lo (by omega)]; simp
  | succ k ih =>
    intro n h
    by_cases h1 : n < 10
    · rw [digs_lo h1]; simp
    · rw [digs_hi h1, List.length_append]
      have := ih (n / 10) (by rw [Nat.pow_succ] at h; omega)
      simp
      omega
theorem digs_pos (n : Nat) : 0 < (digs n).length := by
  by_cases h : n < 10
  · rw [digs_lo h]; simp
  · rw [digs_hi h]; simp
/-- A number's text. -/
def decS (n : Int) : Str := if n < 0 then 45 :: digs n.natAbs else digs n.natAbs
theorem decS_nn {n : Int} (h : 0 ≤ n) : decS n = digs n.toNat := by
  unfold decS
  rw [if_neg (by omega)]
  congr 1
  omega
/-- A number's letter. -/
def letter (n : Int) : Str := if n < 0 then [] else chr (97 + n.toNat % 26) :: (if n < 26 then [] else digs (n.toNat / 26))
/-- A variable's text. -/
def varS (v : Int) : Str := if 0 ≤ v then letter v else 63 :: digs (-1 - v).toNat
/-- A digit? -/
def digB (b : UInt8) : Bool := decide (48 ≤ ((b.toNat : Nat) : Int)) && decide (((b.toNat : Nat) : Int) ≤ 57)
/-- The number of digits behind a number; none: it is too great. -/
def readGo : Nat → Str → Option Nat
  | n, [] => some n
  | n, b :: l => if n > (9223372036854775807 - (b.toNat - 48)) / 10 then none else readGo (10 * n + (b.toNat - 48)) l
theorem readGo_cons (n : Nat) (b : UInt8) (l : Str) : readGo n (b :: l) = if n > (9223372036854775807 - (b.toNat - 48)) / 10 then none else readGo (10 * n + (b.toNat - 48)) l := rfl
theorem readGo_nil (n : Nat) : readGo n [] = some n := rfl
/-- The number of digits, and the error. -/
def readI (s : Str) : Int × Int :=
  if s = [] ∨ s.all digB = false then (0, 5) else match readGo 0 s with
    | some n => ((n : Int), 0)
    | none => (0, 4)
theorem readI_nil : readI [] = (0, 5) := rfl
theorem readI_bad {s : Str} (h : s.all digB = false) : readI s = (0, 5) := by unfold readI; rw [if_pos (.inr h)]
theorem readI_some {s : Str} {n : Nat} (h0 : s ≠ []) (h : s.all digB = true) (k : readGo 0 s = some n) : readI s = ((n : Int), 0) := by
  unfold readI
  rw [if_neg (by simp [h0, h]), k]
theorem readI_none {s : Str} (h0 : s ≠ []) (h : s.all digB = true) (k : readGo 0 s = none) : readI s = (0, 4) := by
  unfold readI
  rw [if_neg (by simp [h0, h]), k]
theorem readGo_le : ∀ (l : Str) (n m : Nat), l.all digB = true → n ≤ 9223372036854775807 → readGo n l = some m → m ≤ 9223372036854775807 := by
  intro l
  induction l with
  | nil => intro n m _ hn h; simp [readGo] at h; omega
  | cons b l ih =>
    intro n m hd hn h
    rw [List.all_cons, Bool.and_eq_true] at hd
    have h1 : 48 ≤ b.toNat ∧ b.toNat ≤ 57 := by have := hd.1; unfold digB at this; simp at this; omega
    unfold readGo at h
    split at h
    · cases h
    · exact ih _ m hd.2 (by omega) h
theorem readI_ok (s : Str) : 0 ≤ (readI s).1 ∧ (readI s).1 ≤ 9223372036854775807 := by
  unfold readI
  split
  · exact ⟨Int.le_refl _, by decide⟩
  · rename_i h
    simp only [not_or, Bool.not_eq_false] at h
    cases hg : readGo 0 s with
    | none => exact ⟨Int.le_refl _, by decide⟩
    | some n => exact ⟨by show (0 : Int) ≤ (n : Int); omega, by have := readGo_le s 0 n h.2 (by omega) hg; show (n : Int) ≤ _; omega⟩
/-- A fixed type's name? -/
def fixedB (s : Str) : Bool := !(s == []) && (s.headD 0 == 33) && ((readI (s.drop 1)).2 == 0) && (digs (readI (s.drop 1)).1.toNat == s.drop 1)
/-- In brackets, or not. -/
def brack (b : Bool) (s : Str) : Str := if b then [40] ++ s ++ [41] else s
/-- A type's text. -/
noncomputable def textT : Ty → Str := Ty.fold fun t (l : List Str) =>
  if t.con = [45, 62] ∧ t.args.length = 2 then brack (decide ((t.args.getD 0 Ty.zero).con = [45, 62])) (l.getD 0 []) ++ ([32, 45, 62, 32] : Str) ++ l.getD 1 []
  else (if t.con = [] then varS t.var else t.con) ++ ((t.args.zip l).map fun p => ([32] : Str) ++ brack (decide (0 < p.1.args.length)) p.2).flatten
theorem textT_fun {t : Ty} (h : t.con = [45, 62]) (h0 : 0 < t.args.length) (h1 : 1 < t.args.length) (h2 : t.args.length = 2) :
    textT t = brack (decide ((t.args[0]'h0).con = [45, 62])) (textT (t.args[0]'h0)) ++ ([32, 45, 62, 32] : Str) ++ textT (t.args[1]'h1) := by
  unfold textT
  rw [Ty.fold_eq, if_pos ⟨h, h2⟩]
  simp only [List.getD_eq_getElem?_getD, List.getElem?_map, List.getElem?_eq_getElem h0, List.getElem?_eq_getElem h1, Option.map_some, Option.getD_some]
noncomputable def restT (l : List Ty) : Str := (l.map fun a => ([32] : Str) ++ brack (decide (0 < a.args.length)) (textT a)).flatten
theorem zip_map_self {α β : Type} (l : List α) (f : α → β) : l.zip (l.map f) = l.map fun a => (a, f a) := by
  induction l with
  | nil => rfl
  | cons x l ih => simp [ih]
theorem textT_else {t : Ty} (h : ¬ (t.con = [45, 62] ∧ t.args.length = 2)) : textT t = (if t.con = [] then varS t.var else t.con) ++ restT t.args := by
  unfold textT
  rw [Ty.fold_eq, if_neg h]
  unfold restT
  congr 2
  rw [zip_map_self, List.map_map]
  rfl
theorem restT_take (l : List Ty) {k : Nat} (h : k < l.length) : restT (l.take (k + 1)) = restT (l.take k) ++ (([32] : Str) ++ brack (decide (0 < (l[k]'h).args.length)) (textT (l[k]'h))) := by
  unfold restT
  rw [List.take_succ_eq_append_getElem h, List.map_append, List.flatten_append]
  simp

end Go.Proofs.YtnomibjbjplieaaGreat
