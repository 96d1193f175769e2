/- Arguments opened, with the form's own reach of what lies in them. -/
import Derived.Test.YtpdcjjgkpbpleaaGreatDoorJP34
import Derived.SizedLaws
import Derived.Lib.SmallJoins
/- Arguments opened, with the form's own reach of what lies in them. -/
namespace Go.Proofs.YtpdcjjgkpbpleaaGreatDoor
open Go.RowKit Go.ChangeShapes Go.WideShapes Go.Deep

/-- Whatever lies in a datum is within the form's reach. -/
def Sized {H : Type} (P : Program) (t : TypeId) (d : DataW H) : Prop := ∀ n ∈ d.weights P t, n ≤ reachBytes
theorem Sized.of_each {H : Type} {P : Program} {ts : List TypeId} {ds : List (DataW H)} (h : (DataW.weightsEach P ts ds).all (· ≤ reachBytes) = true) {j : Nat} {t : TypeId} {d : DataW H} (ht : ts[j]? = some t) (hd : ds[j]? = some d) : Sized P t d := fun n hn => by
  have := List.all_eq_true.1 h _ (DataW.weights_mem_each ht hd n hn)
  simpa using this
theorem weightsAll_mem {H : Type} {P : Program} {e : TypeId} {d : DataW H} {n : Nat} : ∀ {l : List (DataW H)}, d ∈ l → n ∈ d.weights P e → n ∈ DataW.weightsAll P e l
  | [], h, _ => by cases h
  | x :: l, h, hn => by
    unfold DataW.weightsAll
    rw [List.mem_append]
    rcases List.mem_cons.1 h with rfl | h
    · exact .inl hn
    · exact .inr (weightsAll_mem h hn)

section
variable {H : Type} {enc : TypeId × Value → H} {P : Program} {w : World} {base : Nat} {spare : Nat → Bool} {held : Bool}
theorem fields_oneZ {t : TypeId} {fs : Array Field} {fuel : Nat} {cs : List Value} {x : DataW H × List MemPlace} (hs : P.underlying t = some (.struct fs)) (hone : oneCellFields P fs = true) (hC : P.cellsOf t = fs.size)
    (h : DataW.trod enc P w base spare held fuel t cs = some x) :
    cs.length = fs.size ∧ ∃ n, fuel = n + 1 ∧ ∀ (j : Nat) (f : Field), fs[j]? = some f → ∃ v y, cs[j]? = some v ∧ DataW.trod enc P w base spare held n f.type [v] = some y ∧ (Sized P t x.1 → Sized P f.type y.1) := by
  obtain ⟨ys, n, hn, hx, hlen, hyl, hf⟩ := DataW.trod_struct hs h
  refine ⟨by rw [hlen, hC], n, hn, fun j f hj => ?_⟩
  obtain ⟨ho, hk⟩ := hone_of hone j f hj
  have hjl : j < fs.size := (Array.getElem?_eq_some_iff.1 hj).1
  have hv : cs[j]? = some (cs[j]'(by omega)) := List.getElem?_eq_getElem (by omega)
  have h1 := hf j f hj
  rw [ho, hk] at h1
  have e1 : (cs.drop j).take 1 = [cs[j]'(by omega)] := by rw [List.drop_eq_getElem_cons (by omega)]; rfl
  rw [e1] at h1
  refine ⟨_, _, hv, h1.trans (List.getElem?_eq_getElem (by omega)), fun hz n hn => hz n ?_⟩
  rw [hx]
  unfold DataW.weights
  rw [hs]
  exact DataW.weights_mem_each (j := j) (t := f.type) (by rw [List.getElem?_map, Array.getElem?_toList, hj]; rfl) (by rw [List.getElem?_map, List.getElem?_eq_getElem (by omega)]; rfl) n hn

theorem open_cellsZ {α : Type} (C : Coder α) (Q : α → Prop) {t e : TypeId} (ht : P.underlying t = some (.slice e)) (hC : P.cellsOf e = C.k) {fuel : Nat} {v : Value} {x : DataW H × List MemPlace}
    (he : ∀ n, n < fuel → ∀ cs x, DataW.trod enc P w base spare held n e cs = some x → Sized P e x.1 → ∃ a, cs = C.f a ∧ Q a)
    (h : DataW.trod enc P w base spare held fuel t [v] = some x) (hz : Sized P t x.1) :
    ∃ (A : Option Addr) (c : Nat) (xs : List α), v = .slice A xs.length c ∧ xs.length ≤ c ∧ c ≤ 9223372036854775807 ∧ RowOf C w A xs ∧ (∀ x ∈ xs, Q x) ∧ xs.length * P.bytesOf e ≤ reachBytes := by
  rcases DataW.trod_slice ht h with ⟨hcs, _⟩ | ⟨a, len, cap, elems, rest, n, hn, hcs, hx, hb, hl, hm, hlen, hel, -, -⟩
  · simp at hcs
    subst hcs
    exact ⟨none, 0, [], rfl, Nat.le_refl _, by omega, RowOf.nil C _ _, by simp, by simp⟩
  · simp at hcs
    subst hcs
    have hw : (x.1).weights P t = ((elems.map (·.1)).length + (rest.map (·.1)).length) * P.bytesOf e :: (DataW.weightsAll P e (elems.map (·.1)) ++ DataW.weightsAll P e (rest.map (·.1))) := by
      rw [hx]
      show DataW.weights P t (.slice _ _) = _
      unfold DataW.weights
      rw [ht]
    obtain ⟨xs, hxl, hx2, hq⟩ := list_all (α := α) (P := fun i x => w.cells? base (a.add (i * C.k)) C.k = some (C.f x)) (Q := Q) len (fun i hi' => by
      have h1 := hel i hi'
      rw [List.getElem?_eq_getElem (by omega)] at h1
      obtain ⟨cs', h2, h3⟩ := Option.bind_eq_some_iff.1 h1
      obtain ⟨y, rfl, hy⟩ := he n (by omega) _ _ h3 (fun m hm => hz m (by
        rw [hw]
        refine List.mem_cons_of_mem _ (List.mem_append.2 (.inl (weightsAll_mem (List.mem_map.2 ⟨_, List.getElem_mem (by omega), rfl⟩) hm)))))
      rw [hC] at h2
      exact ⟨y, h2, hy⟩)
    subst hxl
    refine ⟨some a, cap, xs, rfl, hl, by unfold maxLen at hm; omega, Row.of_cells C.pos C.f C.hf xs hx2, hq, ?_⟩
    have := hz _ (by rw [hw]; exact List.mem_cons_self)
    rw [List.length_map, List.length_map, hlen] at this
    exact Nat.le_trans (Nat.mul_le_mul_right _ (Nat.le_add_right _ _)) this

theorem str_readsZ {t : TypeId} (ht : P.underlying t = some .string) (n : Nat) (cs : List Value) (x : DataW H × List MemPlace) (h : DataW.trod enc P w base spare held n t cs = some x) (hz : Sized P t x.1) :
    ∃ a : Str, cs = strC.f a ∧ a.length ≤ 140737488351232 := by
  obtain ⟨s, e, hx, hs⟩ := DataW.trod_string ht h
  refine ⟨s.data.toList, by rw [e]; simp [strC, encStr], ?_⟩
  have := hz s.data.toList.length (by rw [hx]; show _ ∈ DataW.weights P t (.lit (.string _)); unfold DataW.weights; exact List.mem_cons_self)
  exact this
end

end Go.Proofs.YtpdcjjgkpbpleaaGreatDoor

/- Arguments that are types, opened. -/
namespace Go.Proofs.YtpdcjjgkpbpleaaGreatDoor
open Go.RowKit Go.ChangeShapes Go.WideShapes Go.Deep

theorem wf_lo {a : Int} (h : (Lit.int .i64 a).wf = true) : -9223372036854775808 ≤ a := by
  have h1 : decide (IntKind.i64.min ≤ a) && decide (a ≤ IntKind.i64.max) := h
  rw [Bool.and_eq_true] at h1
  exact of_decide_eq_true h1.1
theorem wf_hi {a : Int} (h : (Lit.int .i64 a).wf = true) : a ≤ 9223372036854775807 := by
  have h1 : decide (IntKind.i64.min ≤ a) && decide (a ≤ IntKind.i64.max) := h
  rw [Bool.and_eq_true] at h1
  exact of_decide_eq_true h1.2
section
variable {H : Type} {enc : TypeId × Value → H} {w : World} {base : Nat} {spare : Nat → Bool} {held : Bool}
theorem type_reads : ∀ (fuel : Nat) (cs : List Value) (x : DataW H × List MemPlace), DataW.trod enc Tryz.prog w base spare held fuel 37 cs = some x → Sized Tryz.prog 37 x.1 → ∃ t : Ty, cs = tyC.f t ∧ TyIn w t ∧ okI t = true := by
  intro fuel
  induction fuel using Nat.strongRecOn with
  | ind fuel IH =>
  intro cs x h hz
  obtain ⟨hl, n, hn, hf⟩ := fields_oneZ Tryz.underlying37 (by kernel_rfl) (by kernel_rfl) h
  obtain ⟨v0, y0, e0, r0, z0⟩ := hf 0 _ rfl
  obtain ⟨v1, y1, e1, r1, z1⟩ := hf 1 _ rfl
  obtain ⟨v2, y2, e2, r2, z2⟩ := hf 2 _ rfl
  obtain ⟨s, q0, hs⟩ := str_readsZ Tryz.underlying9 _ _ _ r0 (z0 hz)
  obtain ⟨a, q1, hi⟩ := int_reads Tryz.underlying3 _ _ _ r1
  obtain ⟨A, cp, ks, q2, k1, k2, k3, k4, _⟩ := open_cellsZ tyC (fun t => TyIn w t ∧ okI t = true) Tryz.underlying28 (by kernel_rfl) (fun m hm cs x hh => IH m (by omega) cs x hh) r2 (z2 hz)
  simp only [List.cons.injEq, and_true, strC] at q0 q1
  subst q0 q1 q2
  refine ⟨.mk s a A cp ks, ?_, TyIn.mk k1 k2 (Nat.le_trans hs (by decide)) k3 (fun k hk => (k4 k hk).1), okI_mk (wf_lo hi) (wf_hi hi) hs (fun k hk => (k4 k hk).2)⟩
  match cs, hl with
  | [a0, a1, a2], _ =>
    simp only [List.getElem?_cons_zero, List.getElem?_cons_succ, Option.some.injEq] at e0 e1 e2
    subst e0 e1 e2
    rfl
theorem open_type {v : Value} {d : DataW H} {p : List MemPlace} (h : DataW.Trod enc Tryz.prog w base spare held 37 v d p) (hv : ∃ cs, v = .agg cs) (hz : Sized Tryz.prog 37 d) : ∃ t : Ty, v = tyV t ∧ TyIn w t ∧ okI t = true := by
  obtain ⟨arr, rfl⟩ := hv
  obtain ⟨fuel, hf⟩ := h
  obtain ⟨t, e, ht, hok⟩ := type_reads fuel _ _ hf hz
  refine ⟨t, ?_, ht, hok⟩
  have e1 : arr.toList = tyC.f t := by simpa [Value.cells] using e
  have e2 : arr = (tyC.f t).toArray := by rw [← e1]
  rw [e2]
  rfl
end

end Go.Proofs.YtpdcjjgkpbpleaaGreatDoor

/- A struct's fields, opened. -/
namespace Go.Proofs.YtpdcjjgkpbpleaaGreatDoor
open Go.RowKit Go.ChangeShapes Go.WideShapes Go.Deep

section
variable {H : Type} {enc : TypeId × Value → H} {P : Program} {w : World} {base : Nat} {spare : Nat → Bool} {held : Bool}
theorem fields_manyZ {t : TypeId} {fs : Array Field} {fuel : Nat} {cs : List Value} {x : DataW H × List MemPlace} (hs : P.underlying t = some (.struct fs)) (h : DataW.trod enc P w base spare held fuel t cs = some x) :
    cs.length = P.cellsOf t ∧ ∃ n, fuel = n + 1 ∧ ∀ (j : Nat) (f : Field), fs[j]? = some f → ∃ y, DataW.trod enc P w base spare held n f.type ((cs.drop f.offset).take (P.cellsOf f.type)) = some y ∧ (Sized P t x.1 → Sized P f.type y.1) := by
  obtain ⟨ys, n, hn, hx, hlen, hyl, hf⟩ := DataW.trod_struct hs h
  refine ⟨hlen, n, hn, fun j f hj => ?_⟩
  have hjl : j < fs.size := (Array.getElem?_eq_some_iff.1 hj).1
  refine ⟨_, (hf j f hj).trans (List.getElem?_eq_getElem (by omega)), fun hz n hn => hz n ?_⟩
  rw [hx]
  unfold DataW.weights
  rw [hs]
  exact DataW.weights_mem_each (j := j) (t := f.type) (by rw [List.getElem?_map, Array.getElem?_toList, hj]; rfl) (by rw [List.getElem?_map, List.getElem?_eq_getElem (by omega)]; rfl) n hn
end

end Go.Proofs.YtpdcjjgkpbpleaaGreatDoor

/- Arguments that are predicates, opened. -/
namespace Go.Proofs.YtpdcjjgkpbpleaaGreatDoor
open Go.RowKit Go.ChangeShapes Go.WideShapes Go.Deep

section
variable {H : Type} {enc : TypeId × Value → H} {w : World} {base : Nat} {spare : Nat → Bool} {held : Bool}
set_option maxRecDepth 100000 in
theorem pred_reads (fuel : Nat) (cs : List Value) (x : DataW H × List MemPlace) (h : DataW.trod enc Tryz.prog w base spare held fuel 39 cs = some x) (hz : Sized Tryz.prog 39 x.1) :
    ∃ p : Pd, cs = pdC.f p ∧ PdIn w p ∧ okI p.ty = true := by
  obtain ⟨hl, n, hn, hf⟩ := fields_manyZ Tryz.underlying39 h
  have hl4 : cs.length = 4 := hl.trans (by kernel_rfl)
  obtain ⟨y0, r0, z0⟩ := hf 0 _ rfl
  obtain ⟨y1, r1, z1⟩ := hf 1 _ rfl
  match cs, hl4 with
  | [a0, a1, a2, a3], _ =>
    have e0 : ((([a0, a1, a2, a3] : List Value).drop 0).take (Tryz.prog.cellsOf 9)) = [a0] := by rw [show Tryz.prog.cellsOf 9 = 1 from by kernel_rfl]; rfl
    have e1 : ((([a0, a1, a2, a3] : List Value).drop 1).take (Tryz.prog.cellsOf 37)) = [a1, a2, a3] := by rw [show Tryz.prog.cellsOf 37 = 3 from by kernel_rfl]; rfl
    have r0' : DataW.trod enc Tryz.prog w base spare held n 9 [a0] = some y0 := by rw [← e0]; exact r0
    have r1' : DataW.trod enc Tryz.prog w base spare held n 37 [a1, a2, a3] = some y1 := by rw [← e1]; exact r1
    obtain ⟨s, q0, hs⟩ := str_readsZ Tryz.underlying9 _ _ _ r0' (z0 hz)
    obtain ⟨t, q1, ht, ok⟩ := type_reads _ _ _ r1' (z1 hz)
    have q1' : [a1, a2, a3] = [encStr t.con, .int .i64 t.var, .slice t.A t.args.length t.cap] := q1
    simp only [List.cons.injEq, and_true, strC] at q0 q1'
    obtain ⟨rfl, rfl, rfl⟩ := q1'
    subst q0
    exact ⟨⟨s, t⟩, rfl, ⟨Nat.le_trans hs (by decide), ht⟩, ok⟩
end

end Go.Proofs.YtpdcjjgkpbpleaaGreatDoor

/- Arguments that are proofs, opened. -/
namespace Go.Proofs.YtpdcjjgkpbpleaaGreatDoor
open Go.RowKit Go.ChangeShapes Go.WideShapes Go.Deep

theorem wideT_mk {s : Str} {v : Int} {A : Option Addr} {c : Nat} {l : List Ty} (h1 : l.length ≤ 3000000000000) (h : ∀ k ∈ l, wideT k = true) : wideT (.mk s v A c l) = true := by
  rw [wideT_eq, Bool.and_eq_true]
  exact ⟨decide_eq_true h1, List.all_eq_true.2 h⟩
section
variable {H : Type} {enc : TypeId × Value → H} {w : World} {base : Nat} {spare : Nat → Bool} {held : Bool}
theorem open_rowsZ8 {α : Type} (C : Coder α) (Q : α → Prop) {t e : TypeId} (ht : Tryz.prog.underlying t = some (.slice e)) (hC : Tryz.prog.cellsOf e = C.k)
    (he : ∀ n cs x, DataW.trod enc Tryz.prog w base spare held n e cs = some x → Sized Tryz.prog e x.1 → ∃ a, cs = C.f a ∧ Q a)
    {v : Value} {d : DataW H} {p : List MemPlace} (h : DataW.Trod enc Tryz.prog w base spare held t v d p) (hv : ∃ a n c, v = .slice a n c) (hz : Sized Tryz.prog t d) :
    ∃ (A : Option Addr) (cap : Nat) (xs : List α), v = .slice A xs.length cap ∧ xs.length ≤ cap ∧ cap ≤ 9223372036854775807 ∧ RowOf C w A xs ∧ ∀ x ∈ xs, Q x := by
  obtain ⟨a, n, c, rfl⟩ := hv
  obtain ⟨fuel, hf'⟩ := h
  have hf'' : DataW.trod enc Tryz.prog w base spare held fuel t [.slice a n c] = some (d, p) := by simpa [Value.cells] using hf'
  obtain ⟨A, c', xs, e, h1, h2, h3, h4, -⟩ := open_cellsZ C Q ht hC (fun m _ cs x hh => he m cs x hh) hf'' hz
  exact ⟨A, c', xs, e, h1, h2, h3, h4⟩
theorem type_readsW : ∀ (fuel : Nat) (cs : List Value) (x : DataW H × List MemPlace), DataW.trod enc Tryz.prog w base spare held fuel 37 cs = some x → Sized Tryz.prog 37 x.1 → ∃ t : Ty, cs = tyC.f t ∧ TyIn w t ∧ wideT t = true := by
  intro fuel
  induction fuel using Nat.strongRecOn with
  | ind fuel IH =>
  intro cs x h hz
  obtain ⟨hl, n, hn, hf⟩ := fields_oneZ Tryz.underlying37 (by kernel_rfl) (by kernel_rfl) h
  obtain ⟨v0, y0, e0, r0, z0⟩ := hf 0 _ rfl
  obtain ⟨v1, y1, e1, r1, z1⟩ := hf 1 _ rfl
  obtain ⟨v2, y2, e2, r2, z2⟩ := hf 2 _ rfl
  obtain ⟨s, q0, hs⟩ := str_readsZ Tryz.underlying9 _ _ _ r0 (z0 hz)
  obtain ⟨a, q1, hi⟩ := int_reads Tryz.underlying3 _ _ _ r1
  obtain ⟨A, cp, ks, q2, k1, k2, k3, k4, k5⟩ := open_cellsZ tyC (fun t => TyIn w t ∧ wideT t = true) Tryz.underlying28 (by kernel_rfl) (fun m hm cs x hh => IH m (by omega) cs x hh) r2 (z2 hz)
  rw [show Tryz.prog.bytesOf 37 = 48 from by kernel_rfl] at k5
  unfold reachBytes at k5
  simp only [List.cons.injEq, and_true, strC] at q0 q1
  subst q0 q1 q2
  refine ⟨.mk s a A cp ks, ?_, TyIn.mk k1 k2 (Nat.le_trans hs (by decide)) k3 (fun k hk => (k4 k hk).1), wideT_mk (by omega) (fun k hk => (k4 k hk).2)⟩
  match cs, hl with
  | [a0, a1, a2], _ =>
    simp only [List.getElem?_cons_zero, List.getElem?_cons_succ, Option.some.injEq] at e0 e1 e2
    subst e0 e1 e2
    rfl
theorem proof_reads : ∀ (fuel : Nat) (cs : List Value) (x : DataW H × List MemPlace), DataW.trod enc Tryz.prog w base spare held fuel 31 cs = some x → Sized Tryz.prog 31 x.1 → ∃ t : Pf, cs = pfC.f t ∧ PfIn w t ∧ wideF t = true := by
  intro fuel
  induction fuel using Nat.strongRecOn with
  | ind fuel IH =>
  intro cs x h hz
  obtain ⟨hl, n, hn, hf⟩ := fields_oneZ Tryz.underlying31 (by kernel_rfl) (by kernel_rfl) h
  obtain ⟨v0, y0, e0, r0, z0⟩ := hf 0 _ rfl
  obtain ⟨v1, y1, e1, r1, z1⟩ := hf 1 _ rfl
  obtain ⟨v2, y2, e2, r2, z2⟩ := hf 2 _ rfl
  obtain ⟨v3, y3, e3, r3, z3⟩ := hf 3 _ rfl
  obtain ⟨k, q0, -⟩ := int_reads Tryz.underlying3 _ _ _ r0
  obtain ⟨m, q1, -⟩ := int_reads Tryz.underlying3 _ _ _ r1
  obtain ⟨T, tc, ts, q2, b1, b2, b3, b4, b5⟩ := open_cellsZ tyC (fun t => TyIn w t ∧ wideT t = true) Tryz.underlying28 (by kernel_rfl) (fun m hm cs x hh => type_readsW m cs x hh) r2 (z2 hz)
  rw [show Tryz.prog.bytesOf 37 = 48 from by kernel_rfl] at b5
  unfold reachBytes at b5
  obtain ⟨A, cp, ks, q3, c1, c2, c3, c4, -⟩ := open_cellsZ pfC (fun t => PfIn w t ∧ wideF t = true) Tryz.underlying29 (by kernel_rfl) (fun m hm cs x hh => IH m (by omega) cs x hh) r3 (z3 hz)
  simp only [List.cons.injEq, and_true] at q0 q1
  subst q0 q1 q2 q3
  have hw : wideF (.mk k m T tc ts A cp ks) = true := by
    rw [wideF_eq, Bool.and_eq_true, Bool.and_eq_true]
    exact ⟨⟨decide_eq_true (show ts.length ≤ 3000000000000 by omega), List.all_eq_true.2 fun x hx => (b4 x hx).2⟩, List.all_eq_true.2 fun x hx => (c4 x hx).2⟩
  refine ⟨.mk k m T tc ts A cp ks, ?_, .mk ⟨b1, b2, c1, c2, ⟨b3, fun x hx => (b4 x hx).1⟩, c3⟩ (fun x hx => (c4 x hx).1), hw⟩
  match cs, hl with
  | [x0, x1, x2, x3], _ =>
    simp only [List.getElem?_cons_zero, List.getElem?_cons_succ, Option.some.injEq] at e0 e1 e2 e3
    subst e0 e1 e2 e3
    rfl
theorem open_proof {v : Value} {d : DataW H} {p : List MemPlace} (h : DataW.Trod enc Tryz.prog w base spare held 31 v d p) (hv : ∃ cs, v = .agg cs) (hz : Sized Tryz.prog 31 d) : ∃ t : Pf, v = pfV t ∧ PfIn w t ∧ wideF t = true := by
  obtain ⟨arr, rfl⟩ := hv
  obtain ⟨fuel, hf⟩ := h
  obtain ⟨t, e, ht⟩ := proof_reads fuel _ _ hf hz
  refine ⟨t, ?_, ht⟩
  have e1 : arr.toList = pfC.f t := by simpa [Value.cells] using e
  have e2 : arr = (pfC.f t).toArray := by rw [← e1]
  rw [e2]
  rfl
theorem open_proofs {v : Value} {d : DataW H} {p : List MemPlace} (h : DataW.Trod enc Tryz.prog w base spare held 29 v d p) (hv : ∃ a n c, v = .slice a n c) (hz : Sized Tryz.prog 29 d) :
    ∃ (A : Option Addr) (cap : Nat) (l : List Pf), v = .slice A l.length cap ∧ l.length ≤ cap ∧ cap ≤ 9223372036854775807 ∧ PfsIn w A l ∧ ∀ x ∈ l, wideF x = true := by
  obtain ⟨A, cap, l, e, h1, h2, h3, h4⟩ := open_rowsZ8 pfC (fun t => PfIn w t ∧ wideF t = true) Tryz.underlying29 (by kernel_rfl) (fun n cs x hh => proof_reads n cs x hh) h hv hz
  exact ⟨A, cap, l, e, h1, h2, ⟨h3, fun x hx => (h4 x hx).1⟩, fun x hx => (h4 x hx).2⟩
theorem open_preds {v : Value} {d : DataW H} {p : List MemPlace} (h : DataW.Trod enc Tryz.prog w base spare held 27 v d p) (hv : ∃ a n c, v = .slice a n c) (hz : Sized Tryz.prog 27 d) :
    ∃ (A : Option Addr) (cap : Nat) (l : List Pd), v = .slice A l.length cap ∧ l.length ≤ cap ∧ cap ≤ 9223372036854775807 ∧ PdsIn w A l := by
  obtain ⟨A, cap, l, e, h1, h2, h3, h4⟩ := open_rowsZ8 pdC (fun t => PdIn w t ∧ okI t.ty = true) Tryz.underlying27 (by kernel_rfl) (fun n cs x hh => pred_reads n cs x hh) h hv hz
  exact ⟨A, cap, l, e, h1, h2, ⟨h3, fun x hx => (h4 x hx).1⟩⟩
end

end Go.Proofs.YtpdcjjgkpbpleaaGreatDoor
