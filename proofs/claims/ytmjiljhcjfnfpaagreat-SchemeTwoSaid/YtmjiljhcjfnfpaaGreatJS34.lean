/- Arguments opened, with the form's own reach of what lies in them. -/
import Derived.Test.YtmjiljhcjfnfpaaGreatJS33
import Derived.SizedLaws
import Derived.Lib.SmallJoins
/- Arguments opened, with the form's own reach of what lies in them. -/
namespace Go.Proofs.YtmjiljhcjfnfpaaGreat
open Go.RowKit Go.ChangeShapes Go.WideShapes Go.Deep

/-- Whatever lies in a datum is within the form's reach. -/
def Sized {H : Type} (P : Program) (t : TypeId) (d : DataW H) : Prop := ∀ n ∈ d.weights P t, n ≤ reachBytes
theorem Sized.of_each {H : Type} {P : Program} {ts : List TypeId} {ds : List (DataW H)} (h : (DataW.weightsEach P ts ds).all (· ≤ reachBytes) = true) {j : Nat} {t : TypeId} {d : DataW H} (ht : ts[j]? = some t) (hd : ds[j]? = some d) : Sized P t d := fun n hn => by
  have := List.all_eq_true.1 h _ (DataW.weights_mem_each ht hd n hn)
  simpa using this
theorem weightsAll_mem {H : Type} {P : Program} {e : TypeId} {d : DataW H} {n : Nat} : ∀ {l : List (DataW H)}, d ∈ l → n ∈ d.weights P e → n ∈ DataW.weightsAll P e l
  | [], h, _ => by cases h
  | x :: l, h, hn => by
    unfold DataW.weightsAll
    rw [List.mem_append]
    rcases List.mem_cons.1 h with rfl | h
    · exact .inl hn
    · exact .inr (weightsAll_mem h hn)

section
variable {H : Type} {enc : TypeId × Value → H} {P : Program} {w : World} {base : Nat} {spare : Nat → Bool} {held : Bool}
theorem fields_oneZ {t : TypeId} {fs : Array Field} {fuel : Nat} {cs : List Value} {x : DataW H × List MemPlace} (hs : P.underlying t = some (.struct fs)) (hone : oneCellFields P fs = true) (hC : P.cellsOf t = fs.size)
    (h : DataW.trod enc P w base spare held fuel t cs = some x) :
    cs.length = fs.size ∧ ∃ n, fuel = n + 1 ∧ ∀ (j : Nat) (f : Field), fs[j]? = some f → ∃ v y, cs[j]? = some v ∧ DataW.trod enc P w base spare held n f.type [v] = some y ∧ (Sized P t x.1 → Sized P f.type y.1) := by
  obtain ⟨ys, n, hn, hx, hlen, hyl, hf⟩ := DataW.trod_struct hs h
  refine ⟨by rw [hlen, hC], n, hn, fun j f hj => ?_⟩
  obtain ⟨ho, hk⟩ := hone_of hone j f hj
  have hjl : j < fs.size := (Array.getElem?_eq_some_iff.1 hj).1
  have hv : cs[j]? = some (cs[j]'(by omega)) := List.getElem?_eq_getElem (by omega)
  have h1 := hf j f hj
  rw [ho, hk] at h1
  have e1 : (cs.drop j).take 1 = [cs[j]'(by omega)] := by rw [List.drop_eq_getElem_cons (by omega)]; rfl
  rw [e1] at h1
  refine ⟨_, _, hv, h1.trans (List.getElem?_eq_getElem (by omega)), fun hz n hn => hz n ?_⟩
  rw [hx]
  unfold DataW.weights
  rw [hs]
  exact DataW.weights_mem_each (j := j) (t := f.type) (by rw [List.getElem?_map, Array.getElem?_toList, hj]; rfl) (by rw [List.getElem?_map, List.getElem?_eq_getElem (by omega)]; rfl) n hn

theorem open_cellsZ {α : Type} (C : Coder α) (Q : α → Prop) {t e : TypeId} (ht : P.underlying t = some (.slice e)) (hC : P.cellsOf e = C.k) {fuel : Nat} {v : Value} {x : DataW H × List MemPlace}
    (he : ∀ n, n < fuel → ∀ cs x, DataW.trod enc P w base spare held n e cs = some x → Sized P e x.1 → ∃ a, cs = C.f a ∧ Q a)
    (h : DataW.trod enc P w base spare held fuel t [v] = some x) (hz : Sized P t x.1) :
    ∃ (A : Option Addr) (c : Nat) (xs : List α), v = .slice A xs.length c ∧ xs.length ≤ c ∧ c ≤ 9223372036854775807 ∧ RowOf C w A xs ∧ (∀ x ∈ xs, Q x) ∧ xs.length * P.bytesOf e ≤ reachBytes := by
  rcases DataW.trod_slice ht h with ⟨hcs, _⟩ | ⟨a, len, cap, elems, rest, n, hn, hcs, hx, hb, hl, hm, hlen, hel, -, -⟩
  · simp at hcs
    subst hcs
    exact ⟨none, 0, [], rfl, Nat.le_refl _, by omega, RowOf.nil C _ _, by simp, by simp⟩
  · simp at hcs
    subst hcs
    have hw : (x.1).weights P t = ((elems.map (·.1)).length + (rest.map (·.1)).length) * P.bytesOf e :: (DataW.weightsAll P e (elems.map (·.1)) ++ DataW.weightsAll P e (rest.map (·.1))) := by
      rw [hx]
      show DataW.weights P t (.slice _ _) = _
      unfold DataW.weights
      rw [ht]
    obtain ⟨xs, hxl, hx2, hq⟩ := list_all (α := α) (P := fun i x => w.cells? base (a.add (i * C.k)) C.k = some (C.f x)) (Q := Q) len (fun i hi' => by
      have h1 := hel i hi'
      rw [List.getElem?_eq_getElem (by omega)] at h1
      obtain ⟨cs', h2, h3⟩ := Option.bind_eq_some_iff.1 h1
      obtain ⟨y, rfl, hy⟩ := he n (by omega) _ _ h3 (fun m hm => hz m (by
        rw [hw]
        refine List.mem_cons_of_mem _ (List.mem_append.2 (.inl (weightsAll_mem (List.mem_map.2 ⟨_, List.getElem_mem (by omega), rfl⟩) hm)))))
      rw [hC] at h2
      exact ⟨y, h2, hy⟩)
    subst hxl
    refine ⟨some a, cap, xs, rfl, hl, by unfold maxLen at hm; omega, Row.of_cells C.pos C.f C.hf xs hx2, hq, ?_⟩
    have := hz _ (by rw [hw]; exact List.mem_cons_self)
    rw [List.length_map, List.length_map, hlen] at this
    exact Nat.le_trans (Nat.mul_le_mul_right _ (Nat.le_add_right _ _)) this

theorem str_readsZ {t : TypeId} (ht : P.underlying t = some .string) (n : Nat) (cs : List Value) (x : DataW H × List MemPlace) (h : DataW.trod enc P w base spare held n t cs = some x) (hz : Sized P t x.1) :
    ∃ a : Str, cs = strC.f a ∧ a.length ≤ 140737488351232 := by
  obtain ⟨s, e, hx, hs⟩ := DataW.trod_string ht h
  refine ⟨s.data.toList, by rw [e]; simp [strC, encStr], ?_⟩
  have := hz s.data.toList.length (by rw [hx]; show _ ∈ DataW.weights P t (.lit (.string _)); unfold DataW.weights; exact List.mem_cons_self)
  exact this
end

end Go.Proofs.YtmjiljhcjfnfpaaGreat

/- Arguments that are types, opened. -/
namespace Go.Proofs.YtmjiljhcjfnfpaaGreat
open Go.RowKit Go.ChangeShapes Go.WideShapes Go.Deep

theorem wf_lo {a : Int} (h : (Lit.int .i64 a).wf = true) : -9223372036854775808 ≤ a := by
  have h1 : decide (IntKind.i64.min ≤ a) && decide (a ≤ IntKind.i64.max) := h
  rw [Bool.and_eq_true] at h1
  exact of_decide_eq_true h1.1
theorem wf_hi {a : Int} (h : (Lit.int .i64 a).wf = true) : a ≤ 9223372036854775807 := by
  have h1 : decide (IntKind.i64.min ≤ a) && decide (a ≤ IntKind.i64.max) := h
  rw [Bool.and_eq_true] at h1
  exact of_decide_eq_true h1.2
section
variable {H : Type} {enc : TypeId × Value → H} {w : World} {base : Nat} {spare : Nat → Bool} {held : Bool}
theorem type_reads : ∀ (fuel : Nat) (cs : List Value) (x : DataW H × List MemPlace), DataW.trod enc Tryz.prog w base spare held fuel 25 cs = some x → Sized Tryz.prog 25 x.1 → ∃ t : Ty, cs = tyC.f t ∧ TyIn w t ∧ okI t = true := by
  intro fuel
  induction fuel using Nat.strongRecOn with
  | ind fuel IH =>
  intro cs x h hz
  obtain ⟨hl, n, hn, hf⟩ := fields_oneZ Tryz.underlying25 (by kernel_rfl) (by kernel_rfl) h
  obtain ⟨v0, y0, e0, r0, z0⟩ := hf 0 _ rfl
  obtain ⟨v1, y1, e1, r1, z1⟩ := hf 1 _ rfl
  obtain ⟨v2, y2, e2, r2, z2⟩ := hf 2 _ rfl
  obtain ⟨s, q0, hs⟩ := str_readsZ Tryz.underlying9 _ _ _ r0 (z0 hz)
  obtain ⟨a, q1, hi⟩ := int_reads Tryz.underlying3 _ _ _ r1
  obtain ⟨A, cp, ks, q2, k1, k2, k3, k4, _⟩ := open_cellsZ tyC (fun t => TyIn w t ∧ okI t = true) Tryz.underlying23 (by kernel_rfl) (fun m hm cs x hh => IH m (by omega) cs x hh) r2 (z2 hz)
  simp only [List.cons.injEq, and_true, strC] at q0 q1
  subst q0 q1 q2
  refine ⟨.mk s a A cp ks, ?_, TyIn.mk k1 k2 (Nat.le_trans hs (by decide)) k3 (fun k hk => (k4 k hk).1), okI_mk (wf_lo hi) (wf_hi hi) hs (fun k hk => (k4 k hk).2)⟩
  match cs, hl with
  | [a0, a1, a2], _ =>
    simp only [List.getElem?_cons_zero, List.getElem?_cons_succ, Option.some.injEq] at e0 e1 e2
    subst e0 e1 e2
    rfl
theorem open_type {v : Value} {d : DataW H} {p : List MemPlace} (h : DataW.Trod enc Tryz.prog w base spare held 25 v d p) (hv : ∃ cs, v = .agg cs) (hz : Sized Tryz.prog 25 d) : ∃ t : Ty, v = tyV t ∧ TyIn w t ∧ okI t = true := by
  obtain ⟨arr, rfl⟩ := hv
  obtain ⟨fuel, hf⟩ := h
  obtain ⟨t, e, ht, hok⟩ := type_reads fuel _ _ hf hz
  refine ⟨t, ?_, ht, hok⟩
  have e1 : arr.toList = tyC.f t := by simpa [Value.cells] using e
  have e2 : arr = (tyC.f t).toArray := by rw [← e1]
  rw [e2]
  rfl
end

end Go.Proofs.YtmjiljhcjfnfpaaGreat

/- A struct's fields, opened. -/
namespace Go.Proofs.YtmjiljhcjfnfpaaGreat
open Go.RowKit Go.ChangeShapes Go.WideShapes Go.Deep

section
variable {H : Type} {enc : TypeId × Value → H} {P : Program} {w : World} {base : Nat} {spare : Nat → Bool} {held : Bool}
theorem fields_manyZ {t : TypeId} {fs : Array Field} {fuel : Nat} {cs : List Value} {x : DataW H × List MemPlace} (hs : P.underlying t = some (.struct fs)) (h : DataW.trod enc P w base spare held fuel t cs = some x) :
    cs.length = P.cellsOf t ∧ ∃ n, fuel = n + 1 ∧ ∀ (j : Nat) (f : Field), fs[j]? = some f → ∃ y, DataW.trod enc P w base spare held n f.type ((cs.drop f.offset).take (P.cellsOf f.type)) = some y ∧ (Sized P t x.1 → Sized P f.type y.1) := by
  obtain ⟨ys, n, hn, hx, hlen, hyl, hf⟩ := DataW.trod_struct hs h
  refine ⟨hlen, n, hn, fun j f hj => ?_⟩
  have hjl : j < fs.size := (Array.getElem?_eq_some_iff.1 hj).1
  refine ⟨_, (hf j f hj).trans (List.getElem?_eq_getElem (by omega)), fun hz n hn => hz n ?_⟩
  rw [hx]
  unfold DataW.weights
  rw [hs]
  exact DataW.weights_mem_each (j := j) (t := f.type) (by rw [List.getElem?_map, Array.getElem?_toList, hj]; rfl) (by rw [List.getElem?_map, List.getElem?_eq_getElem (by omega)]; rfl) n hn
end

end Go.Proofs.YtmjiljhcjfnfpaaGreat

/- Arguments that are predicates, opened. -/
namespace Go.Proofs.YtmjiljhcjfnfpaaGreat
open Go.RowKit Go.ChangeShapes Go.WideShapes Go.Deep

section
variable {H : Type} {enc : TypeId × Value → H} {w : World} {base : Nat} {spare : Nat → Bool} {held : Bool}
set_option maxRecDepth 100000 in
theorem pred_reads (fuel : Nat) (cs : List Value) (x : DataW H × List MemPlace) (h : DataW.trod enc Tryz.prog w base spare held fuel 40 cs = some x) (hz : Sized Tryz.prog 40 x.1) :
    ∃ p : Pd, cs = pdC.f p ∧ PdIn w p ∧ okI p.ty = true := by
  obtain ⟨hl, n, hn, hf⟩ := fields_manyZ Tryz.underlying40 h
  have hl4 : cs.length = 4 := hl.trans (by kernel_rfl)
  obtain ⟨y0, r0, z0⟩ := hf 0 _ rfl
  obtain ⟨y1, r1, z1⟩ := hf 1 _ rfl
  match cs, hl4 with
  | [a0, a1, a2, a3], _ =>
    have e0 : ((([a0, a1, a2, a3] : List Value).drop 0).take (Tryz.prog.cellsOf 9)) = [a0] := by rw [show Tryz.prog.cellsOf 9 = 1 from by kernel_rfl]; rfl
    have e1 : ((([a0, a1, a2, a3] : List Value).drop 1).take (Tryz.prog.cellsOf 25)) = [a1, a2, a3] := by rw [show Tryz.prog.cellsOf 25 = 3 from by kernel_rfl]; rfl
    have r0' : DataW.trod enc Tryz.prog w base spare held n 9 [a0] = some y0 := by rw [← e0]; exact r0
    have r1' : DataW.trod enc Tryz.prog w base spare held n 25 [a1, a2, a3] = some y1 := by rw [← e1]; exact r1
    obtain ⟨s, q0, hs⟩ := str_readsZ Tryz.underlying9 _ _ _ r0' (z0 hz)
    obtain ⟨t, q1, ht, ok⟩ := type_reads _ _ _ r1' (z1 hz)
    have q1' : [a1, a2, a3] = [encStr t.con, .int .i64 t.var, .slice t.A t.args.length t.cap] := q1
    simp only [List.cons.injEq, and_true, strC] at q0 q1'
    obtain ⟨rfl, rfl, rfl⟩ := q1'
    subst q0
    exact ⟨⟨s, t⟩, rfl, ⟨Nat.le_trans hs (by decide), ht⟩, ok⟩
end

end Go.Proofs.YtmjiljhcjfnfpaaGreat

/- Arguments that are schemes, opened: all of their numbers are ints. -/
namespace Go.Proofs.YtmjiljhcjfnfpaaGreat
open Go.RowKit Go.ChangeShapes Go.WideShapes Go.Deep

section
variable {H : Type} {enc : TypeId × Value → H} {w : World} {base : Nat} {spare : Nat → Bool} {held : Bool}
set_option maxRecDepth 100000 in
theorem scheme_readsS (fuel : Nat) (cs : List Value) (x : DataW H × List MemPlace) (h : DataW.trod enc Tryz.prog w base spare held fuel 27 cs = some x) (hz : Sized Tryz.prog 27 x.1) :
    ∃ s : Sc, cs = [.int .i64 s.n, .slice s.A s.preds.length s.cap, encStr s.ty.con, .int .i64 s.ty.var, .slice s.ty.A s.ty.args.length s.ty.cap] ∧ ScIn w s ∧ okS s := by
  obtain ⟨hl, n, hn, hf⟩ := fields_manyZ Tryz.underlying27 h
  have hl4 : cs.length = 5 := hl.trans (by kernel_rfl)
  obtain ⟨y0, r0, z0⟩ := hf 0 _ rfl
  obtain ⟨y1, r1, z1⟩ := hf 1 _ rfl
  obtain ⟨y2, r2, z2⟩ := hf 2 _ rfl
  match cs, hl4 with
  | [a0, a1, a2, a3, a4], _ =>
    have e0 : ((([a0, a1, a2, a3, a4] : List Value).drop 0).take (Tryz.prog.cellsOf 3)) = [a0] := by rw [show Tryz.prog.cellsOf 3 = 1 from by kernel_rfl]; rfl
    have e1 : ((([a0, a1, a2, a3, a4] : List Value).drop 1).take (Tryz.prog.cellsOf 22)) = [a1] := by rw [show Tryz.prog.cellsOf 22 = 1 from by kernel_rfl]; rfl
    have e2 : ((([a0, a1, a2, a3, a4] : List Value).drop 2).take (Tryz.prog.cellsOf 25)) = [a2, a3, a4] := by rw [show Tryz.prog.cellsOf 25 = 3 from by kernel_rfl]; rfl
    have r0' : DataW.trod enc Tryz.prog w base spare held n 3 [a0] = some y0 := by rw [← e0]; exact r0
    have r1' : DataW.trod enc Tryz.prog w base spare held n 22 [a1] = some y1 := by rw [← e1]; exact r1
    have r2' : DataW.trod enc Tryz.prog w base spare held n 25 [a2, a3, a4] = some y2 := by rw [← e2]; exact r2
    obtain ⟨m, q0, hi⟩ := int_reads Tryz.underlying3 _ _ _ r0'
    obtain ⟨A, cp, l, q1, k1, k2, k3, k4, _⟩ := open_cellsZ pdC (fun p => PdIn w p ∧ okI p.ty = true) Tryz.underlying22 (by kernel_rfl) (fun m hm cs x hh => pred_reads m cs x hh) r1' (z1 hz)
    obtain ⟨t, q2, ht, ok⟩ := type_reads _ _ _ r2' (z2 hz)
    have q2' : [a2, a3, a4] = [encStr t.con, .int .i64 t.var, .slice t.A t.args.length t.cap] := q2
    simp only [List.cons.injEq, and_true] at q0 q2'
    obtain ⟨rfl, rfl, rfl⟩ := q2'
    subst q0 q1
    exact ⟨⟨m, A, cp, l, t⟩, rfl, ⟨k1, k2, ⟨k3, fun p hp => (k4 p hp).1⟩, ht⟩, ⟨ok, fun p hp => (k4 p hp).2⟩⟩
theorem open_schemeS {v : Value} {d : DataW H} {p : List MemPlace} (h : DataW.Trod enc Tryz.prog w base spare held 27 v d p) (hv : ∃ cs, v = .agg cs) (hz : Sized Tryz.prog 27 d) : ∃ s : Sc, v = scV s ∧ ScIn w s ∧ okS s := by
  obtain ⟨arr, rfl⟩ := hv
  obtain ⟨fuel, hf⟩ := h
  obtain ⟨t, e, ht⟩ := scheme_readsS fuel _ _ hf hz
  refine ⟨t, ?_, ht⟩
  have e1 : arr.toList = [.int .i64 t.n, .slice t.A t.preds.length t.cap, encStr t.ty.con, .int .i64 t.ty.var, .slice t.ty.A t.ty.args.length t.ty.cap] := by simpa [Value.cells] using e
  have e2 : arr = ([.int .i64 t.n, .slice t.A t.preds.length t.cap, encStr t.ty.con, .int .i64 t.ty.var, .slice t.ty.A t.ty.args.length t.ty.cap] : List Value).toArray := by rw [← e1]
  rw [e2]
  rfl
end

end Go.Proofs.YtmjiljhcjfnfpaaGreat
