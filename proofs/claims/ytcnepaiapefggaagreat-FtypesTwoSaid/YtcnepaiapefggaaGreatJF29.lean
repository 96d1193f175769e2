/- Arguments that are types for all of some variables, or schemes, opened. -/
import Derived.Test.YtcnepaiapefggaaGreatJF28
/- Arguments that are types for all of some variables, or schemes, opened. -/
namespace Go.Proofs.YtcnepaiapefggaaGreat
open Go.RowKit Go.ChangeShapes Go.WideShapes Go.Deep

section
variable {H : Type} {enc : TypeId × Value → H} {P : Program} {w : World} {base : Nat} {spare : Nat → Bool} {held : Bool}
theorem fields_manyZ {t : TypeId} {fs : Array Field} {fuel : Nat} {cs : List Value} {x : DataW H × List MemPlace} (hs : P.underlying t = some (.struct fs)) (h : DataW.trod enc P w base spare held fuel t cs = some x) :
    cs.length = P.cellsOf t ∧ ∃ n, fuel = n + 1 ∧ ∀ (j : Nat) (f : Field), fs[j]? = some f → ∃ y, DataW.trod enc P w base spare held n f.type ((cs.drop f.offset).take (P.cellsOf f.type)) = some y ∧ (Sized P t x.1 → Sized P f.type y.1) := by
  obtain ⟨ys, n, hn, hx, hlen, hyl, hf⟩ := DataW.trod_struct hs h
  refine ⟨hlen, n, hn, fun j f hj => ?_⟩
  have hjl : j < fs.size := (Array.getElem?_eq_some_iff.1 hj).1
  refine ⟨_, (hf j f hj).trans (List.getElem?_eq_getElem (by omega)), fun hz n hn => hz n ?_⟩
  rw [hx]
  unfold DataW.weights
  rw [hs]
  exact DataW.weights_mem_each (j := j) (t := f.type) (by rw [List.getElem?_map, Array.getElem?_toList, hj]; rfl) (by rw [List.getElem?_map, List.getElem?_eq_getElem (by omega)]; rfl) n hn
end

section
variable {H : Type} {enc : TypeId × Value → H} {w : World} {base : Nat} {spare : Nat → Bool} {held : Bool}
set_option maxRecDepth 100000 in
theorem poly_reads (fuel : Nat) (cs : List Value) (x : DataW H × List MemPlace) (h : DataW.trod enc Tryz.prog w base spare held fuel 31 cs = some x) (hz : Sized Tryz.prog 31 x.1) :
    ∃ p : Po, cs = [.slice p.A p.vars.length p.cap, encStr p.ty.con, .int .i64 p.ty.var, .slice p.ty.A p.ty.args.length p.ty.cap] ∧ PoIn w p ∧ okI p.ty = true ∧ okV p.vars := by
  obtain ⟨hl, n, hn, hf⟩ := fields_manyZ Tryz.underlying31 h
  have hl4 : cs.length = 4 := hl.trans (by kernel_rfl)
  obtain ⟨y0, r0, z0⟩ := hf 0 _ rfl
  obtain ⟨y1, r1, z1⟩ := hf 1 _ rfl
  match cs, hl4 with
  | [a0, a1, a2, a3], _ =>
    have e0 : ((([a0, a1, a2, a3] : List Value).drop 0).take (Tryz.prog.cellsOf 29)) = [a0] := by rw [show Tryz.prog.cellsOf 29 = 1 from by kernel_rfl]; rfl
    have e1 : ((([a0, a1, a2, a3] : List Value).drop 1).take (Tryz.prog.cellsOf 24)) = [a1, a2, a3] := by rw [show Tryz.prog.cellsOf 24 = 3 from by kernel_rfl]; rfl
    have r0' : DataW.trod enc Tryz.prog w base spare held n 29 [a0] = some y0 := by rw [← e0]; exact r0
    have r1' : DataW.trod enc Tryz.prog w base spare held n 24 [a1, a2, a3] = some y1 := by rw [← e1]; exact r1
    obtain ⟨A, cp, vs, q0, k1, k2, k3, k4, _⟩ := open_cellsZ intC (fun v : Int => -9223372036854775808 ≤ v ∧ v ≤ 9223372036854775807) Tryz.underlying29 (by kernel_rfl) (fun m hm cs x hh _ => by
      obtain ⟨a, qa, hi⟩ := int_reads Tryz.underlying3 _ _ _ hh
      exact ⟨a, qa, wf_lo hi, wf_hi hi⟩) r0' (z0 hz)
    obtain ⟨t, q1, ht, ok⟩ := type_reads _ _ _ r1' (z1 hz)
    subst q0
    have q1' : [a1, a2, a3] = [encStr t.con, .int .i64 t.var, .slice t.A t.args.length t.cap] := q1
    simp only [List.cons.injEq, and_true] at q1'
    obtain ⟨rfl, rfl, rfl⟩ := q1'
    exact ⟨⟨vs, A, cp, t⟩, rfl, ⟨k1, k2, k3, ht⟩, ok, k4⟩
theorem open_poly {v : Value} {d : DataW H} {p : List MemPlace} (h : DataW.Trod enc Tryz.prog w base spare held 31 v d p) (hv : ∃ cs, v = .agg cs) (hz : Sized Tryz.prog 31 d) : ∃ t : Po, v = poV t ∧ PoIn w t ∧ okI t.ty = true ∧ okV t.vars := by
  obtain ⟨arr, rfl⟩ := hv
  obtain ⟨fuel, hf⟩ := h
  obtain ⟨t, e, ht⟩ := poly_reads fuel _ _ hf hz
  refine ⟨t, ?_, ht⟩
  have e1 : arr.toList = [.slice t.A t.vars.length t.cap, encStr t.ty.con, .int .i64 t.ty.var, .slice t.ty.A t.ty.args.length t.ty.cap] := by simpa [Value.cells] using e
  have e2 : arr = ([.slice t.A t.vars.length t.cap, encStr t.ty.con, .int .i64 t.ty.var, .slice t.ty.A t.ty.args.length t.ty.cap] : List Value).toArray := by rw [← e1]
  rw [e2]
  rfl
end

end Go.Proofs.YtcnepaiapefggaaGreat
