/- Arguments that are proofs, opened, where what is read is not too great. -/
import Derived.Test.YtpdcjjgkpbpleaaGreatDoorJP35
import Derived.Test.YtpdcjjgkpbpleaaGreatDoorRows
/- Arguments that are proofs, opened, where what is read is not too great. -/
namespace Go.Proofs.YtpdcjjgkpbpleaaGreatDoor
open Go.RowKit Go.ChangeShapes Go.WideShapes Go.Deep

section
variable {H : Type}
theorem ub_pos (d : DataW H) : 1 ≤ Rows.uptoBulk d := by
  cases d with
  | lit l => cases l <;> (unfold Rows.uptoBulk; omega)
  | _ => unfold Rows.uptoBulk; omega
theorem ub_slice (es rest : List (DataW H)) : Rows.uptoBulk (.slice es rest) = Rows.uptoBulkAll es + Rows.uptoBulkAll rest + 1 := by rw [Rows.uptoBulk]
theorem ub_agg (es : List (DataW H)) : Rows.uptoBulk (.agg es) = Rows.uptoBulkAll es + 1 := by rw [Rows.uptoBulk]
theorem ub_nil : Rows.uptoBulkAll ([] : List (DataW H)) = 0 := by rw [Rows.uptoBulkAll]
theorem ub_cons (d : DataW H) (r : List (DataW H)) : Rows.uptoBulkAll (d :: r) = Rows.uptoBulk d + Rows.uptoBulkAll r := by rw [Rows.uptoBulkAll]
theorem ub_app (a b : List (DataW H)) : Rows.uptoBulkAll (a ++ b) = Rows.uptoBulkAll a + Rows.uptoBulkAll b := by
  induction a with
  | nil => rw [ub_nil]; simp
  | cons d r ih => rw [List.cons_append, ub_cons, ub_cons, ih]; omega
theorem ub_mem {d : DataW H} : ∀ {l : List (DataW H)}, d ∈ l → Rows.uptoBulk d ≤ Rows.uptoBulkAll l
  | [], h => by cases h
  | x :: l, h => by
    rw [ub_cons]
    rcases List.mem_cons.1 h with rfl | h
    · omega
    · have := ub_mem h; omega
theorem ub_small {ds : List (DataW H)} (hk : Rows.uptoSmall H ds = true) {d : DataW H} (h : d ∈ ds) : Rows.uptoBulk d ≤ 1048576 := Nat.le_trans (ub_mem h) (of_decide_eq_true hk)
theorem ub_sum {α : Type} (f : α → Nat) (k : Nat) : ∀ (xs : List α) (es : List (DataW H)), es.length = xs.length → (∀ (i : Nat) (x : α) (e : DataW H), xs[i]? = some x → es[i]? = some e → k * f x ≤ Rows.uptoBulk e) → k * (xs.map f).sum ≤ Rows.uptoBulkAll es
  | [], _, _, _ => by simp
  | x :: xs, [], h, _ => by simp at h
  | x :: xs, e :: es, h, hq => by
    have h1 := hq 0 x e rfl rfl
    have h2 := ub_sum f k xs es (by simpa using h) (fun i x e hx he => hq (i + 1) x e hx he)
    rw [ub_cons, List.map_cons, List.sum_cons, Nat.mul_add]
    omega
end

section
variable {H : Type} {enc : TypeId × Value → H} {P : Program} {w : World} {base : Nat} {spare : Nat → Bool} {held : Bool}
theorem open_cellsU {α : Type} (C : Coder α) (Q : α → DataW H → Prop) {t e : TypeId} (ht : P.underlying t = some (.slice e)) (hC : P.cellsOf e = C.k) {fuel : Nat} {v : Value} {x : DataW H × List MemPlace}
    (he : ∀ n, n < fuel → ∀ cs x, DataW.trod enc P w base spare held n e cs = some x → Sized P e x.1 → ∃ a, cs = C.f a ∧ Q a x.1)
    (h : DataW.trod enc P w base spare held fuel t [v] = some x) (hz : Sized P t x.1) :
    ∃ (A : Option Addr) (c : Nat) (xs : List α), v = .slice A xs.length c ∧ xs.length ≤ c ∧ c ≤ 9223372036854775807 ∧ RowOf C w A xs ∧
      (∃ es : List (DataW H), es.length = xs.length ∧ (∀ (i : Nat) (x : α) (e : DataW H), xs[i]? = some x → es[i]? = some e → Q x e) ∧ Rows.uptoBulkAll es + 1 ≤ Rows.uptoBulk x.1) ∧ xs.length * P.bytesOf e ≤ reachBytes := by
  rcases DataW.trod_slice ht h with ⟨hcs, hx0⟩ | ⟨a, len, cap, elems, rest, n, hn, hcs, hx, hb, hl, hm, hlen, hel, -, -⟩
  · simp at hcs
    subst hcs
    exact ⟨none, 0, [], rfl, Nat.le_refl _, by omega, RowOf.nil C _ _, ⟨[], rfl, by simp, by rw [ub_nil]; exact ub_pos _⟩, by simp⟩
  · simp at hcs
    subst hcs
    have hw : (x.1).weights P t = ((elems.map (·.1)).length + (rest.map (·.1)).length) * P.bytesOf e :: (DataW.weightsAll P e (elems.map (·.1)) ++ DataW.weightsAll P e (rest.map (·.1))) := by
      rw [hx]
      show DataW.weights P t (.slice _ _) = _
      unfold DataW.weights
      rw [ht]
    have hx1 : x.1 = .slice (elems.map (·.1)) (rest.map (·.1)) := by rw [hx]
    obtain ⟨xs, hxl, hx2⟩ := list_of (P := fun i x => w.cells? base (a.add (i * C.k)) C.k = some (C.f x) ∧ ∀ e, (elems.map (·.1))[i]? = some e → Q x e) len (fun i hi' => by
      have h1 := hel i hi'
      rw [List.getElem?_eq_getElem (by omega)] at h1
      obtain ⟨cs', h2, h3⟩ := Option.bind_eq_some_iff.1 h1
      obtain ⟨y, rfl, hy⟩ := he n (by omega) _ _ h3 (fun m hm => hz m (by
        rw [hw]
        refine List.mem_cons_of_mem _ (List.mem_append.2 (.inl (weightsAll_mem (List.mem_map.2 ⟨_, List.getElem_mem (by omega), rfl⟩) hm)))))
      rw [hC] at h2
      refine ⟨y, h2, fun e' he' => ?_⟩
      rw [List.getElem?_map, List.getElem?_eq_getElem (by omega)] at he'
      injection he' with he'
      rw [← he']
      exact hy)
    subst hxl
    refine ⟨some a, cap, xs, rfl, hl, by unfold maxLen at hm; omega, Row.of_cells C.pos C.f C.hf xs (fun i hi => by obtain ⟨x, e, h1, -⟩ := hx2 i hi; exact ⟨x, e, h1⟩), ⟨elems.map (·.1), by rw [List.length_map, hlen], fun i x e hx he => ?_, ?_⟩, ?_⟩
    · have hi := (List.getElem?_eq_some_iff.1 hx).1
      obtain ⟨y, e1, -, h2⟩ := hx2 i hi
      rw [hx] at e1
      injection e1 with e1
      rw [e1]
      exact h2 e he
    · rw [hx1, ub_slice]
      omega
    · have := hz _ (by rw [hw]; exact List.mem_cons_self)
      rw [List.length_map, List.length_map, hlen] at this
      exact Nat.le_trans (Nat.mul_le_mul_right _ (Nat.le_add_right _ _)) this
theorem fields_oneU {t : TypeId} {fs : Array Field} {fuel : Nat} {cs : List Value} {x : DataW H × List MemPlace} (hs : P.underlying t = some (.struct fs)) (hone : oneCellFields P fs = true) (hC : P.cellsOf t = fs.size)
    (h : DataW.trod enc P w base spare held fuel t cs = some x) :
    cs.length = fs.size ∧ ∃ n, fuel = n + 1 ∧ ∃ ys : List (DataW H × List MemPlace), ys.length = fs.size ∧ Rows.uptoBulk x.1 = Rows.uptoBulkAll (ys.map (·.1)) + 1 ∧ ∀ (j : Nat) (f : Field), fs[j]? = some f → ∃ v y, cs[j]? = some v ∧ ys[j]? = some y ∧ DataW.trod enc P w base spare held n f.type [v] = some y ∧ (Sized P t x.1 → Sized P f.type y.1) := by
  obtain ⟨ys, n, hn, hx, hlen, hyl, hf⟩ := DataW.trod_struct hs h
  refine ⟨by rw [hlen, hC], n, hn, ys, hyl, by rw [hx, ub_agg], fun j f hj => ?_⟩
  obtain ⟨ho, hk⟩ := hone_of hone j f hj
  have hjl : j < fs.size := (Array.getElem?_eq_some_iff.1 hj).1
  have hv : cs[j]? = some (cs[j]'(by omega)) := List.getElem?_eq_getElem (by omega)
  have h1 := hf j f hj
  rw [ho, hk] at h1
  have e1 : (cs.drop j).take 1 = [cs[j]'(by omega)] := by rw [List.drop_eq_getElem_cons (by omega)]; rfl
  rw [e1] at h1
  refine ⟨_, _, hv, List.getElem?_eq_getElem (by omega), h1.trans (List.getElem?_eq_getElem (by omega)), fun hz n hn => hz n ?_⟩
  rw [hx]
  unfold DataW.weights
  rw [hs]
  exact DataW.weights_mem_each (j := j) (t := f.type) (by rw [List.getElem?_map, Array.getElem?_toList, hj]; rfl) (by rw [List.getElem?_map, List.getElem?_eq_getElem (by omega)]; rfl) n hn
end

section
variable {H : Type} {enc : TypeId × Value → H} {w : World} {base : Nat} {spare : Nat → Bool} {held : Bool}
theorem type_readsU : ∀ (fuel : Nat) (cs : List Value) (x : DataW H × List MemPlace), DataW.trod enc Tryz.prog w base spare held fuel 37 cs = some x → Sized Tryz.prog 37 x.1 → ∃ t : Ty, cs = tyC.f t ∧ (TyIn w t ∧ wideT t = true ∧ 4 * t.size ≤ Rows.uptoBulk x.1) := by
  intro fuel
  induction fuel using Nat.strongRecOn with
  | ind fuel IH =>
  intro cs x h hz
  obtain ⟨hl, n, hn, ys, hyl, hub, hf⟩ := fields_oneU Tryz.underlying37 (by kernel_rfl) (by kernel_rfl) h
  obtain ⟨v0, y0, e0, f0, r0, z0⟩ := hf 0 _ rfl
  obtain ⟨v1, y1, e1, f1, r1, z1⟩ := hf 1 _ rfl
  obtain ⟨v2, y2, e2, f2, r2, z2⟩ := hf 2 _ rfl
  obtain ⟨s, q0, hs⟩ := str_readsZ Tryz.underlying9 _ _ _ r0 (z0 hz)
  obtain ⟨a, q1, hi⟩ := int_reads Tryz.underlying3 _ _ _ r1
  obtain ⟨A, cp, ks, q2, k1, k2, k3, ⟨es, k4, k5, k6⟩, k7⟩ := open_cellsU tyC (fun t d => TyIn w t ∧ wideT t = true ∧ 4 * t.size ≤ Rows.uptoBulk d) Tryz.underlying28 (by kernel_rfl) (fun m hm cs x hh => IH m (by omega) cs x hh) r2 (z2 hz)
  rw [show Tryz.prog.bytesOf 37 = 48 from by kernel_rfl] at k7
  unfold reachBytes at k7
  simp only [List.cons.injEq, and_true, strC] at q0 q1
  subst q0 q1 q2
  have hes : ∀ k ∈ ks, TyIn w k ∧ wideT k = true := fun k hk => by
    obtain ⟨i, hi, rfl⟩ := List.mem_iff_getElem.1 hk
    have := k5 i _ _ (List.getElem?_eq_getElem hi) (List.getElem?_eq_getElem (by omega))
    exact ⟨this.1, this.2.1⟩
  have hsum := ub_sum Ty.size 4 ks es k4 (fun i x e hx he => (k5 i x e hx he).2.2)
  refine ⟨.mk s a A cp ks, ?_, TyIn.mk k1 k2 (Nat.le_trans hs (by decide)) k3 (fun k hk => (hes k hk).1), wideT_mk (by omega) (fun k hk => (hes k hk).2), ?_⟩
  · match cs, hl with
    | [a0, a1, a2], _ =>
      simp only [List.getElem?_cons_zero, List.getElem?_cons_succ, Option.some.injEq] at e0 e1 e2
      subst e0 e1 e2
      rfl
  · rw [hub]
    match ys, hyl with
    | [b0, b1, b2], _ =>
      simp only [List.getElem?_cons_zero, List.getElem?_cons_succ, Option.some.injEq] at f0 f1 f2
      subst f0 f1 f2
      simp only [List.map_cons, List.map_nil, ub_cons, ub_nil]
      have g0 := ub_pos b0.1
      have g1 := ub_pos b1.1
      rw [Ty.size_eq]
      show 4 * ((ks.map Ty.size).sum + 1) ≤ _
      omega
theorem proof_readsU : ∀ (fuel : Nat) (cs : List Value) (x : DataW H × List MemPlace), DataW.trod enc Tryz.prog w base spare held fuel 31 cs = some x → Sized Tryz.prog 31 x.1 → ∃ t : Pf, cs = pfC.f t ∧ (PfIn w t ∧ wideF t = true ∧ (Rows.uptoBulk x.1 ≤ 1048576 → smallF t = true)) := by
  intro fuel
  induction fuel using Nat.strongRecOn with
  | ind fuel IH =>
  intro cs x h hz
  obtain ⟨hl, n, hn, ys, hyl, hub, hf⟩ := fields_oneU Tryz.underlying31 (by kernel_rfl) (by kernel_rfl) h
  obtain ⟨v0, y0, e0, f0, r0, z0⟩ := hf 0 _ rfl
  obtain ⟨v1, y1, e1, f1, r1, z1⟩ := hf 1 _ rfl
  obtain ⟨v2, y2, e2, f2, r2, z2⟩ := hf 2 _ rfl
  obtain ⟨v3, y3, e3, f3, r3, z3⟩ := hf 3 _ rfl
  obtain ⟨k, q0, -⟩ := int_reads Tryz.underlying3 _ _ _ r0
  obtain ⟨m, q1, -⟩ := int_reads Tryz.underlying3 _ _ _ r1
  obtain ⟨T, tc, ts, q2, b1, b2, b3, ⟨es, b4, b5, b6⟩, b7⟩ := open_cellsU tyC (fun t d => TyIn w t ∧ wideT t = true ∧ 4 * t.size ≤ Rows.uptoBulk d) Tryz.underlying28 (by kernel_rfl) (fun m hm cs x hh => type_readsU m cs x hh) r2 (z2 hz)
  rw [show Tryz.prog.bytesOf 37 = 48 from by kernel_rfl] at b7
  unfold reachBytes at b7
  obtain ⟨A, cp, ks, q3, c1, c2, c3, ⟨fs, c4, c5, c6⟩, -⟩ := open_cellsU pfC (fun t d => PfIn w t ∧ wideF t = true ∧ (Rows.uptoBulk d ≤ 1048576 → smallF t = true)) Tryz.underlying29 (by kernel_rfl) (fun m hm cs x hh => IH m (by omega) cs x hh) r3 (z3 hz)
  simp only [List.cons.injEq, and_true] at q0 q1
  subst q0 q1 q2 q3
  have hts : ∀ i (hi : i < ts.length), TyIn w (ts[i]'hi) ∧ wideT (ts[i]'hi) = true ∧ 4 * (ts[i]'hi).size ≤ Rows.uptoBulkAll es := fun i hi => by
    have := b5 i _ _ (List.getElem?_eq_getElem hi) (List.getElem?_eq_getElem (by omega))
    exact ⟨this.1, this.2.1, Nat.le_trans this.2.2 (ub_mem (List.getElem_mem (by omega)))⟩
  have hks : ∀ i (hi : i < ks.length), PfIn w (ks[i]'hi) ∧ wideF (ks[i]'hi) = true ∧ (Rows.uptoBulkAll fs ≤ 1048576 → smallF (ks[i]'hi) = true) := fun i hi => by
    have := c5 i _ _ (List.getElem?_eq_getElem hi) (List.getElem?_eq_getElem (by omega))
    exact ⟨this.1, this.2.1, fun h => this.2.2 (Nat.le_trans (ub_mem (List.getElem_mem (by omega))) h)⟩
  have hw : wideF (.mk k m T tc ts A cp ks) = true := by
    rw [wideF_eq, Bool.and_eq_true, Bool.and_eq_true]
    exact ⟨⟨decide_eq_true (show ts.length ≤ 3000000000000 by omega), List.all_eq_true.2 fun x hx => by obtain ⟨i, hi, rfl⟩ := List.mem_iff_getElem.1 hx; exact (hts i hi).2.1⟩, List.all_eq_true.2 fun x hx => by obtain ⟨i, hi, rfl⟩ := List.mem_iff_getElem.1 hx; exact (hks i hi).2.1⟩
  refine ⟨.mk k m T tc ts A cp ks, ?_, .mk ⟨b1, b2, c1, c2, ⟨b3, fun x hx => by obtain ⟨i, hi, rfl⟩ := List.mem_iff_getElem.1 hx; exact (hts i hi).1⟩, c3⟩ (fun x hx => by obtain ⟨i, hi, rfl⟩ := List.mem_iff_getElem.1 hx; exact (hks i hi).1), hw, fun hbk => ?_⟩
  · match cs, hl with
    | [x0, x1, x2, x3], _ =>
      simp only [List.getElem?_cons_zero, List.getElem?_cons_succ, Option.some.injEq] at e0 e1 e2 e3
      subst e0 e1 e2 e3
      rfl
  · rw [hub] at hbk
    have h2 : Rows.uptoBulk y2.1 + Rows.uptoBulk y3.1 ≤ 1048576 := by
      match ys, hyl with
      | [d0, d1, d2, d3], _ =>
        simp only [List.getElem?_cons_zero, List.getElem?_cons_succ, Option.some.injEq] at f0 f1 f2 f3
        subst f0 f1 f2 f3
        simp only [List.map_cons, List.map_nil, ub_cons, ub_nil] at hbk
        omega
    rw [smallF_eq, Bool.and_eq_true, List.all_eq_true, List.all_eq_true]
    refine ⟨fun x hx => ?_, fun x hx => ?_⟩
    · obtain ⟨i, hi, rfl⟩ := List.mem_iff_getElem.1 hx
      exact decide_eq_true (show (ts[i]'hi).size ≤ 900000 by have := (hts i hi).2.2; omega)
    · obtain ⟨i, hi, rfl⟩ := List.mem_iff_getElem.1 hx
      exact (hks i hi).2.2 (by omega)
theorem open_proofU {v : Value} {d : DataW H} {p : List MemPlace} (h : DataW.Trod enc Tryz.prog w base spare held 31 v d p) (hv : ∃ cs, v = .agg cs) (hz : Sized Tryz.prog 31 d) (hk : Rows.uptoBulk d ≤ 1048576) : ∃ t : Pf, v = pfV t ∧ PfIn w t ∧ wideF t = true ∧ smallF t = true := by
  obtain ⟨arr, rfl⟩ := hv
  obtain ⟨fuel, hf⟩ := h
  obtain ⟨t, e, ht, hw, hs⟩ := proof_readsU fuel _ _ hf hz
  refine ⟨t, ?_, ht, hw, hs hk⟩
  have e1 : arr.toList = pfC.f t := by simpa [Value.cells] using e
  have e2 : arr = (pfC.f t).toArray := by rw [← e1]
  rw [e2]
  rfl
end

end Go.Proofs.YtpdcjjgkpbpleaaGreatDoor

/- Arguments that are all that a program declares, opened. (A program of ours has printed this.) -/
namespace Go.Proofs.YtpdcjjgkpbpleaaGreatDoor
open Go.RowKit Go.ChangeShapes Go.WideShapes Go.Deep

section
variable {H : Type} {enc : TypeId × Value → H} {w : World} {base : Nat} {spare : Nat → Bool} {held : Bool}
set_option maxRecDepth 100000 in
theorem con_reads (fuel : Nat) (cs : List Value) (x : DataW H × List MemPlace) (h : DataW.trod enc Tryz.prog w base spare held fuel 234 cs = some x) (hz : Sized Tryz.prog 234 x.1) :
    ∃ p : CoD, cs = coC.f p ∧ CoIn w p := by
  obtain ⟨hl, n, hn, hf⟩ := fields_manyZ Tryz.underlying234 h
  have hlN : cs.length = 2 := hl.trans (by kernel_rfl)
  obtain ⟨y0, r0, z0⟩ := hf 0 _ rfl
  obtain ⟨y1, r1, z1⟩ := hf 1 _ rfl
  match cs, hlN with
  | [a0, a1], _ =>
    have e0 : ((([a0, a1] : List Value).drop 0).take (Tryz.prog.cellsOf 9)) = [a0] := by rw [show Tryz.prog.cellsOf 9 = 1 from by kernel_rfl]; rfl
    have r0' : DataW.trod enc Tryz.prog w base spare held n 9 [a0] = some y0 := by rw [← e0]; exact r0
    have e1 : ((([a0, a1] : List Value).drop 1).take (Tryz.prog.cellsOf 28)) = [a1] := by rw [show Tryz.prog.cellsOf 28 = 1 from by kernel_rfl]; rfl
    have r1' : DataW.trod enc Tryz.prog w base spare held n 28 [a1] = some y1 := by rw [← e1]; exact r1
    obtain ⟨s0, q0, hs0⟩ := str_readsZ Tryz.underlying9 _ _ _ r0' (z0 hz)
    simp only [List.cons.injEq, and_true, strC] at q0
    subst q0
    obtain ⟨A1, cp1, l1, q1, ka1, kb1, kc1, kd1, ke1⟩ := open_cellsZ tyC (fun t => TyIn w t ∧ okI t = true) Tryz.underlying28 (by kernel_rfl) (fun m hm cs x hh hz => type_reads m cs x hh hz) r1' (z1 hz)
    subst q1
    exact ⟨⟨s0, A1, cp1, l1⟩, rfl, ⟨Nat.le_trans hs0 (by decide), ka1, kb1, ⟨kc1, fun p hp => (kd1 p hp).1⟩⟩⟩
set_option maxRecDepth 100000 in
theorem data_reads (fuel : Nat) (cs : List Value) (x : DataW H × List MemPlace) (h : DataW.trod enc Tryz.prog w base spare held fuel 226 cs = some x) (hz : Sized Tryz.prog 226 x.1) :
    ∃ p : DaD, cs = daC.f p ∧ DaIn w p := by
  obtain ⟨hl, n, hn, hf⟩ := fields_manyZ Tryz.underlying226 h
  have hlN : cs.length = 3 := hl.trans (by kernel_rfl)
  obtain ⟨y0, r0, z0⟩ := hf 0 _ rfl
  obtain ⟨y1, r1, z1⟩ := hf 1 _ rfl
  obtain ⟨y2, r2, z2⟩ := hf 2 _ rfl
  match cs, hlN with
  | [a0, a1, a2], _ =>
    have e0 : ((([a0, a1, a2] : List Value).drop 0).take (Tryz.prog.cellsOf 9)) = [a0] := by rw [show Tryz.prog.cellsOf 9 = 1 from by kernel_rfl]; rfl
    have r0' : DataW.trod enc Tryz.prog w base spare held n 9 [a0] = some y0 := by rw [← e0]; exact r0
    have e1 : ((([a0, a1, a2] : List Value).drop 1).take (Tryz.prog.cellsOf 3)) = [a1] := by rw [show Tryz.prog.cellsOf 3 = 1 from by kernel_rfl]; rfl
    have r1' : DataW.trod enc Tryz.prog w base spare held n 3 [a1] = some y1 := by rw [← e1]; exact r1
    have e2 : ((([a0, a1, a2] : List Value).drop 2).take (Tryz.prog.cellsOf 224)) = [a2] := by rw [show Tryz.prog.cellsOf 224 = 1 from by kernel_rfl]; rfl
    have r2' : DataW.trod enc Tryz.prog w base spare held n 224 [a2] = some y2 := by rw [← e2]; exact r2
    obtain ⟨s0, q0, hs0⟩ := str_readsZ Tryz.underlying9 _ _ _ r0' (z0 hz)
    simp only [List.cons.injEq, and_true, strC] at q0
    subst q0
    obtain ⟨m1, q1, hi1⟩ := int_reads Tryz.underlying3 _ _ _ r1'
    simp only [List.cons.injEq, and_true] at q1
    subst q1
    obtain ⟨A2, cp2, l2, q2, ka2, kb2, kc2, kd2, ke2⟩ := open_cellsZ coC (CoIn w) Tryz.underlying224 (by kernel_rfl) (fun m hm cs x hh hz => con_reads m cs x hh hz) r2' (z2 hz)
    subst q2
    exact ⟨⟨s0, m1, A2, cp2, l2⟩, rfl, ⟨Nat.le_trans hs0 (by decide), ka2, kb2, ⟨kc2, kd2⟩⟩⟩
set_option maxRecDepth 100000 in
theorem meth_reads (fuel : Nat) (cs : List Value) (x : DataW H × List MemPlace) (h : DataW.trod enc Tryz.prog w base spare held fuel 228 cs = some x) (hz : Sized Tryz.prog 228 x.1) :
    ∃ p : MeD, cs = meC.f p ∧ MeIn w p := by
  obtain ⟨hl, n, hn, hf⟩ := fields_manyZ Tryz.underlying228 h
  have hlN : cs.length = 5 := hl.trans (by kernel_rfl)
  obtain ⟨y0, r0, z0⟩ := hf 0 _ rfl
  obtain ⟨y1, r1, z1⟩ := hf 1 _ rfl
  obtain ⟨y2, r2, z2⟩ := hf 2 _ rfl
  match cs, hlN with
  | [a0, a1, a2, a3, a4], _ =>
    have e0 : ((([a0, a1, a2, a3, a4] : List Value).drop 0).take (Tryz.prog.cellsOf 9)) = [a0] := by rw [show Tryz.prog.cellsOf 9 = 1 from by kernel_rfl]; rfl
    have r0' : DataW.trod enc Tryz.prog w base spare held n 9 [a0] = some y0 := by rw [← e0]; exact r0
    have e1 : ((([a0, a1, a2, a3, a4] : List Value).drop 1).take (Tryz.prog.cellsOf 3)) = [a1] := by rw [show Tryz.prog.cellsOf 3 = 1 from by kernel_rfl]; rfl
    have r1' : DataW.trod enc Tryz.prog w base spare held n 3 [a1] = some y1 := by rw [← e1]; exact r1
    have e2 : ((([a0, a1, a2, a3, a4] : List Value).drop 2).take (Tryz.prog.cellsOf 37)) = [a2, a3, a4] := by rw [show Tryz.prog.cellsOf 37 = 3 from by kernel_rfl]; rfl
    have r2' : DataW.trod enc Tryz.prog w base spare held n 37 [a2, a3, a4] = some y2 := by rw [← e2]; exact r2
    obtain ⟨s0, q0, hs0⟩ := str_readsZ Tryz.underlying9 _ _ _ r0' (z0 hz)
    simp only [List.cons.injEq, and_true, strC] at q0
    subst q0
    obtain ⟨m1, q1, hi1⟩ := int_reads Tryz.underlying3 _ _ _ r1'
    simp only [List.cons.injEq, and_true] at q1
    subst q1
    obtain ⟨t2, q2, ht2, ok2⟩ := type_reads _ _ _ r2' (z2 hz)
    have q2' : [a2, a3, a4] = [encStr t2.con, .int .i64 t2.var, .slice t2.A t2.args.length t2.cap] := q2
    simp only [List.cons.injEq, and_true] at q2'
    obtain ⟨rfl, rfl, rfl⟩ := q2'
    exact ⟨⟨s0, m1, t2⟩, rfl, ⟨Nat.le_trans hs0 (by decide), ht2⟩⟩
set_option maxRecDepth 100000 in
theorem klass_reads (fuel : Nat) (cs : List Value) (x : DataW H × List MemPlace) (h : DataW.trod enc Tryz.prog w base spare held fuel 54 cs = some x) (hz : Sized Tryz.prog 54 x.1) :
    ∃ p : KlD, cs = klC.f p ∧ KlIn w p ∧ p.meths.length ≤ 2000000000000 := by
  obtain ⟨hl, n, hn, hf⟩ := fields_manyZ Tryz.underlying54 h
  have hlN : cs.length = 3 := hl.trans (by kernel_rfl)
  obtain ⟨y0, r0, z0⟩ := hf 0 _ rfl
  obtain ⟨y1, r1, z1⟩ := hf 1 _ rfl
  obtain ⟨y2, r2, z2⟩ := hf 2 _ rfl
  match cs, hlN with
  | [a0, a1, a2], _ =>
    have e0 : ((([a0, a1, a2] : List Value).drop 0).take (Tryz.prog.cellsOf 9)) = [a0] := by rw [show Tryz.prog.cellsOf 9 = 1 from by kernel_rfl]; rfl
    have r0' : DataW.trod enc Tryz.prog w base spare held n 9 [a0] = some y0 := by rw [← e0]; exact r0
    have e1 : ((([a0, a1, a2] : List Value).drop 1).take (Tryz.prog.cellsOf 51)) = [a1] := by rw [show Tryz.prog.cellsOf 51 = 1 from by kernel_rfl]; rfl
    have r1' : DataW.trod enc Tryz.prog w base spare held n 51 [a1] = some y1 := by rw [← e1]; exact r1
    have e2 : ((([a0, a1, a2] : List Value).drop 2).take (Tryz.prog.cellsOf 52)) = [a2] := by rw [show Tryz.prog.cellsOf 52 = 1 from by kernel_rfl]; rfl
    have r2' : DataW.trod enc Tryz.prog w base spare held n 52 [a2] = some y2 := by rw [← e2]; exact r2
    obtain ⟨s0, q0, hs0⟩ := str_readsZ Tryz.underlying9 _ _ _ r0' (z0 hz)
    simp only [List.cons.injEq, and_true, strC] at q0
    subst q0
    obtain ⟨A1, cp1, l1, q1, ka1, kb1, kc1, kd1, _⟩ := open_cellsZ strC (fun s : Str => s.length ≤ 1000000000000000000) Tryz.underlying51 (by kernel_rfl) (fun m hm cs x hh hz => by
      obtain ⟨s, q, hs⟩ := str_readsZ Tryz.underlying9 _ _ _ hh hz
      exact ⟨s, q, Nat.le_trans hs (by decide)⟩) r1' (z1 hz)
    subst q1
    obtain ⟨A2, cp2, l2, q2, ka2, kb2, kc2, kd2, ke2⟩ := open_cellsZ meC (MeIn w) Tryz.underlying52 (by kernel_rfl) (fun m hm cs x hh hz => meth_reads m cs x hh hz) r2' (z2 hz)
    subst q2
    rw [show Tryz.prog.bytesOf 228 = 72 from by kernel_rfl] at ke2
    unfold reachBytes at ke2
    exact ⟨⟨s0, A1, cp1, l1, A2, cp2, l2⟩, rfl, ⟨Nat.le_trans hs0 (by decide), ka1, kb1, strs_iff.2 kc1, kd1, ka2, kb2, ⟨kc2, kd2⟩⟩, by show l2.length ≤ 2000000000000; omega⟩
set_option maxRecDepth 100000 in
theorem inst_reads (fuel : Nat) (cs : List Value) (x : DataW H × List MemPlace) (h : DataW.trod enc Tryz.prog w base spare held fuel 56 cs = some x) (hz : Sized Tryz.prog 56 x.1) :
    ∃ p : InD, cs = inC.f p ∧ InIn w p := by
  obtain ⟨hl, n, hn, hf⟩ := fields_manyZ Tryz.underlying56 h
  have hlN : cs.length = 4 := hl.trans (by kernel_rfl)
  obtain ⟨y0, r0, z0⟩ := hf 0 _ rfl
  obtain ⟨y1, r1, z1⟩ := hf 1 _ rfl
  obtain ⟨y2, r2, z2⟩ := hf 2 _ rfl
  obtain ⟨y3, r3, z3⟩ := hf 3 _ rfl
  match cs, hlN with
  | [a0, a1, a2, a3], _ =>
    have e0 : ((([a0, a1, a2, a3] : List Value).drop 0).take (Tryz.prog.cellsOf 9)) = [a0] := by rw [show Tryz.prog.cellsOf 9 = 1 from by kernel_rfl]; rfl
    have r0' : DataW.trod enc Tryz.prog w base spare held n 9 [a0] = some y0 := by rw [← e0]; exact r0
    have e1 : ((([a0, a1, a2, a3] : List Value).drop 1).take (Tryz.prog.cellsOf 9)) = [a1] := by rw [show Tryz.prog.cellsOf 9 = 1 from by kernel_rfl]; rfl
    have r1' : DataW.trod enc Tryz.prog w base spare held n 9 [a1] = some y1 := by rw [← e1]; exact r1
    have e2 : ((([a0, a1, a2, a3] : List Value).drop 2).take (Tryz.prog.cellsOf 3)) = [a2] := by rw [show Tryz.prog.cellsOf 3 = 1 from by kernel_rfl]; rfl
    have r2' : DataW.trod enc Tryz.prog w base spare held n 3 [a2] = some y2 := by rw [← e2]; exact r2
    have e3 : ((([a0, a1, a2, a3] : List Value).drop 3).take (Tryz.prog.cellsOf 27)) = [a3] := by rw [show Tryz.prog.cellsOf 27 = 1 from by kernel_rfl]; rfl
    have r3' : DataW.trod enc Tryz.prog w base spare held n 27 [a3] = some y3 := by rw [← e3]; exact r3
    obtain ⟨s0, q0, hs0⟩ := str_readsZ Tryz.underlying9 _ _ _ r0' (z0 hz)
    simp only [List.cons.injEq, and_true, strC] at q0
    subst q0
    obtain ⟨s1, q1, hs1⟩ := str_readsZ Tryz.underlying9 _ _ _ r1' (z1 hz)
    simp only [List.cons.injEq, and_true, strC] at q1
    subst q1
    obtain ⟨m2, q2, hi2⟩ := int_reads Tryz.underlying3 _ _ _ r2'
    simp only [List.cons.injEq, and_true] at q2
    subst q2
    obtain ⟨A3, cp3, l3, q3, ka3, kb3, kc3, kd3, ke3⟩ := open_cellsZ pdC (fun p => PdIn w p ∧ okI p.ty = true) Tryz.underlying27 (by kernel_rfl) (fun m hm cs x hh hz => pred_reads m cs x hh hz) r3' (z3 hz)
    subst q3
    exact ⟨⟨s0, s1, m2, A3, cp3, l3⟩, rfl, ⟨Nat.le_trans hs0 (by decide), Nat.le_trans hs1 (by decide), ka3, kb3, ⟨kc3, fun p hp => (kd3 p hp).1⟩⟩⟩
set_option maxRecDepth 100000 in
theorem env_reads (fuel : Nat) (cs : List Value) (x : DataW H × List MemPlace) (h : DataW.trod enc Tryz.prog w base spare held fuel 26 cs = some x) (hz : Sized Tryz.prog 26 x.1) :
    ∃ p : EnD, cs = [.slice p.D p.datas.length p.dc, .slice p.C p.classes.length p.cc, .slice p.I p.insts.length p.ic] ∧ EnIn w p ∧ ∀ c ∈ p.classes, c.meths.length ≤ 2000000000000 := by
  obtain ⟨hl, n, hn, hf⟩ := fields_manyZ Tryz.underlying26 h
  have hlN : cs.length = 3 := hl.trans (by kernel_rfl)
  obtain ⟨y0, r0, z0⟩ := hf 0 _ rfl
  obtain ⟨y1, r1, z1⟩ := hf 1 _ rfl
  obtain ⟨y2, r2, z2⟩ := hf 2 _ rfl
  match cs, hlN with
  | [a0, a1, a2], _ =>
    have e0 : ((([a0, a1, a2] : List Value).drop 0).take (Tryz.prog.cellsOf 22)) = [a0] := by rw [show Tryz.prog.cellsOf 22 = 1 from by kernel_rfl]; rfl
    have r0' : DataW.trod enc Tryz.prog w base spare held n 22 [a0] = some y0 := by rw [← e0]; exact r0
    have e1 : ((([a0, a1, a2] : List Value).drop 1).take (Tryz.prog.cellsOf 23)) = [a1] := by rw [show Tryz.prog.cellsOf 23 = 1 from by kernel_rfl]; rfl
    have r1' : DataW.trod enc Tryz.prog w base spare held n 23 [a1] = some y1 := by rw [← e1]; exact r1
    have e2 : ((([a0, a1, a2] : List Value).drop 2).take (Tryz.prog.cellsOf 24)) = [a2] := by rw [show Tryz.prog.cellsOf 24 = 1 from by kernel_rfl]; rfl
    have r2' : DataW.trod enc Tryz.prog w base spare held n 24 [a2] = some y2 := by rw [← e2]; exact r2
    obtain ⟨A0, cp0, l0, q0, ka0, kb0, kc0, kd0, ke0⟩ := open_cellsZ daC (DaIn w) Tryz.underlying22 (by kernel_rfl) (fun m hm cs x hh hz => data_reads m cs x hh hz) r0' (z0 hz)
    subst q0
    obtain ⟨A1, cp1, l1, q1, ka1, kb1, kc1, kd1, ke1⟩ := open_cellsZ klC (fun c => KlIn w c ∧ c.meths.length ≤ 2000000000000) Tryz.underlying23 (by kernel_rfl) (fun m hm cs x hh hz => klass_reads m cs x hh hz) r1' (z1 hz)
    subst q1
    obtain ⟨A2, cp2, l2, q2, ka2, kb2, kc2, kd2, ke2⟩ := open_cellsZ inC (InIn w) Tryz.underlying24 (by kernel_rfl) (fun m hm cs x hh hz => inst_reads m cs x hh hz) r2' (z2 hz)
    subst q2
    exact ⟨⟨A0, cp0, l0, A1, cp1, l1, A2, cp2, l2⟩, rfl, ⟨ka0, kb0, ⟨kc0, kd0⟩, ka1, kb1, ⟨kc1, fun p hp => (kd1 p hp).1⟩, ka2, kb2, ⟨kc2, kd2⟩⟩, fun c hc => (kd1 c hc).2⟩
theorem open_env {v : Value} {d : DataW H} {p : List MemPlace} (h : DataW.Trod enc Tryz.prog w base spare held 26 v d p) (hv : ∃ cs, v = .agg cs) (hz : Sized Tryz.prog 26 d) : ∃ t : EnD, v = enV t ∧ EnIn w t ∧ ∀ c ∈ t.classes, c.meths.length ≤ 2000000000000 := by
  obtain ⟨arr, rfl⟩ := hv
  obtain ⟨fuel, hf⟩ := h
  obtain ⟨t, e, ht⟩ := env_reads fuel _ _ hf hz
  refine ⟨t, ?_, ht⟩
  have e1 : arr.toList = [.slice t.D t.datas.length t.dc, .slice t.C t.classes.length t.cc, .slice t.I t.insts.length t.ic] := by simpa [Value.cells] using e
  have e2 : arr = ([.slice t.D t.datas.length t.dc, .slice t.C t.classes.length t.cc, .slice t.I t.insts.length t.ic] : List Value).toArray := by rw [← e1]
  rw [e2]
  rfl
theorem open_strZ {v : Value} {d : DataW H} {p : List MemPlace} (h : DataW.Trod enc Tryz.prog w base spare held 9 v d p) (hv : ∃ s, v = .string s) (hz : Sized Tryz.prog 9 d) : ∃ n : Str, v = .string ⟨n.toArray⟩ ∧ n.length ≤ 140737488351232 := by
  obtain ⟨s, rfl⟩ := hv
  obtain ⟨fuel, hf⟩ := h
  have hf2 : DataW.trod enc Tryz.prog w base spare held fuel 9 [.string s] = some (d, p) := by simpa [Value.cells] using hf
  obtain ⟨a, e, ha⟩ := str_readsZ Tryz.underlying9 fuel _ _ hf2 hz
  have e2 : Value.string s = encStr a := by simpa [strC] using e
  exact ⟨a, e2, ha⟩
end

end Go.Proofs.YtpdcjjgkpbpleaaGreatDoor
