/- Contract: what a proof by an instance is of. -/
import Derived.Test.YtcnkfkjgpdmebaaGreatDoorJN16
import Derived.ChangeAlike
import Derived.BigRegion
/- Contract: what a proof by an instance is of. -/
namespace Go.Proofs.YtcnkfkjgpdmebaaGreatDoor
open Go.RowKit Go.Shelf

set_option maxHeartbeats 1000000 in
theorem p_ill (t : Ty) (w : World) (h : TyIn w t) : Calls Tryz.prog 175 #[tyV t] w fun e w' => e = .returned (.bool (!legalT t)) ∧ Ext w w' := by
  have X0 : Hid (Ext w (w.alloc (.cells #[encStr t.con, .int .i64 t.var, .slice t.A t.args.length t.cap] 53))) := hide ((Ext.refl w).alloc _)
  have HL := hide (t_legalU t _ (h.ext X0.out))
  have HB := hide (TBox.new w t)
  have c0 := HB.out.c0
  have c1 := HB.out.c1
  have c2 := HB.out.c2
  clear h
  unfold tyV at *
  generalize legalT t = R at *
  go_enter Tryz.func175, Tryz.ntmps175
  go_wp2_with fail
  refine HL.out.mono ?_
  rintro e w2 ⟨rfl, hx⟩
  go_wp2
  go_ret
  exact ⟨rfl, X0.out.trans hx⟩
theorem pfinst1_opens : Opens 175 := enters_of Tryz.func175 (by kernel_rfl) rfl

theorem instR_at {ins : List InD} {p : Pf} {l : List (Option Pd)} {m : Nat} (hm : p.n = (m : Int)) (hl : m < ins.length) :
    instR ins p l = if (instOkB (ins[m]'hl) p && wantsB p.types (ins[m]'hl).preds l) = true then some ⟨(ins[m]'hl).cls, .mk (ins[m]'hl).con 0 p.T p.tc p.types⟩ else none := by
  unfold instR
  rw [hm, atZ_nat _ _ hl, Option.bind_some]
theorem wants_no {types : List Ty} {ps : List Pd} {l : List (Option Pd)} {k : Nat} (h1 : k < ps.length) (h2 : k < l.length) (h : wantB types (ps[k]'h1) (l[k]'h2) = false) : wantsB types ps l = false := by
  unfold wantsB
  rw [← Bool.not_eq_true, List.all_eq_true]
  intro hall
  have := hall (ps[k]'h1, l[k]'h2) (by rw [List.mem_iff_getElem]; exact ⟨k, by rw [List.length_zip]; omega, List.getElem_zip⟩)
  rw [h] at this
  cases this
theorem wants_yes {types : List Ty} {ps : List Pd} {l : List (Option Pd)} (hl : ps.length = l.length) (h : ∀ k (h1 : k < ps.length) (h2 : k < l.length), wantB types (ps[k]'h1) (l[k]'h2) = true) : wantsB types ps l = true := by
  unfold wantsB
  rw [List.all_eq_true]
  intro x hx
  obtain ⟨k, hk, rfl⟩ := List.mem_iff_getElem.1 hx
  rw [List.length_zip] at hk
  rw [List.getElem_zip]
  exact h k (by omega) (by omega)
theorem wants_var {y : InD} (h : instB y = true) {k : Nat} (hk : k < y.preds.length) : 0 ≤ (y.preds[k]'hk).ty.var ∧ (y.preds[k]'hk).ty.var < y.n := by
  unfold instB at h
  rw [Bool.and_eq_true, List.all_eq_true] at h
  have := h.2 _ (List.getElem_mem hk)
  unfold headPlB at this
  simp only [Bool.and_eq_true, decide_eq_true_eq] at this
  exact ⟨this.1.2, this.2⟩

/-- The world, named. -/
theorem wp_name {P : Program} {c : Code} {Q : Exit → Act → World → Prop} {a : Act} {w : World} (h : ∀ W, W = w → Code.wp P c Q a W) : Code.wp P c Q a w := h w rfl

set_option maxRecDepth 10000 in
set_option maxHeartbeats 8000000 in
theorem p_inst (x : EnD) (G : Option Addr) (gc : Nat) (given : List Pd) (p : Pf) (ih : ∀ k ∈ p.kids, PrvC x G gc given 79 (prv x.classes x.insts given k) k) :
    PrvC x G gc given 127 (instR x.insts p (p.kids.map (prv x.classes x.insts given))) p := by
  intro w he hg hp
  obtain ⟨W, hW⟩ : ∃ W, W = ((w.alloc (.cells #[.slice x.D x.datas.length x.dc, .slice x.C x.classes.length x.cc, .slice x.I x.insts.length x.ic] 26)).alloc (.cells #[.int .i64 p.kind, .int .i64 p.n, .slice p.T p.types.length p.tc, .slice p.A p.kids.length p.cap] 34)).alloc (.cells #[.string ⟨#[]⟩, .string ⟨#[]⟩, .int .i64 0, .slice none 0 0] 55) := ⟨_, rfl⟩
  have HW := hide hW.symm
  have X0 : Hid (Ext w W) := hide (by rw [hW]; exact (((Ext.refl _).alloc _).alloc _).alloc _)
  have B1 : Hid (EnBox W w.heap.size x) := hide (by rw [hW]; exact (EnBox.new w x).ext (((Ext.refl _).alloc _).alloc _))
  have B2 : Hid (FBox W (w.heap.size + 1) p) := hide (by rw [hW]; exact FBox.ext (at_newB _ _ _ (by simp)) ((Ext.refl _).alloc _))
  have B3 : Hid (W.heap[w.heap.size + 1 + 1]? = some (.cells #[.string ⟨#[]⟩, .string ⟨#[]⟩, .int .i64 0, .slice none 0 0] 55)) := hide (by rw [hW]; exact at_newB _ _ _ (by simp))
  have HsW : Hid (W.heap.size = w.heap.size + 3) := hide (by rw [hW]; simp)
  obtain ⟨c0, c1, c2, c3⟩ := B2.out.cells
  obtain ⟨e0, e1, e2⟩ := B1.out.cells
  obtain ⟨y0, y1, y2, y3, yf0, yf1, yf2, yf3⟩ := p0_cells B3.out
  have hlt0 : w.heap.size < W.heap.size := by rw [HsW.out]; omega
  have hlt1 : w.heap.size + 1 < W.heap.size := by rw [HsW.out]; omega
  have hlt2 : w.heap.size + 1 + 1 < W.heap.size := by rw [HsW.out]; omega
  have HR : Hid (instR x.insts p (p.kids.map (prv x.classes x.insts given)) = _) := hide rfl
  clear hW
  unfold enV pfV
  by_cases hn : p.n < 0
  · have HO : Hid (instR x.insts p (p.kids.map (prv x.classes x.insts given)) = none) := hide (by unfold instR; rw [atZ_none (by omega)]; rfl)
    go_enter Tryz.func127, Tryz.ntmps127
    go_upto_region 1 with fail
    rw [HW.out]
    clear HW
    go_wp2
    go_region
    go_wp2
    refine bodyPost_ret (v := .tuple #[.agg #[.string ⟨#[]⟩, .string ⟨#[]⟩, .int .i64 0, .slice none 0 0], (.iface 142 (.agg #[.int .i64 1]))]) ?_ rfl ⟨⟨⟨[], Ty.zero⟩, _, rfl, by rw [HO.out]; rfl⟩, ?_⟩
    · simp [results, Tryz.f127, go_sem, y0, y1, y2, y3, hlt2]
    · exact ((ext_set4 X0.out (by omega) _ _ _ _).alloc _).drew
  by_cases hn2 : p.n ≥ (x.insts.length : Int)
  · have HO : Hid (instR x.insts p (p.kids.map (prv x.classes x.insts given)) = none) := hide (by unfold instR; rw [atZ_none (by omega)]; rfl)
    go_enter Tryz.func127, Tryz.ntmps127
    go_upto_region 1 with fail
    rw [HW.out]
    clear HW
    go_wp2
    go_region
    go_wp2
    refine bodyPost_ret (v := .tuple #[.agg #[.string ⟨#[]⟩, .string ⟨#[]⟩, .int .i64 0, .slice none 0 0], (.iface 142 (.agg #[.int .i64 1]))]) ?_ rfl ⟨⟨⟨[], Ty.zero⟩, _, rfl, by rw [HO.out]; rfl⟩, ?_⟩
    · simp [results, Tryz.f127, go_sem, y0, y1, y2, y3, hlt2]
    · exact ((ext_set4 X0.out (by omega) _ _ _ _).alloc _).drew
  obtain ⟨m, hm⟩ : ∃ m : Nat, p.n = (m : Int) := ⟨p.n.toNat, by omega⟩
  have hml : m < x.insts.length := by omega
  have hm1 : (m : Int) < (x.insts.length : Int) := by omega
  have hm0 : (0 : Int) ≤ (m : Int) := by omega
  have HR2 := hide (instR_at (l := p.kids.map (prv x.classes x.insts given)) hm hml)
  obtain ⟨b, o, eI, hb, q0, q1, q2, q3⟩ := (he.insts.ext X0.out).at_ hml
  have HI := hide (he.insts.all _ (List.getElem_mem hml))
  have HK := hide (fun k (hk : k < p.kids.length) w' (e : Ext w w') => hide (ih _ (List.getElem_mem hk) w' (he.ext e) (hg.ext e) ((hp.all.kids _ (List.getElem_mem hk)).ext e)))
  have Hp := hide hp
  have HIn := hide (fun k (hk : k < p.kids.length) a (ha : prv x.classes x.insts given (p.kids[k]'hk) = some a) => prv_in he hg _ (hp.all.kids _ (List.getElem_mem hk)) a ha)
  have hkle := hp.hd.le
  have hkmx := hp.hd.max
  rw [hm] at c1
  rw [eI] at e2
  generalize instR x.insts p (p.kids.map (prv x.classes x.insts given)) = R at *
  generalize x.insts[m]'hml = y at *
  obtain ⟨yc, yn, n, A, cap, preds⟩ := y
  simp only [] at q0 q1 q2 q3
  rw [hm, eI] at HW ⊢
  have Hm := hide hm
  clear eI hm hn hn2 ih he hg hp HR
  have hd1 : decide ((m : Int) < 0) = false := by simp
  have hd2 : decide (x.insts.length ≤ m) = false := by simp; omega
  obtain ⟨W1, hW1⟩ : ∃ W1, W1 = (W.alloc (.cells #[.int .i64 1] 142)).alloc (.cells #[.string ⟨yc.toArray⟩, .string ⟨yn.toArray⟩, .int .i64 n, .slice A preds.length cap] 72) := ⟨_, rfl⟩
  have X1 : Hid (Ext w W1) := hide (by rw [hW1]; exact (X0.out.alloc _).alloc _)
  have XW : Hid (Ext W W1) := hide (by rw [hW1]; exact ((Ext.refl _).alloc _).alloc _)
  have C1 : Hid (W1.heap[W.heap.size]? = some (.cells #[.int .i64 1] 142 (0, 0))) := hide (by rw [hW1]; exact (((Ext.refl _).alloc _).heap (by simp)).trans (at_newB _ _ _ rfl))
  have C2 : Hid (InBox W1 (W.heap.size + 1) ⟨yc, yn, n, A, cap, preds⟩) := hide (by rw [hW1]; exact at_newB _ _ _ (by simp))
  have HW1 := hide hW1.symm
  have HCk := hide (h_check ⟨yc, yn, n, A, cap, preds⟩ W1 (HI.out.ext X1.out))
  clear hW1
  unfold inV at HCk
  cases hb2 : instB ⟨yc, yn, n, A, cap, preds⟩
  · rw [hb2] at HCk
    have hR : R = none := by rw [HR2.out, if_neg]; unfold instOkB; rw [hb2]; simp
    clear HR2
    subst hR
    go_enter Tryz.func127, Tryz.ntmps127
    go_upto_region 1 with fail
    rw [HW.out]
    clear HW
    go_upto_region 6 with fail
    rw [HW1.out]
    clear HW1
    obtain ⟨k0, k1, k2, k3⟩ := C2.out.cells
    simp only [] at k0 k1 k2 k3
    go_wp2_with fail
    refine HCk.out.mono ?_
    rintro e w2 ⟨rfl, hx2⟩
    have X2 := hide (X1.out.trans hx2)
    have XW2 := hide (XW.out.trans hx2)
    have B3 := hide ((XW2.out.heap (lt_of_obj B3.out)).trans B3.out)
    have hy3 := lt_of_obj B3.out
    have C1 := hide ((hx2.heap (lt_of_obj C1.out)).trans C1.out)
    have C2 := hide (C2.out.ext hx2)
    have B1 := hide (B1.out.ext XW2.out)
    have B2 := hide (B2.out.ext XW2.out)
    clear hx2 k0 k1 k2 k3 c0 c1 c2 c3 e0 e1 e2 y0 y1 y2 y3 yf0 yf1 yf2 yf3 q0 q1 q2 q3
    obtain ⟨y0, y1, y2, y3, yf0, yf1, yf2, yf3⟩ := p0_cells B3.out
    obtain ⟨c0, c1, c2, c3⟩ := B2.out.cells
    obtain ⟨d0, d1, d2, d3⟩ := C2.out.cells
    have r0 := bytes_block C1.out 0
    simp only [List.getElem?_toArray, List.getElem?_cons_zero] at r0
    simp only [] at d0 d1 d2 d3
    clear c0 c1 c2 c3 d0 d1 d2 d3
    simp only [Bool.false_eq_true, if_false]
    go_wp2
    go_region
    go_wp2
    refine bodyPost_ret (v := .tuple #[.agg #[.string ⟨#[]⟩, .string ⟨#[]⟩, .int .i64 0, .slice none 0 0], (.iface 142 (.agg #[.int .i64 1]))]) ?_ rfl ⟨⟨⟨[], Ty.zero⟩, _, rfl, rfl⟩, ?_⟩
    · simp [results, Tryz.f127, go_sem, y0, y1, y2, y3]
    · first | exact (ext_set4 X2.out (by omega) _ _ _ _).drew
  rw [hb2] at HCk
  have Hb2 := hide hb2
  go_enter Tryz.func127, Tryz.ntmps127
  go_upto_region 1 with fail
  rw [HW.out]
  clear HW
  go_upto_region 6 with fail
  rw [HW1.out]
  clear HW1
  obtain ⟨k0, k1, k2, k3⟩ := C2.out.cells
  simp only [] at k0 k1 k2 k3
  go_wp2_with fail
  refine HCk.out.mono ?_
  rintro e w2 ⟨rfl, hx2⟩
  have X2 := hide (X1.out.trans hx2)
  have XW2 := hide (XW.out.trans hx2)
  have B3 := hide ((XW2.out.heap (lt_of_obj B3.out)).trans B3.out)
  have hy3 := lt_of_obj B3.out
  have C1 := hide ((hx2.heap (lt_of_obj C1.out)).trans C1.out)
  have C2 := hide (C2.out.ext hx2)
  have B1 := hide (B1.out.ext XW2.out)
  have B2 := hide (B2.out.ext XW2.out)
  clear hx2 k0 k1 k2 k3 c0 c1 c2 c3 e0 e1 e2 y0 y1 y2 y3 yf0 yf1 yf2 yf3 q0 q1 q2 q3
  obtain ⟨y0, y1, y2, y3, yf0, yf1, yf2, yf3⟩ := p0_cells B3.out
  obtain ⟨c0, c1, c2, c3⟩ := B2.out.cells
  obtain ⟨d0, d1, d2, d3⟩ := C2.out.cells
  have r0 := bytes_block C1.out 0
  simp only [List.getElem?_toArray, List.getElem?_cons_zero] at r0
  simp only [] at d0 d1 d2 d3
  rw [Hm.out] at c1
  clear HCk
  simp only [if_true]
  by_cases htn : (p.types.length : Int) = n
  · subst htn
    by_cases hkp : p.kids.length = preds.length
    · have g1 : ((p.kids.length : Int) != (preds.length : Int)) = false := by rw [hkp]; simp
      have g2 : (p.kids.length != preds.length) = false := by rw [hkp]; simp
      have g3 : (p.kids.length == preds.length) = true := by rw [hkp]; simp
      have Hkp := hide hkp
      clear hkp
      have htl : p.types.length ≤ 100 := by
        have h9 : instHd ⟨yc, yn, (p.types.length : Int), A, cap, preds⟩ = true := by unfold instB at hb2; rw [Bool.and_eq_true] at hb2; exact hb2.1
        have h8 : (p.types.length : Int) ≤ 100 := (instHd_n h9).2
        omega
      have HF := hide (has_ft 175 #[] pfinst1_opens (fun t => !legalT t) p.T p.tc p.types w2 (Hp.out.hd.types.ext X2.out) (by omega) (fun w' e t ht => p_ill t w' ((Hp.out.hd.types.args t ht).ext (X2.out.trans e))))
      have hany : p.types.any (fun t => !legalT t) = !p.types.all legalT := by rw [List.not_all_eq_any_not]
      rw [hany] at HF
      clear hany hb2
      cases hall : p.types.all legalT
      · rw [hall] at HF
        have hR : R = none := by rw [HR2.out, if_neg]; unfold instOkB; rw [hall]; simp
        clear HR2 hall
        subst hR
        go_wp2_with fail
        refine HF.out.mono ?_
        rintro e w3 ⟨rfl, hx3⟩
        have X3 := hide (X2.out.trans hx3)
        have B3 := hide ((hx3.heap (lt_of_obj B3.out)).trans B3.out)
        have hy3 := lt_of_obj B3.out
        have C1 := hide ((hx3.heap (lt_of_obj C1.out)).trans C1.out)
        clear hx3 y0 y1 y2 y3 yf0 yf1 yf2 yf3 r0
        obtain ⟨y0, y1, y2, y3, yf0, yf1, yf2, yf3⟩ := p0_cells B3.out
        have r0 := bytes_block C1.out 0
        simp only [List.getElem?_toArray, List.getElem?_cons_zero] at r0
        go_wp2
        go_region
        go_wp2
        refine bodyPost_ret (v := .tuple #[.agg #[.string ⟨#[]⟩, .string ⟨#[]⟩, .int .i64 0, .slice none 0 0], (.iface 142 (.agg #[.int .i64 1]))]) ?_ rfl ⟨⟨⟨[], Ty.zero⟩, _, rfl, rfl⟩, ?_⟩
        · simp [results, Tryz.f127, go_sem, y0, y1, y2, y3]
        · first | exact (ext_set4 X3.out (by omega) _ _ _ _).drew
      · rw [hall] at HF
        have HR3 : Hid (R = if wantsB p.types preds (p.kids.map (prv x.classes x.insts given)) = true then some ⟨yc, .mk yn 0 p.T p.tc p.types⟩ else none) := hide (by
          rw [HR2.out]
          unfold instOkB
          rw [hall, Hb2.out, decide_eq_true (show ((p.types.length : Nat) : Int) = _ from rfl), decide_eq_true Hkp.out]
          simp only [Bool.true_and])
        clear HR2 hall
        go_wp2_with fail
        refine HF.out.mono ?_
        rintro e w3 ⟨rfl, hx3⟩
        have X3 := hide (X2.out.trans hx3)
        have B3 := hide ((hx3.heap (lt_of_obj B3.out)).trans B3.out)
        have C1 := hide ((hx3.heap (lt_of_obj C1.out)).trans C1.out)
        have C2 := hide (C2.out.ext hx3)
        have B1 := hide (B1.out.ext hx3)
        have B2 := hide (B2.out.ext hx3)
        clear hx3 HF y0 y1 y2 y3 yf0 yf1 yf2 yf3 r0 c0 c1 c2 c3 d0 d1 d2 d3 hy3
        obtain ⟨c0, c1, c2, c3⟩ := B2.out.cells
        simp only [Bool.not_true]
        go_wp2
        clear c0 c1 c2 c3
        go_loopw [69] (fun i wr => ∃ k : Nat, k ≤ p.kids.length ∧ i = .int .i64 k ∧ Hid (Ext w3 wr) ∧ Hid (∀ j (h1 : j < preds.length) (h2 : j < p.kids.length), j < k → wantB p.types (preds[j]'h1) (prv x.classes x.insts given (p.kids[j]'h2)) = true)) (fun i _ => p.kids.length - (intOf i).toNat)
        case atStart => exact ⟨0, Nat.zero_le _, rfl, hide (Ext.refl _), hide (fun j _ _ h => absurd h (by omega))⟩
        case round =>
          obtain ⟨k, hk, rfl, HX, HQ⟩ := hrel
          by_cases hlt : k < p.kids.length
          · have hlt' : (k : Int) < (p.kids.length : Int) := by omega
            have hk0 : (0 : Int) ≤ (k : Int) := by omega
            have hkp : k < preds.length := by rw [← Hkp.out]; exact hlt
            have hkp' : (k : Int) < (preds.length : Int) := by omega
            have XR := hide (X3.out.trans HX.out)
            obtain ⟨b4, o4, hA, hb4, k0, k1, k2, k3⟩ := (Hp.out.all.ext XR.out).at_ hlt
            have HKk := hide (HK.out k hlt)
            have HWk : Hid (∀ b, wantB p.types (preds[k]'hkp) (prv x.classes x.insts given (p.kids[k]'hlt)) = b → (b = false → R = none) ∧ (b = true → ∀ j (h1 : j < preds.length) (h2 : j < p.kids.length), j < k + 1 → wantB p.types (preds[j]'h1) (prv x.classes x.insts given (p.kids[j]'h2)) = true)) := hide (by
              intro b hb
              refine ⟨fun e => ?_, fun e j h1 h2 hj => ?_⟩
              · rw [HR3.out, if_neg]
                rw [wants_no hkp (by rw [List.length_map]; exact hlt) (by rw [List.getElem_map, hb, e])]
                decide
              · by_cases hjk : j = k
                · subst hjk; rw [hb, e]
                · exact HQ.out j h1 h2 (by omega))
            have HWt := hide (wants_var Hb2.out hkp)
            obtain ⟨bp, op, eA, hbp, w0, w1, w2', w3'⟩ := (HI.out.row.ext XR.out).at_ hkp
            have HTs := hide (fun (i : Nat) (hi : i < p.types.length) w' (e : Ext w w') => (Hp.out.hd.types.ext e).at_ hi)
            have HTy := hide (fun (i : Nat) (hi : i < p.types.length) => Hp.out.hd.types.args _ (List.getElem_mem hi))
            have HTd := hide (fun (i : Nat) (hi : i < p.types.length) => (show p.types.getD i Ty.zero = p.types[i]'hi by simp [List.getD, hi]))
            have HInk := hide (HIn.out k hlt)
            have HWi := hide ((HI.out.row.all _ (List.getElem_mem hkp)))
            simp only [] at HWt eA w0 w1 w2' w3'
            generalize p.kids[k]'hlt = kid at *
            generalize preds[k]'hkp = want at *
            obtain ⟨v, hv⟩ : ∃ v : Nat, want.ty.var = (v : Int) := ⟨want.ty.var.toNat, by have := HWt.out.1; omega⟩
            have hvl : v < p.types.length := by have := HWt.out.2; omega
            have hv1 : (v : Int) < (p.types.length : Int) := by omega
            have hv0 : (0 : Int) ≤ (v : Int) := by omega
            obtain ⟨bt, ot, hT, hbt, t0, t1, t2⟩ := HTs.out v hvl wr XR.out
            have Ht0 := hide t0
            have Ht1 := hide t1
            have Ht2 := hide t2
            have Hv := hide hv
            have HbT := hide hbt
            rw [hA, eA, hT]
            clear t0 t1 t2 hv hbt HTs
            have C2 := hide (C2.out.ext HX.out)
            have hd := C2.out.cells.2.2.2
            simp only [] at hd
            rw [eA] at hd
            have hc := (B2.out.ext HX.out).c2
            rw [hT] at hc
            clear hA eA hT HQ HR3
            have Hd := hide hd
            have Hc := hide hc
            have Hw0 := hide w0
            have Hw1 := hide w1
            have Hw2 := hide w2'
            have Hw3 := hide w3'
            clear hd hc w0 w1 w2' w3'
            generalize prv x.classes x.insts given kid = O at *
            unfold enV pfV pdV at HKk
            obtain ⟨e0, e1, e2⟩ := (B1.out.ext HX.out).cells
            have hbe := (B1.out.ext HX.out).lt
            go_wp2_with fail
            refine (HKk.out _ (XR.out.alloc _)).out.mono ?_
            rintro e w4 ⟨⟨q, er, rfl, hok⟩, hx4⟩
            have X4 : Hid (Ext wr w4) := hide (((Ext.refl _).alloc _).trans hx4)
            have X5 := hide (HX.out.trans X4.out)
            have B3 := hide ((X5.out.heap (lt_of_obj B3.out)).trans B3.out)
            have hy3 := lt_of_obj B3.out
            have C1 := hide ((X5.out.heap (lt_of_obj C1.out)).trans C1.out)
            obtain ⟨y0, y1, y2, y3, yf0, yf1, yf2, yf3⟩ := p0_cells B3.out
            have r0 := bytes_block C1.out 0
            simp only [List.getElem?_toArray, List.getElem?_cons_zero] at r0
            have hr0 := lt_of_obj C1.out
            clear hx4 k0 k1 k2 k3 HKk e0 e1 e2 hbe
            cases O with
            | none =>
              obtain rfl := hok.none
              have hR := (HWk.out _ rfl).1 rfl
              clear hok HWk HX
              subst hR
              go_wp2
              refine bodyPost_ret (v := .tuple #[.agg #[.string ⟨#[]⟩, .string ⟨#[]⟩, .int .i64 0, .slice none 0 0], (.iface 142 (.agg #[.int .i64 1]))]) ?_ rfl ⟨⟨⟨[], Ty.zero⟩, _, rfl, rfl⟩, ?_⟩
              · simp [results, Tryz.f127, go_sem, y0, y1, y2, y3, hy3]
              · refine Ext.alloc ?_ _
                exact ext_set4 (X3.out.trans X5.out) (by omega) _ _ _ _
            | some a =>
              obtain ⟨rfl, rfl⟩ := hok.some
              clear hok
              rename Pd => a
              have Ha := hide (HInk.out a rfl)
              have d3 := X4.out.cell Hd.out
              have w0 := X4.out.cell Hw0.out
              have w1 := X4.out.cell Hw1.out
              have w2 := X4.out.cell Hw2.out
              have w3 := X4.out.cell Hw3.out
              have hbp4 : bp < w4.heap.size := Nat.lt_of_lt_of_le hbp X4.out.size
              have C2 := hide (C2.out.ext X4.out)
              have hd4 := C2.out.lt
              go_upto_region 15 with fail
              refine wp_name ?_
              intro W5 hW5
              have E5 : Hid (Ext w4 W5) := hide (by rw [hW5]; exact ((Ext.refl _).alloc _).alloc _)
              have D1 : Hid (PdBox W5 w4.heap.size a) := hide (by rw [hW5]; exact (PdBox.new w4 a).ext ((Ext.refl _).alloc _))
              have D2 : Hid (PdBox W5 (w4.heap.size + 1) want) := hide (by rw [hW5]; exact at_newB _ _ _ (by simp))
              have X6 := hide (X5.out.trans E5.out)
              have B3 := hide ((E5.out.heap (lt_of_obj B3.out)).trans B3.out)
              have C1 := hide ((E5.out.heap (lt_of_obj C1.out)).trans C1.out)
              clear hW5 d3 w0 w1 w2 w3 hbp4 hd4 hy3 y0 y1 y2 y3 yf0 yf1 yf2 yf3 r0 hr0
              have hy3 := lt_of_obj B3.out
              obtain ⟨y0, y1, y2, y3, yf0, yf1, yf2, yf3⟩ := p0_cells B3.out
              have r0 := bytes_block C1.out 0
              simp only [List.getElem?_toArray, List.getElem?_cons_zero] at r0
              have hr0 := lt_of_obj C1.out
              have c2 := E5.out.cell (X4.out.cell Hc.out)
              obtain ⟨a0, a1, a2, a3⟩ := D1.out.cells
              obtain ⟨w0, w1, w2, w3⟩ := D2.out.cells
              cases hcls : (a.cls == want.cls)
              · have hR := (HWk.out false (by show (a.cls == want.cls && _) = false; rw [hcls]; rfl)).1 rfl
                have hcl2 : (a.cls != want.cls) = true := by rw [bne, hcls]; rfl
                clear HWk HX
                subst hR
                go_quiet (fail)
                all_goals
                  go_wp2
                  go_region
                  go_wp2
                  refine bodyPost_ret (v := .tuple #[.agg #[.string ⟨#[]⟩, .string ⟨#[]⟩, .int .i64 0, .slice none 0 0], (.iface 142 (.agg #[.int .i64 1]))]) ?_ rfl ⟨⟨⟨[], Ty.zero⟩, _, rfl, rfl⟩, ?_⟩
                  · simp [results, Tryz.f127, go_sem, y0, y1, y2, y3]
                  · exact (ext_set4 (X3.out.trans X6.out) (by omega) _ _ _ _).drewN _
              · have hcl2 : (a.cls != want.cls) = false := by rw [bne, hcls]; rfl
                have XR5 := hide (X3.out.trans X6.out)
                have X45 := hide (X4.out.trans E5.out)
                have t0 := X45.out.cell Ht0.out
                have t1 := X45.out.cell Ht1.out
                have t2 := X45.out.cell Ht2.out
                have hbt : bt < W5.heap.size := Nat.lt_of_lt_of_le HbT.out X45.out.size
                have HS := hide (fun w' (e : Ext W5 w') => hide (t_same a.ty (p.types[v]'hvl) w' (Ha.out.ty.ext (XR5.out.trans e)) ((HTy.out v hvl).ext (XR5.out.trans e))))
                have HWe : Hid (wantB p.types want (some a) = sameB a.ty (p.types[v]'hvl)) := hide (by
                  unfold wantB
                  simp only []
                  rw [hcls, Bool.true_and, Hv.out, show ((v : Int)).toNat = v from rfl, HTd.out v hvl])
                rw [Hv.out] at w2
                have hb5 := D1.out.lt
                clear HTy HTd
                generalize p.types[v]'hvl = tv at *
                have HSS := hide (fun w' (e : Ext W5 w') => And.intro (e.cell a0) (And.intro (e.cell a1) (And.intro (e.cell a2) (And.intro (e.cell a3) (And.intro (e.cell w0) (And.intro (e.cell w2) (And.intro (e.cell c2) (And.intro (e.cell t0) (And.intro (e.cell t1) (e.cell t2))))))))))
                unfold tyV at HS
                cases hs : sameB a.ty tv
                all_goals
                  rw [hs] at HS HWe
                  clear hs
                  go_region_held3 (fun w' => w'.cell? ⟨w4.heap.size, 0, none⟩ = some (encStr a.cls) ∧ w'.cell? ⟨w4.heap.size, 1, none⟩ = some (encStr a.ty.con) ∧ w'.cell? ⟨w4.heap.size, 2, none⟩ = some (.int .i64 a.ty.var) ∧ w'.cell? ⟨w4.heap.size, 3, none⟩ = some (.slice a.ty.A a.ty.args.length a.ty.cap) ∧ w'.cell? ⟨w4.heap.size + 1, 0, none⟩ = some (encStr want.cls) ∧ w'.cell? ⟨w4.heap.size + 1, 2, none⟩ = some (.int .i64 (v : Int)) ∧ w'.cell? ⟨w.heap.size + 1, 2, none⟩ = some (.slice (some ⟨bt, ot, none⟩) p.types.length p.tc) ∧ w'.cell? ⟨bt, ot + v * 3, none⟩ = some (.string ⟨tv.con.toArray⟩) ∧ w'.cell? ⟨bt, ot + v * 3 + 1, none⟩ = some (.int .i64 tv.var) ∧ w'.cell? ⟨bt, ot + v * 3 + 2, none⟩ = some (.slice tv.A tv.args.length tv.cap)) (first | with_reducible assumption | go_keep) (first
                    | (go_at_call 176
                       refine Calls.mono (HS.out _ (by repeat (first | exact Ext.refl _ | exact Ext.pre (by simp) | exact Ext.alloc (by assumption) _ | refine Ext.alloc ?_ _ |  refine Ext.more ?_ _ _ | refine Ext.drew ?_ | refine Ext.drewN ?_ _))).out ?_
                       rintro e y ⟨rfl, hxy⟩
                       have kS := HSS.out y (by refine Ext.trans ?_ hxy; exact (by repeat (first | exact Ext.refl _ | exact Ext.pre (by simp) | exact Ext.alloc (by assumption) _ | refine Ext.alloc ?_ _ |  refine Ext.more ?_ _ _ | refine Ext.drew ?_ | refine Ext.drewN ?_ _)))
                       have X7 : Hid (Ext W5 y) := hide (by refine Ext.trans ?_ hxy; exact (by repeat (first | exact Ext.refl _ | exact Ext.pre (by simp) | exact Ext.alloc (by assumption) _ | refine Ext.alloc ?_ _ |  refine Ext.more ?_ _ _ | refine Ext.drew ?_ | refine Ext.drewN ?_ _)))
                       clear hxy))
                · have hR := (HWk.out false HWe.out).1 rfl
                  have B3 := hide ((X7.out.heap (lt_of_obj B3.out)).trans B3.out)
                  have C1 := hide ((X7.out.heap (lt_of_obj C1.out)).trans C1.out)
                  clear HWk HX HSS HS kS y0 y1 y2 y3 yf0 yf1 yf2 yf3 r0 hr0 hy3 a0 a1 a2 a3 w0 w1 w2 w3 c2 t0 t1 t2
                  have hy3 := lt_of_obj B3.out
                  obtain ⟨y0, y1, y2, y3, yf0, yf1, yf2, yf3⟩ := p0_cells B3.out
                  have r0 := bytes_block C1.out 0
                  simp only [List.getElem?_toArray, List.getElem?_cons_zero] at r0
                  have hr0 := lt_of_obj C1.out
                  subst hR
                  go_wp2
                  go_region
                  go_wp2
                  refine bodyPost_ret (v := .tuple #[.agg #[.string ⟨#[]⟩, .string ⟨#[]⟩, .int .i64 0, .slice none 0 0], (.iface 142 (.agg #[.int .i64 1]))]) ?_ rfl ⟨⟨⟨[], Ty.zero⟩, _, rfl, rfl⟩, ?_⟩
                  · simp [results, Tryz.f127, go_sem, y0, y1, y2, y3]
                  · exact (ext_set4 (X3.out.trans (X6.out.trans X7.out)) (by omega) _ _ _ _).drew
                · have HQ2 := hide ((HWk.out true HWe.out).2 rfl)
                  have XN := hide (X6.out.trans X7.out)
                  clear HWk HX HSS HS kS y0 y1 y2 y3 yf0 yf1 yf2 yf3 r0 hr0 hy3 a0 a1 a2 a3 w0 w1 w2 w3 c2 t0 t1 t2
                  go_wp2
                  go_roundw
                  case rel => exact ⟨k + 1, hlt, by go_num, XN, HQ2⟩
                  case measure => simp [intOf]; omega
          · have hge : ¬ (k : Int) < (p.kids.length : Int) := by omega
            have hR : R = some ⟨yc, .mk yn 0 p.T p.tc p.types⟩ := by
              rw [HR3.out, if_pos]
              refine wants_yes (by rw [List.length_map, Hkp.out]) (fun j h1 h2 => ?_)
              rw [List.getElem_map]
              rw [List.length_map] at h2
              exact HQ.out j h1 h2 (by omega)
            clear HR3 HQ
            subst hR
            have B3 := hide ((HX.out.heap (lt_of_obj B3.out)).trans B3.out)
            have C2 := hide (C2.out.ext HX.out)
            have B2 := hide (B2.out.ext HX.out)
            obtain ⟨y0, y1, y2, y3, yf0, yf1, yf2, yf3⟩ := p0_cells B3.out
            obtain ⟨c0, c1, c2, c3⟩ := B2.out.cells
            obtain ⟨d0, d1, d2, d3⟩ := C2.out.cells
            simp only [] at d0 d1 d2 d3
            go_wp2
            refine bodyPost_ret (v := .tuple #[.agg #[encStr yc, encStr yn, .int .i64 0, .slice p.T p.types.length p.tc], .nilIface]) ?_ rfl ⟨⟨⟨yc, .mk yn 0 p.T p.tc p.types⟩, _, rfl, rfl, rfl⟩, ?_⟩
            · simp [results, Tryz.f127, go_sem, y0, y1, y2, y3]
            · exact ext_set4 (X3.out.trans HX.out) (by omega) _ _ _ _
    · have g1 : ((p.kids.length : Int) != (preds.length : Int)) = true := by simp; omega
      have g2 : (p.kids.length != preds.length) = true := by simpa using hkp
      have g3 : (p.kids.length == preds.length) = false := by simpa using hkp
      have hR : R = none := by rw [HR2.out, if_neg]; unfold instOkB; rw [decide_eq_false hkp]; simp
      clear HR2
      subst hR
      go_wp2
      go_region
      go_wp2
      refine bodyPost_ret (v := .tuple #[.agg #[.string ⟨#[]⟩, .string ⟨#[]⟩, .int .i64 0, .slice none 0 0], (.iface 142 (.agg #[.int .i64 1]))]) ?_ rfl ⟨⟨⟨[], Ty.zero⟩, _, rfl, rfl⟩, ?_⟩
      · simp [results, Tryz.f127, go_sem, y0, y1, y2, y3]
      · first | exact (ext_set4 X2.out (by omega) _ _ _ _).drew
  · have g1 : ((p.types.length : Int) != n) = true := by simpa using htn
    have g2 : ((p.types.length : Int) == n) = false := by simpa using htn
    have hR : R = none := by rw [HR2.out, if_neg]; unfold instOkB; rw [decide_eq_false htn]; simp
    clear HR2
    subst hR
    go_wp2
    go_region
    go_wp2
    refine bodyPost_ret (v := .tuple #[.agg #[.string ⟨#[]⟩, .string ⟨#[]⟩, .int .i64 0, .slice none 0 0], (.iface 142 (.agg #[.int .i64 1]))]) ?_ rfl ⟨⟨⟨[], Ty.zero⟩, _, rfl, rfl⟩, ?_⟩
    · simp [results, Tryz.f127, go_sem, y0, y1, y2, y3]
    · first | exact (ext_set4 X2.out (by omega) _ _ _ _).drew

end Go.Proofs.YtcnkfkjgpdmebaaGreatDoor
