/- Contract of the reference: what a proof by an instance is of: walked. -/
import Derived.Test.YtpdcjjgkpbpleaaGreatDoorJP30
/- Contract of the reference: what a proof by an instance is of: walked. -/
namespace Go.Proofs.YtpdcjjgkpbpleaaGreatDoor
open Go.RowKit

set_option maxRecDepth 10000 in
set_option maxHeartbeats 8000000 in
theorem r_inst24 (x : EnD) (G : Option Addr) (gc : Nat) (given : List Pd) (p : Pf) (hpre : ∀ i ∈ x.insts, i.preds.length ≤ 40000) (ih : ∀ k ∈ p.kids, RvC x G gc given 26 (prv x.classes x.insts given k) k) :
    RvC x G gc given 50 (instR x.insts p (p.kids.map (prv x.classes x.insts given))) p := by
  intro w he hg hp hsm
  obtain ⟨W, hW⟩ : ∃ W, W = ((w.alloc (.cells #[.slice x.D x.datas.length x.dc, .slice x.C x.classes.length x.cc, .slice x.I x.insts.length x.ic] 26)).alloc (.cells #[.int .i64 p.kind, .int .i64 p.n, .slice p.T p.types.length p.tc, .slice p.A p.kids.length p.cap] 31)).alloc (.cells #[.string ⟨#[]⟩, .string ⟨#[]⟩, .int .i64 0, .slice none 0 0] 39) := ⟨_, rfl⟩
  have HW := hide hW.symm
  have X0 : Hid (Ext w W) := hide (by rw [hW]; exact (((Ext.refl _).alloc _).alloc _).alloc _)
  have B1 : Hid (EnBox W w.heap.size x) := hide (by rw [hW]; exact (EnBox.new w x).ext (((Ext.refl _).alloc _).alloc _))
  have B2 : Hid (FBox W (w.heap.size + 1) p) := hide (by rw [hW]; exact FBox.ext (at_newB _ _ _ (by simp)) ((Ext.refl _).alloc _))
  have B3 : Hid (W.heap[w.heap.size + 1 + 1]? = some (.cells #[.string ⟨#[]⟩, .string ⟨#[]⟩, .int .i64 0, .slice none 0 0] 39)) := hide (by rw [hW]; exact at_newB _ _ _ (by simp))
  have HsW : Hid (W.heap.size = w.heap.size + 3) := hide (by rw [hW]; simp)
  obtain ⟨c0, c1, c2, c3⟩ := B2.out.cells
  obtain ⟨e0, e1, e2⟩ := B1.out.cells
  obtain ⟨y0, y1, y2, y3, yf0, yf1, yf2, yf3⟩ := p0_cells B3.out
  have hlt0 : w.heap.size < W.heap.size := by rw [HsW.out]; omega
  have hlt1 : w.heap.size + 1 < W.heap.size := by rw [HsW.out]; omega
  have hlt2 : w.heap.size + 1 + 1 < W.heap.size := by rw [HsW.out]; omega
  have HR : Hid (instR x.insts p (p.kids.map (prv x.classes x.insts given)) = _) := hide rfl
  clear hW
  unfold enV pfV
  by_cases hn : p.n < 0
  · have HO : Hid (instR x.insts p (p.kids.map (prv x.classes x.insts given)) = none) := hide (by unfold instR; rw [atZ_none (by omega)]; rfl)
    rw [HO.out]
    go_enter Tryz.func50, Tryz.ntmps50
    go_upto_region 1 with fail
    rw [HW.out]
    clear HW
    go_wp2
    refine bodyPost_ret (v := .tuple #[.agg #[.string ⟨#[]⟩, .string ⟨#[]⟩, .int .i64 0, .slice none 0 0], .bool false]) ?_ rfl ⟨⟨⟨[], Ty.zero⟩, rfl, RvOk.no⟩, ?_⟩
    · simp [results, Tryz.f50, go_sem, y0, y1, y2, y3]
    · exact ext_set4 X0.out (by omega) _ _ _ _
  by_cases hn2 : p.n ≥ (x.insts.length : Int)
  · have HO : Hid (instR x.insts p (p.kids.map (prv x.classes x.insts given)) = none) := hide (by unfold instR; rw [atZ_none (by omega)]; rfl)
    rw [HO.out]
    go_enter Tryz.func50, Tryz.ntmps50
    go_upto_region 1 with fail
    rw [HW.out]
    clear HW
    go_wp2
    refine bodyPost_ret (v := .tuple #[.agg #[.string ⟨#[]⟩, .string ⟨#[]⟩, .int .i64 0, .slice none 0 0], .bool false]) ?_ rfl ⟨⟨⟨[], Ty.zero⟩, rfl, RvOk.no⟩, ?_⟩
    · simp [results, Tryz.f50, go_sem, y0, y1, y2, y3]
    · exact ext_set4 X0.out (by omega) _ _ _ _
  obtain ⟨m, hm⟩ : ∃ m : Nat, p.n = (m : Int) := ⟨p.n.toNat, by omega⟩
  have hml : m < x.insts.length := by omega
  have hm1 : (m : Int) < (x.insts.length : Int) := by omega
  have hm0 : (0 : Int) ≤ (m : Int) := by omega
  have hm2 : ¬ ((m : Int) < 0) := by omega
  have hm3 : ¬ ((m : Int) ≥ (x.insts.length : Int)) := by omega
  have HR2 := hide (instR_at (l := p.kids.map (prv x.classes x.insts given)) hm hml)
  obtain ⟨b, o, eI, hb, q0, q1, q2, q3⟩ := (he.insts.ext X0.out).at_ hml
  have HI := hide (he.insts.all _ (List.getElem_mem hml))
  have hpl := hpre _ (List.getElem_mem hml)
  obtain ⟨hs1, hs2⟩ := smallF_parts hsm
  have Hs1 := hide hs1
  have HK := hide (fun k (hk : k < p.kids.length) w' (e : Ext w w') => hide (ih _ (List.getElem_mem hk) w' (he.ext e) (hg.ext e) ((hp.all.kids _ (List.getElem_mem hk)).ext e) (hs2 _ (List.getElem_mem hk))))
  have Hp := hide hp
  have HIn := hide (fun k (hk : k < p.kids.length) a (ha : prv x.classes x.insts given (p.kids[k]'hk) = some a) => prv_in he hg _ (hp.all.kids _ (List.getElem_mem hk)) a ha)
  have hkle := hp.hd.le
  have hkmx := hp.hd.max
  rw [hm] at c1
  rw [eI] at e2
  generalize instR x.insts p (p.kids.map (prv x.classes x.insts given)) = R at *
  generalize x.insts[m]'hml = y at *
  rw [hm, eI] at HW ⊢
  have Hm := hide hm
  have HeI := hide eI
  clear eI hm hn hn2 ih he hg hp HR hsm hs1 hs2
  go_enter Tryz.func50, Tryz.ntmps50
  go_upto_region 1 with fail
  rw [HW.out]
  clear HW
  go_upto_region 4 with fail
  refine wp_name ?_
  intro W1 hW1
  have XW : Hid (Ext W W1) := hide (by rw [hW1]; exact (Ext.refl _).alloc _)
  have C2 : Hid (InBox W1 W.heap.size y) := hide (by rw [hW1]; exact InBox.new W y)
  have X1 : Hid (Ext w W1) := hide (X0.out.trans XW.out)
  clear hW1 q0 q1 q2 q3 y0 y1 y2 y3 yf0 yf1 yf2 yf3 c0 c1 c2 c3 e0 e1 e2
  have HCk := hide (r_check23 y W1 (HI.out.ext X1.out))
  unfold inV at HCk
  obtain ⟨k0, k1, k2, k3⟩ := C2.out.cells
  have lk := C2.out.lt
  go_wp2_with fail
  refine HCk.out.mono ?_
  rintro e w2 ⟨rfl, hx2⟩
  have XW2 := hide (XW.out.trans hx2)
  have X2 := hide (X1.out.trans hx2)
  have B1 := hide (B1.out.ext XW2.out)
  have B2 := hide (B2.out.ext XW2.out)
  have B3 := hide ((XW2.out.heap (lt_of_obj B3.out)).trans B3.out)
  have C2 := hide (C2.out.ext hx2)
  clear hx2 k0 k1 k2 k3 lk HCk
  have XF := hide (fun v0 v1 v2 v3 => ext_set4 X2.out (b := w.heap.size + 1 + 1) (by omega) v0 v1 v2 v3)
  have hy3 := lt_of_obj B3.out
  obtain ⟨y0, y1, y2, y3, yf0, yf1, yf2, yf3⟩ := p0_cells B3.out
  cases hb2 : instB y
  · have hR : R = none := by rw [HR2.out, if_neg]; unfold instOkB; rw [hb2]; simp
    clear HR2
    subst hR
    simp only [Bool.false_eq_true, if_false]
    go_wp2
    refine bodyPost_ret (v := .tuple #[.agg #[.string ⟨#[]⟩, .string ⟨#[]⟩, .int .i64 0, .slice none 0 0], .bool false]) ?_ rfl ⟨⟨⟨[], Ty.zero⟩, rfl, RvOk.no⟩, ?_⟩
    · simp [results, Tryz.f50, go_sem, y0, y1, y2, y3]
    · exact XF.out _ _ _ _
  have Hb2 := hide hb2
  simp only [if_true]
  obtain ⟨c0, c1, c2, c3⟩ := B2.out.cells
  rw [Hm.out] at c1
  obtain ⟨k0, k1, k2, k3⟩ := C2.out.cells
  have lc := B2.out.lt
  have lk := C2.out.lt
  by_cases htn : (p.types.length : Int) = y.n
  case neg =>
    have hR : R = none := by rw [HR2.out, if_neg]; unfold instOkB; rw [decide_eq_false htn]; simp
    have g1 : ((p.types.length : Int) != y.n) = true := by simpa using htn
    clear HR2
    subst hR
    go_wp2
    refine bodyPost_ret (v := .tuple #[.agg #[.string ⟨#[]⟩, .string ⟨#[]⟩, .int .i64 0, .slice none 0 0], .bool false]) ?_ rfl ⟨⟨⟨[], Ty.zero⟩, rfl, RvOk.no⟩, ?_⟩
    · simp [results, Tryz.f50, go_sem, y0, y1, y2, y3]
    · exact XF.out _ _ _ _
  have g1 : ((p.types.length : Int) != y.n) = false := by rw [htn]; simp
  by_cases hkp : p.kids.length = y.preds.length
  case neg =>
    have hR : R = none := by rw [HR2.out, if_neg]; unfold instOkB; rw [decide_eq_false hkp]; simp
    have g2 : ((p.kids.length : Int) != (y.preds.length : Int)) = true := by simp; omega
    have g3 : (p.kids.length != y.preds.length) = true := by simpa using hkp
    have g4 : (p.kids.length == y.preds.length) = false := by simpa using hkp
    clear HR2
    subst hR
    go_wp2
    refine bodyPost_ret (v := .tuple #[.agg #[.string ⟨#[]⟩, .string ⟨#[]⟩, .int .i64 0, .slice none 0 0], .bool false]) ?_ rfl ⟨⟨⟨[], Ty.zero⟩, rfl, RvOk.no⟩, ?_⟩
    · simp [results, Tryz.f50, go_sem, y0, y1, y2, y3]
    · exact XF.out _ _ _ _
  have g2 : ((p.kids.length : Int) != (y.preds.length : Int)) = false := by rw [hkp]; simp
  have g3 : (p.kids.length != y.preds.length) = false := by rw [hkp]; simp
  have g4 : (p.kids.length == y.preds.length) = true := by rw [hkp]; simp
  have htl : p.types.length ≤ 100 := by
    have h9 : instHd y = true := by unfold instB at hb2; rw [Bool.and_eq_true] at hb2; exact hb2.1
    have h8 := (instHd_n h9).2
    omega
  have Htn := hide htn
  have Hkp := hide hkp
  clear hkp htn hb2 XF
  go_wp2
  clear c0 c1 c2 c3 k0 k1 k2 k3 y0 y1 y2 y3 yf0 yf1 yf2 yf3 hy3 lc lk
  go_loopw [9] (fun i wr => ∃ k : Nat, k ≤ p.types.length ∧ i = .int .i64 k ∧ Hid (Ext w2 wr) ∧ Hid (∀ j (h : j < p.types.length), j < k → legalT (p.types[j]'h) = true)) (fun i _ => p.types.length - (intOf i).toNat)
  case atStart => exact ⟨0, Nat.zero_le _, rfl, hide (Ext.refl _), hide (fun j _ h => absurd h (by omega))⟩
  case round =>
    obtain ⟨k, hk, rfl, HX, HQ⟩ := hrel
    have XR := hide (X2.out.trans HX.out)
    obtain ⟨-, -, c2, c3⟩ := (B2.out.ext HX.out).cells
    have lc := (B2.out.ext HX.out).lt
    by_cases hlt : k < p.types.length
    · have hlt' : (k : Int) < (p.types.length : Int) := by omega
      have hk0 : (0 : Int) ≤ (k : Int) := by omega
      obtain ⟨b4, o4, hA, hb4, k0, k1, k2⟩ := (Hp.out.hd.types.ext XR.out).at_ hlt
      have hsz := Hs1.out _ (List.getElem_mem hlt)
      have HC := hide (r_legal16 (p.types[k]'hlt) wr ((Hp.out.hd.types.args _ (List.getElem_mem hlt)).ext XR.out) hsz)
      have HNo : Hid (legalT (p.types[k]'hlt) = false → R = none) := hide (fun e => by
        have hall : p.types.all legalT = false := by
          rw [← Bool.not_eq_true, List.all_eq_true]
          intro hall
          rw [hall _ (List.getElem_mem hlt)] at e
          cases e
        rw [HR2.out, if_neg]
        unfold instOkB
        rw [hall]
        simp)
      have HYe : Hid (legalT (p.types[k]'hlt) = true → ∀ j (h : j < p.types.length), j < k + 1 → legalT (p.types[j]'h) = true) := hide (fun e j h hj => by
        by_cases hjk : j = k
        · subst hjk; exact e
        · exact HQ.out j h (by omega))
      generalize p.types[k]'hlt = t at *
      rw [hA] at c2
      clear hA
      unfold tyV at HC
      go_wp2_with fail
      refine HC.out.mono ?_
      rintro e w3 ⟨rfl, hx3⟩
      have X3 := hide (HX.out.trans hx3)
      have B3 := hide ((X3.out.heap (lt_of_obj B3.out)).trans B3.out)
      clear HC hx3 k0 k1 k2 c2 c3 lc
      cases hlg : legalT t
      · have hR := HNo.out hlg
        have XF := hide (fun v0 v1 v2 v3 => ext_set4 (X2.out.trans X3.out) (b := w.heap.size + 1 + 1) (by omega) v0 v1 v2 v3)
        have hy3 := lt_of_obj B3.out
        obtain ⟨y0, y1, y2, y3, yf0, yf1, yf2, yf3⟩ := p0_cells B3.out
        clear HR2 HNo HYe
        subst hR
        go_wp2
        refine bodyPost_ret (v := .tuple #[.agg #[.string ⟨#[]⟩, .string ⟨#[]⟩, .int .i64 0, .slice none 0 0], .bool false]) ?_ rfl ⟨⟨⟨[], Ty.zero⟩, rfl, RvOk.no⟩, ?_⟩
        · simp [results, Tryz.f50, go_sem, y0, y1, y2, y3]
        · exact XF.out _ _ _ _
      · have HQ2 := hide (HYe.out hlg)
        clear HNo HYe
        go_wp2
        go_roundw
        case rel => exact ⟨k + 1, hlt, by go_num, X3, HQ2⟩
        case measure => simp [intOf]; omega
    · have hge : ¬ (k : Int) < (p.types.length : Int) := by omega
      have hall : p.types.all legalT = true := by
        rw [List.all_eq_true]
        intro t ht
        obtain ⟨j, hj, rfl⟩ := List.mem_iff_getElem.1 ht
        exact HQ.out j hj (by omega)
      have HR3 : Hid (R = if wantsB p.types y.preds (p.kids.map (prv x.classes x.insts given)) = true then some ⟨y.cls, .mk y.con 0 p.T p.tc p.types⟩ else none) := hide (by
        rw [HR2.out]
        unfold instOkB
        rw [hall, Hb2.out, decide_eq_true Htn.out, decide_eq_true Hkp.out]
        simp only [Bool.true_and])
      have HWi := hide (r_with23 y p.T p.tc p.types wr (HI.out.ext XR.out) Hb2.out (Hp.out.hd.types.ext XR.out) Htn.out.symm (fun t ht => ⟨List.all_eq_true.1 hall t ht, Hs1.out t ht⟩) hpl)
      unfold inV at HWi
      obtain ⟨k0, k1, k2, k3⟩ := (C2.out.ext HX.out).cells
      have lk := (C2.out.ext HX.out).lt
      clear hall HQ HR2
      go_wp2_with fail
      refine HWi.out.mono ?_
      rintro e w4 ⟨⟨A9, c9, ds, rfl, hds, hwo⟩, hx4⟩
      have X4 := hide (XR.out.trans hx4)
      have B1 := hide (B1.out.ext (HX.out.trans hx4))
      have B2 := hide (B2.out.ext (HX.out.trans hx4))
      have B3 := hide (((HX.out.trans hx4).heap (lt_of_obj B3.out)).trans B3.out)
      have C2 := hide (C2.out.ext (HX.out.trans hx4))
      have HDs := hide hds
      have HWo := hide hwo
      clear hds hwo HWi k0 k1 k2 k3 lk c2 c3 lc hx4 hge hk HX XR
      go_wp2
      go_loopw [11] (fun i wr => ∃ k : Nat, k ≤ p.kids.length ∧ i = .int .i64 k ∧ Hid (Ext w4 wr) ∧ Hid (∀ j (h1 : j < y.preds.length) (h2 : j < p.kids.length), j < k → wantB p.types (y.preds[j]'h1) (prv x.classes x.insts given (p.kids[j]'h2)) = true)) (fun i _ => p.kids.length - (intOf i).toNat)
      case atStart => exact ⟨0, Nat.zero_le _, rfl, hide (Ext.refl _), hide (fun j _ _ h => absurd h (by omega))⟩
      case round =>
        obtain ⟨k, hk, rfl, HX, HQ⟩ := hrel
        have XR := hide (X4.out.trans HX.out)
        obtain ⟨-, -, c2, c3⟩ := (B2.out.ext HX.out).cells
        have lc := (B2.out.ext HX.out).lt
        by_cases hlt : k < p.kids.length
        · have hlt' : (k : Int) < (p.kids.length : Int) := by omega
          have hk0 : (0 : Int) ≤ (k : Int) := by omega
          have hkp : k < y.preds.length := by rw [← Hkp.out]; exact hlt
          have hkd : k < ds.length := by rw [HWo.out.1]; exact hkp
          have hkd' : (k : Int) < (ds.length : Int) := by omega
          obtain ⟨b4, o4, hA, hb4, k0, k1, k2, k3⟩ := (Hp.out.all.ext XR.out).at_ hlt
          obtain ⟨bd, od, rfl, hbd, w0, w1, w2', w3'⟩ := (HDs.out.ext HX.out).at_ hkd
          have HKk := hide (HK.out k hlt)
          have HWk : Hid (∀ bb, wantB p.types (y.preds[k]'hkp) (prv x.classes x.insts given (p.kids[k]'hlt)) = bb → (bb = false → R = none) ∧ (bb = true → ∀ j (h1 : j < y.preds.length) (h2 : j < p.kids.length), j < k + 1 → wantB p.types (y.preds[j]'h1) (prv x.classes x.insts given (p.kids[j]'h2)) = true)) := hide (by
            intro bb hb
            refine ⟨fun e => ?_, fun e j h1 h2 hj => ?_⟩
            · rw [HR3.out, if_neg]
              rw [wants_no hkp (by rw [List.length_map]; exact hlt) (by rw [List.getElem_map, hb, e])]
              decide
            · by_cases hjk : j = k
              · subst hjk; rw [hb, e]
              · exact HQ.out j h1 h2 (by omega))
          have HSw := hide (fun a => same_want HWo.out hkd hkp a)
          have HInk := hide (HIn.out k hlt)
          have HDk := hide (HDs.out.all _ (List.getElem_mem hkd))
          generalize p.kids[k]'hlt = kid at *
          generalize y.preds[k]'hkp = want at *
          generalize ds[k]'hkd = dk at *
          obtain ⟨O, hO⟩ : ∃ O, O = prv x.classes x.insts given kid := ⟨_, rfl⟩
          rw [← hO] at HKk HWk HInk
          clear hO
          rw [hA] at c3
          clear hA HQ HR3
          obtain ⟨e0, e1, e2⟩ := (B1.out.ext HX.out).cells
          have le0 := (B1.out.ext HX.out).lt
          unfold enV pfV at HKk
          have hne0 : w.heap.size ≠ wr.heap.size := by omega
          have hne1 : w.heap.size + 1 ≠ wr.heap.size := by omega
          have hne4 : b4 ≠ wr.heap.size := by omega
          have HSS := hide (fun w' (e : Ext wr w') => And.intro (e.cell e0) (And.intro (e.cell e1) (And.intro (e.cell e2) (And.intro (e.cell c3) (And.intro (e.cell k0) (And.intro (e.cell k1) (And.intro (e.cell k2) (e.cell k3))))))))
          have Hw0 := hide w0
          have Hw1 := hide w1
          have Hw2 := hide w2'
          have Hw3 := hide w3'
          clear w0 w1 w2' w3'
          go_upto_region 15 with fail
          go_cut [12, 13] from 72 to 101 (fun s12 s13 wx => ∃ (b8 : Nat) (q : Pd), s12 = .pointer (some ⟨b8, 0, none⟩) ∧ s13 = .bool O.isSome ∧ RvOk O q ∧ wr.heap.size ≤ b8 ∧ Hid (Ext wr wx) ∧ Hid (PdBox wx b8 q))
          case first =>
            go_region_held3 (fun w' => w'.cell? ⟨w.heap.size, 0, none⟩ = some (.slice x.D x.datas.length x.dc) ∧ w'.cell? ⟨w.heap.size, 1, none⟩ = some (.slice x.C x.classes.length x.cc) ∧ w'.cell? ⟨w.heap.size, 2, none⟩ = some (.slice x.I x.insts.length x.ic) ∧ w'.cell? ⟨w.heap.size + 1, 3, none⟩ = some (.slice (some ⟨b4, o4, none⟩) p.kids.length p.cap) ∧ w'.cell? ⟨b4, o4 + k * 4, none⟩ = some (.int .i64 kid.kind) ∧ w'.cell? ⟨b4, o4 + k * 4 + 1, none⟩ = some (.int .i64 kid.n) ∧ w'.cell? ⟨b4, o4 + k * 4 + 2, none⟩ = some (.slice kid.T kid.types.length kid.tc) ∧ w'.cell? ⟨b4, o4 + k * 4 + 3, none⟩ = some (.slice kid.A kid.kids.length kid.cap)) (first | with_reducible assumption | (obtain ⟨g1, g2, g3, g4, g5, g6, g7, g8⟩ := kS; with_reducible exact ⟨cell4 hne0 _ _ _ _ g1, cell4 hne0 _ _ _ _ g2, cell4 hne0 _ _ _ _ g3, cell4 hne1 _ _ _ _ g4, cell4 hne4 _ _ _ _ g5, cell4 hne4 _ _ _ _ g6, cell4 hne4 _ _ _ _ g7, cell4 hne4 _ _ _ _ g8⟩) | go_keep) (first
              | (go_at_call 26
                 refine Calls.mono (HKk.out _ (XR.out.trans (by repeat (first | exact Ext.refl _ | exact Ext.pre (by simp) | exact Ext.alloc (by assumption) _ | refine Ext.alloc ?_ _ |  refine Ext.more ?_ _ _ | refine Ext.drew ?_ | refine Ext.drewN ?_ _)))).out ?_
                 rintro e z ⟨⟨q, rfl, hok⟩, hxy⟩
                 have kS := HSS.out z (by refine Ext.trans ?_ hxy; exact (by repeat (first | exact Ext.refl _ | exact Ext.pre (by simp) | exact Ext.alloc (by assumption) _ | refine Ext.alloc ?_ _ |  refine Ext.more ?_ _ _ | refine Ext.drew ?_ | refine Ext.drewN ?_ _)))
                 (try (have zz := zp hxy (B := wr.heap.size) (by with_reducible exact at_newD wr _); obtain ⟨z0, z1, z2, z3, z4, z5, z6, z7, z8⟩ := zz))))
            all_goals (go_wp2_with fail; go_meet; first
              | exact ⟨z.heap.size, q, rfl, rfl, hok, Nat.le_trans (Nat.le_refl _) ((Ext.refl wr).drew.trans hxy).size, hide (((Ext.refl wr).drew.trans hxy).alloc _), hide (at_newB _ _ _ rfl)⟩
              | exact ⟨wr.heap.size, q, rfl, rfl, hok, Nat.le_refl _, hide ((zp2 (((Ext.refl wr).alloc _).drew) hxy (Nat.le_refl _) (at_newB wr _ _ rfl) _).1), hide ((zp2 (((Ext.refl wr).alloc _).drew) hxy (Nat.le_refl _) (at_newB wr _ _ rfl) _).2)⟩)
          case rest =>
            obtain ⟨b8, q, rfl, rfl, hok, hb8, HXx, HB8⟩ := hcut
            have XC := hide (HX.out.trans HXx.out)
            have B3 := hide ((XC.out.heap (lt_of_obj B3.out)).trans B3.out)
            have XF := hide (fun y (e : Ext w4 y) v0 v1 v2 v3 => ext_set4 (X4.out.trans e) (b := w.heap.size + 1 + 1) (by omega) v0 v1 v2 v3)
            clear e0 e1 e2 le0 c2 c3 lc k0 k1 k2 k3 HSS HKk
            cases O with
            | none =>
              have hR := (HWk.out _ rfl).1 rfl
              have XF := hide (XF.out _ XC.out)
              have hy3 := lt_of_obj B3.out
              obtain ⟨y0, y1, y2, y3, yf0, yf1, yf2, yf3⟩ := p0_cells B3.out
              clear hok HWk HSw HInk HXx HB8 HX
              subst hR
              simp only [Option.isSome_none]
              go_wp2
              go_quiet (fail)
              all_goals
                go_wp2
                refine bodyPost_ret (v := .tuple #[.agg #[.string ⟨#[]⟩, .string ⟨#[]⟩, .int .i64 0, .slice none 0 0], .bool false]) ?_ rfl ⟨⟨⟨[], Ty.zero⟩, rfl, RvOk.no⟩, ?_⟩
                · simp [results, Tryz.f50, go_sem, y0, y1, y2, y3]
                · first | exact (XF.out _ _ _ _).drewN _ | exact XF.out _ _ _ _ | (refine ext_set4 ?_ (by omega) _ _ _ _; exact ((X4.out.trans XC.out).drewN _))
            | some a =>
              obtain rfl := hok.eq a rfl
              have Hq := hide ((HInk.out _ rfl).ext (XR.out.trans HXx.out))
              have HSm := hide (fun w' (e : Ext wc w') => hide (r_same20F q dk w' (Hq.out.ty.ext e) (HDk.out.ty.ext (XC.out.trans e))))
              have hsw := HSw.out q
              simp only [hsw] at HSm
              obtain ⟨d0, d1, d2, d3⟩ := HB8.out.cells
              have ld := HB8.out.lt
              have w0 := HXx.out.cell Hw0.out
              have w1 := HXx.out.cell Hw1.out
              have w2' := HXx.out.cell Hw2.out
              have w3' := HXx.out.cell Hw3.out
              have hbdc : bd < wc.heap.size := Nat.lt_of_lt_of_le hbd HXx.out.size
              have HSS := hide (fun w' (e : Ext wc w') => And.intro (e.cell d0) (And.intro (e.cell d1) (And.intro (e.cell d2) (And.intro (e.cell d3) (And.intro (e.cell w0) (And.intro (e.cell w1) (And.intro (e.cell w2') (e.cell w3'))))))))
              unfold pdV at HSm
              simp only [Option.isSome_some]
              clear hsw HSw hok HInk
              cases hww : wantB p.types want (some q)
              all_goals
                rw [hww] at HSm
                go_wp2
                go_region_held3 (fun w' => w'.cell? ⟨b8, 0, none⟩ = some (encStr q.cls) ∧ w'.cell? ⟨b8, 1, none⟩ = some (encStr q.ty.con) ∧ w'.cell? ⟨b8, 2, none⟩ = some (.int .i64 q.ty.var) ∧ w'.cell? ⟨b8, 3, none⟩ = some (.slice q.ty.A q.ty.args.length q.ty.cap) ∧ w'.cell? ⟨bd, od + k * 4, none⟩ = some (.string ⟨dk.cls.toArray⟩) ∧ w'.cell? ⟨bd, od + k * 4 + 1, none⟩ = some (.string ⟨dk.ty.con.toArray⟩) ∧ w'.cell? ⟨bd, od + k * 4 + 2, none⟩ = some (.int .i64 dk.ty.var) ∧ w'.cell? ⟨bd, od + k * 4 + 3, none⟩ = some (.slice dk.ty.A dk.ty.args.length dk.ty.cap)) (first | with_reducible assumption | go_keep) (first
                  | (go_at_call 10
                     refine Calls.mono (HSm.out _ (by repeat (first | exact Ext.refl _ | exact Ext.pre (by simp) | exact Ext.alloc (by assumption) _ | refine Ext.alloc ?_ _ |  refine Ext.more ?_ _ _ | refine Ext.drew ?_ | refine Ext.drewN ?_ _))).out ?_
                     rintro e z ⟨rfl, hxz⟩
                     have kS := HSS.out z (by refine Ext.trans ?_ hxz; exact (by repeat (first | exact Ext.refl _ | exact Ext.pre (by simp) | exact Ext.alloc (by assumption) _ | refine Ext.alloc ?_ _ |  refine Ext.more ?_ _ _ | refine Ext.drew ?_ | refine Ext.drewN ?_ _)))
                     have X7 : Hid (Ext wc z) := hide (by refine Ext.trans ?_ hxz; exact (by repeat (first | exact Ext.refl _ | exact Ext.pre (by simp) | exact Ext.alloc (by assumption) _ | refine Ext.alloc ?_ _ |  refine Ext.more ?_ _ _ | refine Ext.drew ?_ | refine Ext.drewN ?_ _)))
                     clear hxz))
              · have hR := (HWk.out false hww).1 rfl
                have B3 := hide ((X7.out.heap (lt_of_obj B3.out)).trans B3.out)
                have hy3 := lt_of_obj B3.out
                have XF := hide (XF.out _ (XC.out.trans X7.out))
                obtain ⟨y0, y1, y2, y3, yf0, yf1, yf2, yf3⟩ := p0_cells B3.out
                clear HWk HX HSS HSm kS d0 d1 d2 d3 ld w0 w1 w2' w3' hbdc HXx HB8
                subst hR
                go_wp2
                refine bodyPost_ret (v := .tuple #[.agg #[.string ⟨#[]⟩, .string ⟨#[]⟩, .int .i64 0, .slice none 0 0], .bool false]) ?_ rfl ⟨⟨⟨[], Ty.zero⟩, rfl, RvOk.no⟩, ?_⟩
                · simp [results, Tryz.f50, go_sem, y0, y1, y2, y3]
                · exact XF.out _ _ _ _
              · have HQ2 := hide ((HWk.out true hww).2 rfl)
                have XN := hide (XC.out.trans X7.out)
                clear HWk HX HSS HSm kS d0 d1 d2 d3 ld w0 w1 w2' w3' hbdc HXx HB8
                go_wp2
                go_roundw
                case rel => exact ⟨k + 1, hlt, by go_num, XN, HQ2⟩
                case measure => simp [intOf]; omega
        · have hge : ¬ (k : Int) < (p.kids.length : Int) := by omega
          have hR : R = some ⟨y.cls, .mk y.con 0 p.T p.tc p.types⟩ := by
            rw [HR3.out, if_pos]
            refine wants_yes (by rw [List.length_map, Hkp.out]) (fun j h1 h2 => ?_)
            rw [List.getElem_map]
            rw [List.length_map] at h2
            exact HQ.out j h1 h2 (by omega)
          clear HR3 HQ
          subst hR
          have B3 := hide ((HX.out.heap (lt_of_obj B3.out)).trans B3.out)
          have hy3 := lt_of_obj B3.out
          obtain ⟨y0, y1, y2, y3, yf0, yf1, yf2, yf3⟩ := p0_cells B3.out
          obtain ⟨d0, d1, d2, d3⟩ := (C2.out.ext HX.out).cells
          have ld := (C2.out.ext HX.out).lt
          have XF := hide (fun v0 v1 v2 v3 => ext_set4 XR.out (b := w.heap.size + 1 + 1) (by omega) v0 v1 v2 v3)
          go_wp2
          refine bodyPost_ret (v := .tuple #[.agg #[encStr y.cls, encStr y.con, .int .i64 0, .slice p.T p.types.length p.tc], .bool true]) ?_ rfl ⟨⟨⟨y.cls, .mk y.con 0 p.T p.tc p.types⟩, rfl, RvOk.yes _⟩, ?_⟩
          · simp [results, Tryz.f50, go_sem, y0, y1, y2, y3]
          · exact XF.out _ _ _ _

end Go.Proofs.YtpdcjjgkpbpleaaGreatDoor

/- Contract of the reference: what a proof is of. (A program of ours has printed this.) -/
namespace Go.Proofs.YtpdcjjgkpbpleaaGreatDoor
open Go.RowKit

set_option maxRecDepth 10000 in
set_option maxHeartbeats 8000000 in
theorem r_prove_given (x : EnD) (G : Option Addr) (gc : Nat) (given : List Pd) (p : Pf) (hk : p.kind = 1) (hks : p.kids.length = 0) (hts : p.types.length = 0) (m : Nat) (hm : p.n = (m : Int)) (hml : m < given.length) (hgs : ∀ d ∈ given, d.ty.size ≤ 900000) (O : Option Pd) (hO : O = (some (given[m]'hml)).filter pdB) : RvC x G gc given 26 O p := by
  intro w he hg hp hsm
  obtain ⟨W, hW⟩ : ∃ W, W = (((w.alloc (.cells #[.slice x.D x.datas.length x.dc, .slice x.C x.classes.length x.cc, .slice x.I x.insts.length x.ic] 26)).alloc (.cells #[.int .i64 p.kind, .int .i64 p.n, .slice p.T p.types.length p.tc, .slice p.A p.kids.length p.cap] 31)).alloc (.cells #[.string ⟨#[]⟩, .string ⟨#[]⟩, .int .i64 0, .slice none 0 0] 39)).alloc (.cells #[.string ⟨#[]⟩, .string ⟨#[]⟩, .int .i64 0, .slice none 0 0] 39) := ⟨_, rfl⟩
  have HW := hide hW.symm
  have X0 : Hid (Ext w W) := hide (by rw [hW]; exact ((((Ext.refl _).alloc _).alloc _).alloc _).alloc _)
  have B1 : Hid (EnBox W w.heap.size x) := hide (by rw [hW]; exact (EnBox.new w x).ext ((((Ext.refl _).alloc _).alloc _).alloc _))
  have B2 : Hid (FBox W (w.heap.size + 1) p) := hide (by rw [hW]; exact FBox.ext (at_newB _ _ _ (by simp)) (((Ext.refl _).alloc _).alloc _))
  have B3 : Hid (W.heap[w.heap.size + 1 + 1]? = some (.cells #[.string ⟨#[]⟩, .string ⟨#[]⟩, .int .i64 0, .slice none 0 0] 39)) := hide (by rw [hW]; exact (((Ext.refl _).alloc _).heap (by simp)).trans (at_newB _ _ _ (by simp)))
  have B4 : Hid (W.heap[w.heap.size + 1 + 1 + 1]? = some (.cells #[.string ⟨#[]⟩, .string ⟨#[]⟩, .int .i64 0, .slice none 0 0] 39)) := hide (by rw [hW]; exact at_newB _ _ _ (by simp))
  have HsW : Hid (W.heap.size = w.heap.size + 4) := hide (by rw [hW]; simp)
  clear hW
  obtain ⟨c0, c1, c2, c3⟩ := B2.out.cells
  obtain ⟨y0, y1, y2, y3, yf0, yf1, yf2, yf3⟩ := p0_cells B3.out
  obtain ⟨v0, v1, v2, v3, vf0, vf1, vf2, vf3⟩ := p0_cells B4.out
  have hlt0 : w.heap.size < W.heap.size := by rw [HsW.out]; omega
  have hlt1 : w.heap.size + 1 < W.heap.size := by rw [HsW.out]; omega
  have hlt2 : w.heap.size + 1 + 1 < W.heap.size := by rw [HsW.out]; omega
  have hlt3 : w.heap.size + 1 + 1 + 1 < W.heap.size := by rw [HsW.out]; omega
  have hm1 : (m : Int) < (given.length : Int) := by omega
  have hm0 : (0 : Int) ≤ (m : Int) := by omega
  have hm2 : (m : Int) ≥ 0 := by omega
  obtain ⟨b, o, rfl, hb, q0, q1, q2, q3⟩ := (hg.ext X0.out).at_ hml
  have HAin := hide (hg.all _ (List.getElem_mem hml))
  have Hsz := hide (hgs _ (List.getElem_mem hml))
  have HOv := hide hO
  rw [hm] at c1 HW
  clear hO hgs hg he hp hsm
  generalize given[m]'hml = a at *
  unfold enV pfV
  rw [hk] at c0 HW
  rw [hts] at c2 HW
  rw [hks] at c3 HW
  rw [hk, hm, hts, hks]
  go_enter Tryz.func26, Tryz.ntmps26
  go_upto_region 3 with fail
  rw [HW.out]
  clear HW
  go_upto_region 16 with fail
  refine wp_name ?_
  intro Wc hWc
  have XWc : Hid (Ext w Wc) := hide (by rw [hWc]; exact ext_set4 X0.out (by omega) _ _ _ _)
  have BA : Hid (PdBox Wc (w.heap.size + 1 + 1 + 1) a) := hide (by rw [hWc]; exact setPd_box B4.out a)
  have B3c : Hid (Wc.heap[w.heap.size + 1 + 1]? = some (.cells #[.string ⟨#[]⟩, .string ⟨#[]⟩, .int .i64 0, .slice none 0 0] 39)) := hide (by rw [hWc]; exact (setPd_other a (by omega)).trans B3.out)
  clear hWc c0 c1 c2 c3 y0 y1 y2 y3 yf0 yf1 yf2 yf3 v0 v1 v2 v3 vf0 vf1 vf2 vf3 q0 q1 q2 q3
  have HC := hide (fun w' (e : Ext w w') => hide (r_legal20U a w' (HAin.out.ext e) Hsz.out))
  have HO2 : Hid (O.isSome = pdB a ∧ RvOk O a) := hide (by
    rw [HOv.out, Option.filter_some]
    cases hpb : pdB a
    · exact ⟨rfl, RvOk.no⟩
    · exact ⟨rfl, RvOk.yes a⟩)
  clear HOv
  generalize pdB a = ok at *
  have B3d : Hid (Wc.drew.heap[w.heap.size + 1 + 1]? = some (.cells #[.string ⟨#[]⟩, .string ⟨#[]⟩, .int .i64 0, .slice none 0 0] 39)) := hide B3c.out
  obtain ⟨a0, a1, a2, a3⟩ := BA.out.cells
  have la := BA.out.lt
  have hy6 := lt_of_obj B3c.out
  have hne : w.heap.size + 1 + 1 + 1 ≠ w.heap.size + 1 + 1 := by omega
  have hge6 : w.heap.size ≤ w.heap.size + 1 + 1 := by omega
  obtain ⟨y0, y1, y2, y3, yf0, yf1, yf2, yf3⟩ := p0_cells B3c.out
  have HSS := hide (fun w' (e : Ext Wc w') => And.intro (e.cell a0) (And.intro (e.cell a1) (And.intro (e.cell a2) (e.cell a3))))
  unfold pdV at *
  go_wp2
  go_region_held3 (fun w' => w'.cell? ⟨w.heap.size + 1 + 1 + 1, 0, none⟩ = some (encStr a.cls) ∧ w'.cell? ⟨w.heap.size + 1 + 1 + 1, 1, none⟩ = some (encStr a.ty.con) ∧ w'.cell? ⟨w.heap.size + 1 + 1 + 1, 2, none⟩ = some (.int .i64 a.ty.var) ∧ w'.cell? ⟨w.heap.size + 1 + 1 + 1, 3, none⟩ = some (.slice a.ty.A a.ty.args.length a.ty.cap)) (first | with_reducible assumption | (with_reducible exact ⟨cell4 hne _ _ _ _ a0, cell4 hne _ _ _ _ a1, cell4 hne _ _ _ _ a2, cell4 hne _ _ _ _ a3⟩) | go_keep) (first
    | (go_at_call 51
       refine Calls.mono (HC.out _ (by first | exact XWc.out.drew | exact (ext_set4 XWc.out hge6 _ _ _ _).drew | exact XWc.out | exact ext_set4 XWc.out hge6 _ _ _ _)).out ?_
       rintro e z ⟨rfl, hxz⟩
       (try (have kS := HSS.out z (by refine Ext.trans ?_ hxz; with_reducible exact (Ext.refl Wc).drew)))
       (try (have zz := zp hxz (B := w.heap.size + 1 + 1) (by with_reducible exact B3d.out); obtain ⟨z0, z1, z2, z3, z4, z5, z6, z7, z8⟩ := zz))))
  all_goals first
    | (have BB := (setPd_box B3c.out a).ext (Ext.trans ((Ext.refl (setPd Wc (w.heap.size + 1 + 1) a)).drew) hxz)
       obtain ⟨r0, r1, r2, r3⟩ := BB.cells
       go_wp2
       refine bodyPost_ret (v := .tuple #[.agg #[encStr a.cls, encStr a.ty.con, .int .i64 a.ty.var, .slice a.ty.A a.ty.args.length a.ty.cap], .bool ok]) ?_ rfl ⟨⟨a, by first | (rw [HO2.out.1]; done) | (rw [HO2.out.1]; rfl), HO2.out.2⟩, ?_⟩
       · simp [results, Tryz.f26, go_sem, r0, r1, r2, r3]
       · exact Ext.trans (ext_set4 XWc.out hge6 _ _ _ _).drew hxz)
    | (go_wp2
       refine bodyPost_ret (v := .tuple #[.agg #[encStr a.cls, encStr a.ty.con, .int .i64 a.ty.var, .slice a.ty.A a.ty.args.length a.ty.cap], .bool ok]) ?_ rfl ⟨⟨a, by first | (rw [HO2.out.1]; done) | (rw [HO2.out.1]; rfl), HO2.out.2⟩, ?_⟩
       · simp [results, Tryz.f26, go_sem, z0, z1, z2, z3]
       · exact ext_set4 (Ext.trans XWc.out.drew hxz) hge6 _ _ _ _)


theorem sum_bound {α : Type} (f : α → Nat) (M : Nat) (l : List α) (h : ∀ x ∈ l, f x ≤ M) : (l.map f).sum ≤ M * l.length := by
  induction l with
  | nil => simp
  | cons x l ih =>
    have h1 := h x (by simp)
    have h2 := ih (fun y hy => h y (by simp [hy]))
    simp only [List.map_cons, List.sum_cons, List.length_cons, Nat.mul_add]
    omega
theorem inst_size {ins : List InD} {p : Pf} {l : List (Option Pd)} {a : Pd} (h : instR ins p l = some a) : a.ty.size ≤ 900000 := by
  unfold instR at h
  obtain ⟨y, hy, h⟩ := Option.bind_eq_some_iff.1 h
  split at h
  · rename_i hc
    injection h with h
    subst h
    rw [Bool.and_eq_true] at hc
    obtain ⟨hc, -⟩ := hc
    unfold instOkB at hc
    simp only [Bool.and_eq_true, decide_eq_true_eq] at hc
    obtain ⟨⟨⟨h1, h2⟩, -⟩, h4⟩ := hc
    have h9 : instHd y = true := by unfold instB at h1; rw [Bool.and_eq_true] at h1; exact h1.1
    have h8 := (instHd_n h9).2
    have hb := sum_bound Ty.size 4096 p.types (fun t ht => (legal_parts (List.all_eq_true.1 h4 t ht)).1)
    show (Ty.mk y.con 0 p.T p.tc p.types).size ≤ 900000
    rw [Ty.size_eq]
    show (p.types.map Ty.size).sum + 1 ≤ 900000
    omega
  · cases h

set_option maxRecDepth 10000 in
set_option maxHeartbeats 8000000 in
theorem r_prove_inst (x : EnD) (G : Option Addr) (gc : Nat) (given : List Pd) (p : Pf) (hk : p.kind = 3) (R : Option Pd) (hR : ∀ w, EnIn w x → PfIn w p → ∀ a, R = some a → PdIn w a ∧ a.ty.size ≤ 900000) (hRi : RvC x G gc given 50 R p) (O : Option Pd) (hO : O = R.filter pdB) : RvC x G gc given 26 O p := by
  intro w he hg hp hsm
  obtain ⟨W, hW⟩ : ∃ W, W = (((w.alloc (.cells #[.slice x.D x.datas.length x.dc, .slice x.C x.classes.length x.cc, .slice x.I x.insts.length x.ic] 26)).alloc (.cells #[.int .i64 p.kind, .int .i64 p.n, .slice p.T p.types.length p.tc, .slice p.A p.kids.length p.cap] 31)).alloc (.cells #[.string ⟨#[]⟩, .string ⟨#[]⟩, .int .i64 0, .slice none 0 0] 39)).alloc (.cells #[.string ⟨#[]⟩, .string ⟨#[]⟩, .int .i64 0, .slice none 0 0] 39) := ⟨_, rfl⟩
  have HW := hide hW.symm
  have X0 : Hid (Ext w W) := hide (by rw [hW]; exact ((((Ext.refl _).alloc _).alloc _).alloc _).alloc _)
  have B1 : Hid (EnBox W w.heap.size x) := hide (by rw [hW]; exact (EnBox.new w x).ext ((((Ext.refl _).alloc _).alloc _).alloc _))
  have B2 : Hid (FBox W (w.heap.size + 1) p) := hide (by rw [hW]; exact FBox.ext (at_newB _ _ _ (by simp)) (((Ext.refl _).alloc _).alloc _))
  have B3 : Hid (W.heap[w.heap.size + 1 + 1]? = some (.cells #[.string ⟨#[]⟩, .string ⟨#[]⟩, .int .i64 0, .slice none 0 0] 39)) := hide (by rw [hW]; exact (((Ext.refl _).alloc _).heap (by simp)).trans (at_newB _ _ _ (by simp)))
  have B4 : Hid (W.heap[w.heap.size + 1 + 1 + 1]? = some (.cells #[.string ⟨#[]⟩, .string ⟨#[]⟩, .int .i64 0, .slice none 0 0] 39)) := hide (by rw [hW]; exact at_newB _ _ _ (by simp))
  have HsW : Hid (W.heap.size = w.heap.size + 4) := hide (by rw [hW]; simp)
  clear hW
  obtain ⟨c0, c1, c2, c3⟩ := B2.out.cells
  obtain ⟨y0, y1, y2, y3, yf0, yf1, yf2, yf3⟩ := p0_cells B3.out
  obtain ⟨v0, v1, v2, v3, vf0, vf1, vf2, vf3⟩ := p0_cells B4.out
  have hlt0 : w.heap.size < W.heap.size := by rw [HsW.out]; omega
  have hlt1 : w.heap.size + 1 < W.heap.size := by rw [HsW.out]; omega
  have hlt2 : w.heap.size + 1 + 1 < W.heap.size := by rw [HsW.out]; omega
  have hlt3 : w.heap.size + 1 + 1 + 1 < W.heap.size := by rw [HsW.out]; omega
  have g1 : (p.kind == 1) = false := by rw [hk]; rfl
  have g2 : (p.kind == 2) = false := by rw [hk]; rfl
  have g3 : (p.kind == 3) = true := by rw [hk]; rfl
  have HRi := hide (hRi W (he.ext X0.out) (hg.ext X0.out) (hp.ext X0.out) hsm)
  have HRa := hide (hR w he hp)
  obtain ⟨e0, e1, e2⟩ := B1.out.cells
  have HOv0 := hide hO
  unfold enV pfV at *
  clear hR hRi hO he hg hp hsm hk
  go_enter Tryz.func26, Tryz.ntmps26
  go_upto_region 3 with fail
  rw [HW.out]
  clear HW
  go_wp2_with fail
  refine HRi.out.mono ?_
  rintro e w2 ⟨⟨q, rfl, hok⟩, hx⟩
  have X2 := hide hx
  unfold pdV
  clear hx HRi c0 c1 c2 c3 y0 y1 y2 y3 yf0 yf1 yf2 yf3 v0 v1 v2 v3 vf0 vf1 vf2 vf3 e0 e1 e2
  go_upto_region 13 with fail
  refine wp_name ?_
  intro W3 hW3
  have X3 : Hid (Ext W W3) := hide (by rw [hW3]; exact X2.out.alloc _)
  have BQ : Hid (PdBox W3 w2.heap.size q) := hide (by rw [hW3]; exact PdBox.new w2 q)
  have B3 := hide ((X3.out.heap (lt_of_obj B3.out)).trans B3.out)
  have B4 := hide ((X3.out.heap (lt_of_obj B4.out)).trans B4.out)
  have XW3 := hide (X0.out.trans X3.out)
  clear hW3
  have hy3 := lt_of_obj B3.out
  have hy4 := lt_of_obj B4.out
  obtain ⟨y0, y1, y2, y3, yf0, yf1, yf2, yf3⟩ := p0_cells B3.out
  obtain ⟨v0, v1, v2, v3, vf0, vf1, vf2, vf3⟩ := p0_cells B4.out
  obtain ⟨d0, d1, d2, d3⟩ := BQ.out.cells
  have ld := BQ.out.lt
  cases R with
  | none =>
    have hO : O = none := by rw [HOv0.out]; rfl
    clear HOv0 hok HRa
    subst hO
    simp only [Option.isSome_none]
    go_wp2
    refine bodyPost_ret (v := .tuple #[.agg #[.string ⟨#[]⟩, .string ⟨#[]⟩, .int .i64 0, .slice none 0 0], .bool false]) ?_ rfl ⟨⟨⟨[], Ty.zero⟩, rfl, RvOk.no⟩, ?_⟩
    · simp [results, Tryz.f26, go_sem, y0, y1, y2, y3]
    · exact ext_set4 XW3.out (by omega) _ _ _ _
  | some a =>
    obtain rfl := hok.eq a rfl
    rename Pd => a
    have HOv := hide HOv0.out
    have HAin := hide (HRa.out a rfl).1
    have Hsz := hide (HRa.out a rfl).2
    clear HRa hok HOv0
    simp only [Option.isSome_some]
    go_upto_region 16 with fail
    refine wp_name ?_
    intro Wc hWc
    have XWc : Hid (Ext w Wc) := hide (by rw [hWc]; exact ext_set4 XW3.out (by omega) _ _ _ _)
    have BA : Hid (PdBox Wc (w.heap.size + 1 + 1 + 1) a) := hide (by rw [hWc]; exact setPd_box B4.out a)
    have B3c : Hid (Wc.heap[w.heap.size + 1 + 1]? = some (.cells #[.string ⟨#[]⟩, .string ⟨#[]⟩, .int .i64 0, .slice none 0 0] 39)) := hide (by rw [hWc]; exact (setPd_other a (by omega)).trans B3.out)
    clear hWc y0 y1 y2 y3 yf0 yf1 yf2 yf3 v0 v1 v2 v3 vf0 vf1 vf2 vf3 d0 d1 d2 d3 ld hy3 hy4
    have HC := hide (fun w' (e : Ext w w') => hide (r_legal20U a w' (HAin.out.ext e) Hsz.out))
    have HO2 : Hid (O.isSome = pdB a ∧ RvOk O a) := hide (by
      rw [HOv.out, Option.filter_some]
      cases hpb : pdB a
      · exact ⟨rfl, RvOk.no⟩
      · exact ⟨rfl, RvOk.yes a⟩)
    clear HOv
    generalize pdB a = ok at *
    have B3d : Hid (Wc.drew.heap[w.heap.size + 1 + 1]? = some (.cells #[.string ⟨#[]⟩, .string ⟨#[]⟩, .int .i64 0, .slice none 0 0] 39)) := hide B3c.out
    obtain ⟨a0, a1, a2, a3⟩ := BA.out.cells
    have la := BA.out.lt
    have hy6 := lt_of_obj B3c.out
    have hne : w.heap.size + 1 + 1 + 1 ≠ w.heap.size + 1 + 1 := by omega
    have hge6 : w.heap.size ≤ w.heap.size + 1 + 1 := by omega
    obtain ⟨y0, y1, y2, y3, yf0, yf1, yf2, yf3⟩ := p0_cells B3c.out
    have HSS := hide (fun w' (e : Ext Wc w') => And.intro (e.cell a0) (And.intro (e.cell a1) (And.intro (e.cell a2) (e.cell a3))))
    unfold pdV at *
    go_wp2
    go_region_held3 (fun w' => w'.cell? ⟨w.heap.size + 1 + 1 + 1, 0, none⟩ = some (encStr a.cls) ∧ w'.cell? ⟨w.heap.size + 1 + 1 + 1, 1, none⟩ = some (encStr a.ty.con) ∧ w'.cell? ⟨w.heap.size + 1 + 1 + 1, 2, none⟩ = some (.int .i64 a.ty.var) ∧ w'.cell? ⟨w.heap.size + 1 + 1 + 1, 3, none⟩ = some (.slice a.ty.A a.ty.args.length a.ty.cap)) (first | with_reducible assumption | (with_reducible exact ⟨cell4 hne _ _ _ _ a0, cell4 hne _ _ _ _ a1, cell4 hne _ _ _ _ a2, cell4 hne _ _ _ _ a3⟩) | go_keep) (first
      | (go_at_call 51
         refine Calls.mono (HC.out _ (by first | exact XWc.out.drew | exact (ext_set4 XWc.out hge6 _ _ _ _).drew | exact XWc.out | exact ext_set4 XWc.out hge6 _ _ _ _)).out ?_
         rintro e z ⟨rfl, hxz⟩
         (try (have kS := HSS.out z (by refine Ext.trans ?_ hxz; with_reducible exact (Ext.refl Wc).drew)))
         (try (have zz := zp hxz (B := w.heap.size + 1 + 1) (by with_reducible exact B3d.out); obtain ⟨z0, z1, z2, z3, z4, z5, z6, z7, z8⟩ := zz))))
    all_goals first
      | (have BB := (setPd_box B3c.out a).ext (Ext.trans ((Ext.refl (setPd Wc (w.heap.size + 1 + 1) a)).drew) hxz)
         obtain ⟨r0, r1, r2, r3⟩ := BB.cells
         go_wp2
         refine bodyPost_ret (v := .tuple #[.agg #[encStr a.cls, encStr a.ty.con, .int .i64 a.ty.var, .slice a.ty.A a.ty.args.length a.ty.cap], .bool ok]) ?_ rfl ⟨⟨a, by first | (rw [HO2.out.1]; done) | (rw [HO2.out.1]; rfl), HO2.out.2⟩, ?_⟩
         · simp [results, Tryz.f26, go_sem, r0, r1, r2, r3]
         · exact Ext.trans (ext_set4 XWc.out hge6 _ _ _ _).drew hxz)
      | (go_wp2
         refine bodyPost_ret (v := .tuple #[.agg #[encStr a.cls, encStr a.ty.con, .int .i64 a.ty.var, .slice a.ty.A a.ty.args.length a.ty.cap], .bool ok]) ?_ rfl ⟨⟨a, by first | (rw [HO2.out.1]; done) | (rw [HO2.out.1]; rfl), HO2.out.2⟩, ?_⟩
         · simp [results, Tryz.f26, go_sem, z0, z1, z2, z3]
         · exact ext_set4 (Ext.trans XWc.out.drew hxz) hge6 _ _ _ _)

end Go.Proofs.YtpdcjjgkpbpleaaGreatDoor

/- Contract of the reference: where a proof is of nothing. (A program of ours has printed this.) -/
namespace Go.Proofs.YtpdcjjgkpbpleaaGreatDoor
open Go.RowKit

set_option maxRecDepth 10000 in
set_option maxHeartbeats 8000000 in
theorem r_prove_n1 (x : EnD) (G : Option Addr) (gc : Nat) (given : List Pd) (p : Pf) (hk : p.kind = 1) (h : p.kids.length + p.types.length ≠ 0) (hkb : p.kids.length < 1000000000000000000) (htb : p.types.length < 1000000000000000000) : RvC x G gc given 26 none p := by
  intro w he hg hp hsm
  obtain ⟨W, hW⟩ : ∃ W, W = (((w.alloc (.cells #[.slice x.D x.datas.length x.dc, .slice x.C x.classes.length x.cc, .slice x.I x.insts.length x.ic] 26)).alloc (.cells #[.int .i64 p.kind, .int .i64 p.n, .slice p.T p.types.length p.tc, .slice p.A p.kids.length p.cap] 31)).alloc (.cells #[.string ⟨#[]⟩, .string ⟨#[]⟩, .int .i64 0, .slice none 0 0] 39)).alloc (.cells #[.string ⟨#[]⟩, .string ⟨#[]⟩, .int .i64 0, .slice none 0 0] 39) := ⟨_, rfl⟩
  have HW := hide hW.symm
  have X0 : Hid (Ext w W) := hide (by rw [hW]; exact ((((Ext.refl _).alloc _).alloc _).alloc _).alloc _)
  have B1 : Hid (EnBox W w.heap.size x) := hide (by rw [hW]; exact (EnBox.new w x).ext ((((Ext.refl _).alloc _).alloc _).alloc _))
  have B2 : Hid (FBox W (w.heap.size + 1) p) := hide (by rw [hW]; exact FBox.ext (at_newB _ _ _ (by simp)) (((Ext.refl _).alloc _).alloc _))
  have B3 : Hid (W.heap[w.heap.size + 1 + 1]? = some (.cells #[.string ⟨#[]⟩, .string ⟨#[]⟩, .int .i64 0, .slice none 0 0] 39)) := hide (by rw [hW]; exact (((Ext.refl _).alloc _).heap (by simp)).trans (at_newB _ _ _ (by simp)))
  have B4 : Hid (W.heap[w.heap.size + 1 + 1 + 1]? = some (.cells #[.string ⟨#[]⟩, .string ⟨#[]⟩, .int .i64 0, .slice none 0 0] 39)) := hide (by rw [hW]; exact at_newB _ _ _ (by simp))
  have HsW : Hid (W.heap.size = w.heap.size + 4) := hide (by rw [hW]; simp)
  clear hW
  obtain ⟨c0, c1, c2, c3⟩ := B2.out.cells
  obtain ⟨y0, y1, y2, y3, yf0, yf1, yf2, yf3⟩ := p0_cells B3.out
  obtain ⟨v0, v1, v2, v3, vf0, vf1, vf2, vf3⟩ := p0_cells B4.out
  have hlt0 : w.heap.size < W.heap.size := by rw [HsW.out]; omega
  have hlt1 : w.heap.size + 1 < W.heap.size := by rw [HsW.out]; omega
  have hlt2 : w.heap.size + 1 + 1 < W.heap.size := by rw [HsW.out]; omega
  have hlt3 : w.heap.size + 1 + 1 + 1 < W.heap.size := by rw [HsW.out]; omega
  have g1 : (p.kind == 1) = true := by rw [hk]; rfl
  have g2 : (p.kind == 2) = false := by rw [hk]; rfl
  have g3 : (p.kind == 3) = false := by rw [hk]; rfl
  have hw1 : IntKind.i64.wrap ((p.kids.length : Int) + (p.types.length : Int)) = (p.kids.length : Int) + (p.types.length : Int) := IntWalk.i64_in _ (by omega)
  have hw3 : ¬ ((p.kids.length : Int) + (p.types.length : Int) = 0) := by omega
  have hw2 : ((p.kids.length : Int) + (p.types.length : Int) == 0) = false := by simpa using hw3
  clear hk
  unfold enV pfV
  go_enter Tryz.func26, Tryz.ntmps26
  go_upto_region 3 with fail
  rw [HW.out]
  clear HW
  go_wp2
  refine bodyPost_ret (v := .tuple #[.agg #[.string ⟨#[]⟩, .string ⟨#[]⟩, .int .i64 0, .slice none 0 0], .bool false]) ?_ rfl ⟨⟨⟨[], Ty.zero⟩, rfl, RvOk.no⟩, ?_⟩
  · simp [results, Tryz.f26, go_sem, y0, y1, y2, y3]
  · exact ext_set4 X0.out (by omega) _ _ _ _

set_option maxRecDepth 10000 in
set_option maxHeartbeats 8000000 in
theorem r_prove_n2 (x : EnD) (G : Option Addr) (gc : Nat) (given : List Pd) (p : Pf) (hk : p.kind = 1) (hks : p.kids.length = 0) (hts : p.types.length = 0) (h : p.n < 0) : RvC x G gc given 26 none p := by
  intro w he hg hp hsm
  obtain ⟨W, hW⟩ : ∃ W, W = (((w.alloc (.cells #[.slice x.D x.datas.length x.dc, .slice x.C x.classes.length x.cc, .slice x.I x.insts.length x.ic] 26)).alloc (.cells #[.int .i64 p.kind, .int .i64 p.n, .slice p.T p.types.length p.tc, .slice p.A p.kids.length p.cap] 31)).alloc (.cells #[.string ⟨#[]⟩, .string ⟨#[]⟩, .int .i64 0, .slice none 0 0] 39)).alloc (.cells #[.string ⟨#[]⟩, .string ⟨#[]⟩, .int .i64 0, .slice none 0 0] 39) := ⟨_, rfl⟩
  have HW := hide hW.symm
  have X0 : Hid (Ext w W) := hide (by rw [hW]; exact ((((Ext.refl _).alloc _).alloc _).alloc _).alloc _)
  have B1 : Hid (EnBox W w.heap.size x) := hide (by rw [hW]; exact (EnBox.new w x).ext ((((Ext.refl _).alloc _).alloc _).alloc _))
  have B2 : Hid (FBox W (w.heap.size + 1) p) := hide (by rw [hW]; exact FBox.ext (at_newB _ _ _ (by simp)) (((Ext.refl _).alloc _).alloc _))
  have B3 : Hid (W.heap[w.heap.size + 1 + 1]? = some (.cells #[.string ⟨#[]⟩, .string ⟨#[]⟩, .int .i64 0, .slice none 0 0] 39)) := hide (by rw [hW]; exact (((Ext.refl _).alloc _).heap (by simp)).trans (at_newB _ _ _ (by simp)))
  have B4 : Hid (W.heap[w.heap.size + 1 + 1 + 1]? = some (.cells #[.string ⟨#[]⟩, .string ⟨#[]⟩, .int .i64 0, .slice none 0 0] 39)) := hide (by rw [hW]; exact at_newB _ _ _ (by simp))
  have HsW : Hid (W.heap.size = w.heap.size + 4) := hide (by rw [hW]; simp)
  clear hW
  obtain ⟨c0, c1, c2, c3⟩ := B2.out.cells
  obtain ⟨y0, y1, y2, y3, yf0, yf1, yf2, yf3⟩ := p0_cells B3.out
  obtain ⟨v0, v1, v2, v3, vf0, vf1, vf2, vf3⟩ := p0_cells B4.out
  have hlt0 : w.heap.size < W.heap.size := by rw [HsW.out]; omega
  have hlt1 : w.heap.size + 1 < W.heap.size := by rw [HsW.out]; omega
  have hlt2 : w.heap.size + 1 + 1 < W.heap.size := by rw [HsW.out]; omega
  have hlt3 : w.heap.size + 1 + 1 + 1 < W.heap.size := by rw [HsW.out]; omega
  have g1 : (p.kind == 1) = true := by rw [hk]; rfl
  have g2 : (p.kind == 2) = false := by rw [hk]; rfl
  have g3 : (p.kind == 3) = false := by rw [hk]; rfl
  have h2 : ¬ p.n ≥ 0 := by omega
  rw [hks] at c3 HW
  rw [hts] at c2 HW
  clear hk
  unfold enV pfV
  rw [hks]
  rw [hts]
  go_enter Tryz.func26, Tryz.ntmps26
  go_upto_region 3 with fail
  rw [HW.out]
  clear HW
  go_wp2
  refine bodyPost_ret (v := .tuple #[.agg #[.string ⟨#[]⟩, .string ⟨#[]⟩, .int .i64 0, .slice none 0 0], .bool false]) ?_ rfl ⟨⟨⟨[], Ty.zero⟩, rfl, RvOk.no⟩, ?_⟩
  · simp [results, Tryz.f26, go_sem, y0, y1, y2, y3]
  · exact ext_set4 X0.out (by omega) _ _ _ _

set_option maxRecDepth 10000 in
set_option maxHeartbeats 8000000 in
theorem r_prove_n3 (x : EnD) (G : Option Addr) (gc : Nat) (given : List Pd) (p : Pf) (hk : p.kind = 1) (hks : p.kids.length = 0) (hts : p.types.length = 0) (h0 : p.n ≥ 0) (h : ¬ p.n < (given.length : Int)) : RvC x G gc given 26 none p := by
  intro w he hg hp hsm
  obtain ⟨W, hW⟩ : ∃ W, W = (((w.alloc (.cells #[.slice x.D x.datas.length x.dc, .slice x.C x.classes.length x.cc, .slice x.I x.insts.length x.ic] 26)).alloc (.cells #[.int .i64 p.kind, .int .i64 p.n, .slice p.T p.types.length p.tc, .slice p.A p.kids.length p.cap] 31)).alloc (.cells #[.string ⟨#[]⟩, .string ⟨#[]⟩, .int .i64 0, .slice none 0 0] 39)).alloc (.cells #[.string ⟨#[]⟩, .string ⟨#[]⟩, .int .i64 0, .slice none 0 0] 39) := ⟨_, rfl⟩
  have HW := hide hW.symm
  have X0 : Hid (Ext w W) := hide (by rw [hW]; exact ((((Ext.refl _).alloc _).alloc _).alloc _).alloc _)
  have B1 : Hid (EnBox W w.heap.size x) := hide (by rw [hW]; exact (EnBox.new w x).ext ((((Ext.refl _).alloc _).alloc _).alloc _))
  have B2 : Hid (FBox W (w.heap.size + 1) p) := hide (by rw [hW]; exact FBox.ext (at_newB _ _ _ (by simp)) (((Ext.refl _).alloc _).alloc _))
  have B3 : Hid (W.heap[w.heap.size + 1 + 1]? = some (.cells #[.string ⟨#[]⟩, .string ⟨#[]⟩, .int .i64 0, .slice none 0 0] 39)) := hide (by rw [hW]; exact (((Ext.refl _).alloc _).heap (by simp)).trans (at_newB _ _ _ (by simp)))
  have B4 : Hid (W.heap[w.heap.size + 1 + 1 + 1]? = some (.cells #[.string ⟨#[]⟩, .string ⟨#[]⟩, .int .i64 0, .slice none 0 0] 39)) := hide (by rw [hW]; exact at_newB _ _ _ (by simp))
  have HsW : Hid (W.heap.size = w.heap.size + 4) := hide (by rw [hW]; simp)
  clear hW
  obtain ⟨c0, c1, c2, c3⟩ := B2.out.cells
  obtain ⟨y0, y1, y2, y3, yf0, yf1, yf2, yf3⟩ := p0_cells B3.out
  obtain ⟨v0, v1, v2, v3, vf0, vf1, vf2, vf3⟩ := p0_cells B4.out
  have hlt0 : w.heap.size < W.heap.size := by rw [HsW.out]; omega
  have hlt1 : w.heap.size + 1 < W.heap.size := by rw [HsW.out]; omega
  have hlt2 : w.heap.size + 1 + 1 < W.heap.size := by rw [HsW.out]; omega
  have hlt3 : w.heap.size + 1 + 1 + 1 < W.heap.size := by rw [HsW.out]; omega
  have g1 : (p.kind == 1) = true := by rw [hk]; rfl
  have g2 : (p.kind == 2) = false := by rw [hk]; rfl
  have g3 : (p.kind == 3) = false := by rw [hk]; rfl
  rw [hks] at c3 HW
  rw [hts] at c2 HW
  clear hk
  unfold enV pfV
  rw [hks]
  rw [hts]
  go_enter Tryz.func26, Tryz.ntmps26
  go_upto_region 3 with fail
  rw [HW.out]
  clear HW
  go_wp2
  refine bodyPost_ret (v := .tuple #[.agg #[.string ⟨#[]⟩, .string ⟨#[]⟩, .int .i64 0, .slice none 0 0], .bool false]) ?_ rfl ⟨⟨⟨[], Ty.zero⟩, rfl, RvOk.no⟩, ?_⟩
  · simp [results, Tryz.f26, go_sem, y0, y1, y2, y3]
  · exact ext_set4 X0.out (by omega) _ _ _ _

set_option maxRecDepth 10000 in
set_option maxHeartbeats 8000000 in
theorem r_prove_n4 (x : EnD) (G : Option Addr) (gc : Nat) (given : List Pd) (p : Pf) (hk : p.kind = 2) (h : p.kids.length ≠ 1) : RvC x G gc given 26 none p := by
  intro w he hg hp hsm
  obtain ⟨W, hW⟩ : ∃ W, W = (((w.alloc (.cells #[.slice x.D x.datas.length x.dc, .slice x.C x.classes.length x.cc, .slice x.I x.insts.length x.ic] 26)).alloc (.cells #[.int .i64 p.kind, .int .i64 p.n, .slice p.T p.types.length p.tc, .slice p.A p.kids.length p.cap] 31)).alloc (.cells #[.string ⟨#[]⟩, .string ⟨#[]⟩, .int .i64 0, .slice none 0 0] 39)).alloc (.cells #[.string ⟨#[]⟩, .string ⟨#[]⟩, .int .i64 0, .slice none 0 0] 39) := ⟨_, rfl⟩
  have HW := hide hW.symm
  have X0 : Hid (Ext w W) := hide (by rw [hW]; exact ((((Ext.refl _).alloc _).alloc _).alloc _).alloc _)
  have B1 : Hid (EnBox W w.heap.size x) := hide (by rw [hW]; exact (EnBox.new w x).ext ((((Ext.refl _).alloc _).alloc _).alloc _))
  have B2 : Hid (FBox W (w.heap.size + 1) p) := hide (by rw [hW]; exact FBox.ext (at_newB _ _ _ (by simp)) (((Ext.refl _).alloc _).alloc _))
  have B3 : Hid (W.heap[w.heap.size + 1 + 1]? = some (.cells #[.string ⟨#[]⟩, .string ⟨#[]⟩, .int .i64 0, .slice none 0 0] 39)) := hide (by rw [hW]; exact (((Ext.refl _).alloc _).heap (by simp)).trans (at_newB _ _ _ (by simp)))
  have B4 : Hid (W.heap[w.heap.size + 1 + 1 + 1]? = some (.cells #[.string ⟨#[]⟩, .string ⟨#[]⟩, .int .i64 0, .slice none 0 0] 39)) := hide (by rw [hW]; exact at_newB _ _ _ (by simp))
  have HsW : Hid (W.heap.size = w.heap.size + 4) := hide (by rw [hW]; simp)
  clear hW
  obtain ⟨c0, c1, c2, c3⟩ := B2.out.cells
  obtain ⟨y0, y1, y2, y3, yf0, yf1, yf2, yf3⟩ := p0_cells B3.out
  obtain ⟨v0, v1, v2, v3, vf0, vf1, vf2, vf3⟩ := p0_cells B4.out
  have hlt0 : w.heap.size < W.heap.size := by rw [HsW.out]; omega
  have hlt1 : w.heap.size + 1 < W.heap.size := by rw [HsW.out]; omega
  have hlt2 : w.heap.size + 1 + 1 < W.heap.size := by rw [HsW.out]; omega
  have hlt3 : w.heap.size + 1 + 1 + 1 < W.heap.size := by rw [HsW.out]; omega
  have g1 : (p.kind == 1) = false := by rw [hk]; rfl
  have g2 : (p.kind == 2) = true := by rw [hk]; rfl
  have g3 : (p.kind == 3) = false := by rw [hk]; rfl
  have h2 : ¬ ((p.kids.length : Int) = 1) := by omega
  have h3 : ((p.kids.length : Int) == 1) = false := by simpa using h2
  clear hk
  unfold enV pfV
  go_enter Tryz.func26, Tryz.ntmps26
  go_upto_region 3 with fail
  rw [HW.out]
  clear HW
  go_wp2
  refine bodyPost_ret (v := .tuple #[.agg #[.string ⟨#[]⟩, .string ⟨#[]⟩, .int .i64 0, .slice none 0 0], .bool false]) ?_ rfl ⟨⟨⟨[], Ty.zero⟩, rfl, RvOk.no⟩, ?_⟩
  · simp [results, Tryz.f26, go_sem, y0, y1, y2, y3]
  · exact ext_set4 X0.out (by omega) _ _ _ _

set_option maxRecDepth 10000 in
set_option maxHeartbeats 8000000 in
theorem r_prove_n5 (x : EnD) (G : Option Addr) (gc : Nat) (given : List Pd) (p : Pf) (hk : p.kind = 2) (hks : p.kids.length = 1) (h : p.types.length ≠ 0) : RvC x G gc given 26 none p := by
  intro w he hg hp hsm
  obtain ⟨W, hW⟩ : ∃ W, W = (((w.alloc (.cells #[.slice x.D x.datas.length x.dc, .slice x.C x.classes.length x.cc, .slice x.I x.insts.length x.ic] 26)).alloc (.cells #[.int .i64 p.kind, .int .i64 p.n, .slice p.T p.types.length p.tc, .slice p.A p.kids.length p.cap] 31)).alloc (.cells #[.string ⟨#[]⟩, .string ⟨#[]⟩, .int .i64 0, .slice none 0 0] 39)).alloc (.cells #[.string ⟨#[]⟩, .string ⟨#[]⟩, .int .i64 0, .slice none 0 0] 39) := ⟨_, rfl⟩
  have HW := hide hW.symm
  have X0 : Hid (Ext w W) := hide (by rw [hW]; exact ((((Ext.refl _).alloc _).alloc _).alloc _).alloc _)
  have B1 : Hid (EnBox W w.heap.size x) := hide (by rw [hW]; exact (EnBox.new w x).ext ((((Ext.refl _).alloc _).alloc _).alloc _))
  have B2 : Hid (FBox W (w.heap.size + 1) p) := hide (by rw [hW]; exact FBox.ext (at_newB _ _ _ (by simp)) (((Ext.refl _).alloc _).alloc _))
  have B3 : Hid (W.heap[w.heap.size + 1 + 1]? = some (.cells #[.string ⟨#[]⟩, .string ⟨#[]⟩, .int .i64 0, .slice none 0 0] 39)) := hide (by rw [hW]; exact (((Ext.refl _).alloc _).heap (by simp)).trans (at_newB _ _ _ (by simp)))
  have B4 : Hid (W.heap[w.heap.size + 1 + 1 + 1]? = some (.cells #[.string ⟨#[]⟩, .string ⟨#[]⟩, .int .i64 0, .slice none 0 0] 39)) := hide (by rw [hW]; exact at_newB _ _ _ (by simp))
  have HsW : Hid (W.heap.size = w.heap.size + 4) := hide (by rw [hW]; simp)
  clear hW
  obtain ⟨c0, c1, c2, c3⟩ := B2.out.cells
  obtain ⟨y0, y1, y2, y3, yf0, yf1, yf2, yf3⟩ := p0_cells B3.out
  obtain ⟨v0, v1, v2, v3, vf0, vf1, vf2, vf3⟩ := p0_cells B4.out
  have hlt0 : w.heap.size < W.heap.size := by rw [HsW.out]; omega
  have hlt1 : w.heap.size + 1 < W.heap.size := by rw [HsW.out]; omega
  have hlt2 : w.heap.size + 1 + 1 < W.heap.size := by rw [HsW.out]; omega
  have hlt3 : w.heap.size + 1 + 1 + 1 < W.heap.size := by rw [HsW.out]; omega
  have g1 : (p.kind == 1) = false := by rw [hk]; rfl
  have g2 : (p.kind == 2) = true := by rw [hk]; rfl
  have g3 : (p.kind == 3) = false := by rw [hk]; rfl
  have h2 : ¬ ((p.types.length : Int) = 0) := by omega
  have h3 : ((p.types.length : Int) == 0) = false := by simpa using h2
  rw [hks] at c3 HW
  clear hk
  unfold enV pfV
  rw [hks]
  go_enter Tryz.func26, Tryz.ntmps26
  go_upto_region 3 with fail
  rw [HW.out]
  clear HW
  go_wp2
  refine bodyPost_ret (v := .tuple #[.agg #[.string ⟨#[]⟩, .string ⟨#[]⟩, .int .i64 0, .slice none 0 0], .bool false]) ?_ rfl ⟨⟨⟨[], Ty.zero⟩, rfl, RvOk.no⟩, ?_⟩
  · simp [results, Tryz.f26, go_sem, y0, y1, y2, y3]
  · exact ext_set4 X0.out (by omega) _ _ _ _

set_option maxRecDepth 10000 in
set_option maxHeartbeats 8000000 in
theorem r_prove_n6 (x : EnD) (G : Option Addr) (gc : Nat) (given : List Pd) (p : Pf) (hk1 : p.kind ≠ 1) (hk2 : p.kind ≠ 2) (hk3 : p.kind ≠ 3) : RvC x G gc given 26 none p := by
  intro w he hg hp hsm
  obtain ⟨W, hW⟩ : ∃ W, W = (((w.alloc (.cells #[.slice x.D x.datas.length x.dc, .slice x.C x.classes.length x.cc, .slice x.I x.insts.length x.ic] 26)).alloc (.cells #[.int .i64 p.kind, .int .i64 p.n, .slice p.T p.types.length p.tc, .slice p.A p.kids.length p.cap] 31)).alloc (.cells #[.string ⟨#[]⟩, .string ⟨#[]⟩, .int .i64 0, .slice none 0 0] 39)).alloc (.cells #[.string ⟨#[]⟩, .string ⟨#[]⟩, .int .i64 0, .slice none 0 0] 39) := ⟨_, rfl⟩
  have HW := hide hW.symm
  have X0 : Hid (Ext w W) := hide (by rw [hW]; exact ((((Ext.refl _).alloc _).alloc _).alloc _).alloc _)
  have B1 : Hid (EnBox W w.heap.size x) := hide (by rw [hW]; exact (EnBox.new w x).ext ((((Ext.refl _).alloc _).alloc _).alloc _))
  have B2 : Hid (FBox W (w.heap.size + 1) p) := hide (by rw [hW]; exact FBox.ext (at_newB _ _ _ (by simp)) (((Ext.refl _).alloc _).alloc _))
  have B3 : Hid (W.heap[w.heap.size + 1 + 1]? = some (.cells #[.string ⟨#[]⟩, .string ⟨#[]⟩, .int .i64 0, .slice none 0 0] 39)) := hide (by rw [hW]; exact (((Ext.refl _).alloc _).heap (by simp)).trans (at_newB _ _ _ (by simp)))
  have B4 : Hid (W.heap[w.heap.size + 1 + 1 + 1]? = some (.cells #[.string ⟨#[]⟩, .string ⟨#[]⟩, .int .i64 0, .slice none 0 0] 39)) := hide (by rw [hW]; exact at_newB _ _ _ (by simp))
  have HsW : Hid (W.heap.size = w.heap.size + 4) := hide (by rw [hW]; simp)
  clear hW
  obtain ⟨c0, c1, c2, c3⟩ := B2.out.cells
  obtain ⟨y0, y1, y2, y3, yf0, yf1, yf2, yf3⟩ := p0_cells B3.out
  obtain ⟨v0, v1, v2, v3, vf0, vf1, vf2, vf3⟩ := p0_cells B4.out
  have hlt0 : w.heap.size < W.heap.size := by rw [HsW.out]; omega
  have hlt1 : w.heap.size + 1 < W.heap.size := by rw [HsW.out]; omega
  have hlt2 : w.heap.size + 1 + 1 < W.heap.size := by rw [HsW.out]; omega
  have hlt3 : w.heap.size + 1 + 1 + 1 < W.heap.size := by rw [HsW.out]; omega
  have g1 : (p.kind == 1) = false := by simpa using hk1
  have g2 : (p.kind == 2) = false := by simpa using hk2
  have g3 : (p.kind == 3) = false := by simpa using hk3
  unfold enV pfV
  go_enter Tryz.func26, Tryz.ntmps26
  go_upto_region 3 with fail
  rw [HW.out]
  clear HW
  go_wp2
  refine bodyPost_ret (v := .tuple #[.agg #[.string ⟨#[]⟩, .string ⟨#[]⟩, .int .i64 0, .slice none 0 0], .bool false]) ?_ rfl ⟨⟨⟨[], Ty.zero⟩, rfl, RvOk.no⟩, ?_⟩
  · simp [results, Tryz.f26, go_sem, y0, y1, y2, y3]
  · exact ext_set4 X0.out (by omega) _ _ _ _

end Go.Proofs.YtpdcjjgkpbpleaaGreatDoor
