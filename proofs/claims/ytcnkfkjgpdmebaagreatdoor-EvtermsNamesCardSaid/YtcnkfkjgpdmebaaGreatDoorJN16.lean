/- Contract: what a proof by a class above is of. -/
import Derived.Test.YtcnkfkjgpdmebaaGreatDoorJN15
import Derived.Deep.RegionHeld3
/- Contract: what a proof by a class above is of. -/
namespace Go.Proofs.YtcnkfkjgpdmebaaGreatDoor
open Go.RowKit

theorem zp {a y : World} {B : Nat} (e : Ext a y) (h : a.heap[B]? = some (.cells #[.string ⟨#[]⟩, .string ⟨#[]⟩, .int .i64 0, .slice none 0 0] 55)) :
    y.cell? ⟨B, 0, none⟩ = some (.string ⟨#[]⟩) ∧ y.cell? ⟨B, 1, none⟩ = some (.string ⟨#[]⟩) ∧ y.cell? ⟨B, 2, none⟩ = some (.int .i64 0) ∧ y.cell? ⟨B, 3, none⟩ = some (.slice none 0 0) ∧ y.frozen? ⟨B, 0, none⟩ = false ∧ y.frozen? ⟨B, 1, none⟩ = false ∧ y.frozen? ⟨B, 2, none⟩ = false ∧ y.frozen? ⟨B, 3, none⟩ = false ∧ B < y.heap.size := by
  have hb := (e.heap (lt_of_obj h)).trans h
  obtain ⟨h0, h1, h2, h3, h4, h5, h6, h7⟩ := p0_cells hb
  exact ⟨h0, h1, h2, h3, h4, h5, h6, h7, lt_of_obj hb⟩
theorem at_newD (w : World) (o : Obj) : (w.alloc o).drew.heap[w.heap.size]? = some o := at_newB w o w.heap.size rfl
theorem cell4 {y : World} {B b i : Nat} (h : b ≠ B) (v0 v1 v2 v3 : Value) {u : Value} (k : y.cell? ⟨b, i, none⟩ = some u) : ((((y.setCell ⟨B, 0, none⟩ v0).setCell ⟨B, 1, none⟩ v1).setCell ⟨B, 2, none⟩ v2).setCell ⟨B, 3, none⟩ v3).cell? ⟨b, i, none⟩ = some u := by
  refine (World.cell?_of_block (a := ⟨b, i, none⟩) ?_).trans k
  show ((((y.setCell ⟨B, 0, none⟩ v0).setCell ⟨B, 1, none⟩ v1).setCell ⟨B, 2, none⟩ v2).setCell ⟨B, 3, none⟩ v3).heap[b]? = y.heap[b]?
  rw [Below.heap_setCell _ _ _ _ h, Below.heap_setCell _ _ _ _ h, Below.heap_setCell _ _ _ _ h, Below.heap_setCell _ _ _ _ h]
theorem zp2 {W a y : World} {B : Nat} (h1 : Ext W a) (e : Ext a y) (hB : W.heap.size ≤ B) (h : a.heap[B]? = some (.cells #[.string ⟨#[]⟩, .string ⟨#[]⟩, .int .i64 0, .slice none 0 0] 55)) (q : Pd) : Ext W (setPd y B q) ∧ PdBox (setPd y B q) B q :=
  ⟨ext_setPd (h1.trans e) hB q, setPd_box ((e.heap (lt_of_obj h)).trans h) q⟩

set_option maxRecDepth 10000 in
set_option maxHeartbeats 8000000 in
theorem p_above (x : EnD) (G : Option Addr) (gc : Nat) (given : List Pd) (p : Pf) (ih : ∀ k ∈ p.kids, PrvC x G gc given 79 (prv x.classes x.insts given k) k) :
    PrvC x G gc given 126 (aboveR x.classes p (p.kids.map (prv x.classes x.insts given))) p := by
  intro w he hg hp
  obtain ⟨W, hW⟩ : ∃ W, W = ((w.alloc (.cells #[.slice x.D x.datas.length x.dc, .slice x.C x.classes.length x.cc, .slice x.I x.insts.length x.ic] 26)).alloc (.cells #[.int .i64 p.kind, .int .i64 p.n, .slice p.T p.types.length p.tc, .slice p.A p.kids.length p.cap] 34)).alloc (.cells #[.string ⟨#[]⟩, .string ⟨#[]⟩, .int .i64 0, .slice none 0 0] 55) := ⟨_, rfl⟩
  have HW := hide hW.symm
  have X0 : Hid (Ext w W) := hide (by rw [hW]; exact (((Ext.refl _).alloc _).alloc _).alloc _)
  have B1 : Hid (EnBox W w.heap.size x) := hide (by rw [hW]; exact (EnBox.new w x).ext (((Ext.refl _).alloc _).alloc _))
  have B2 : Hid (FBox W (w.heap.size + 1) p) := hide (by rw [hW]; exact FBox.ext (at_newB _ _ _ (by simp)) ((Ext.refl _).alloc _))
  have B3 : Hid (W.heap[w.heap.size + 1 + 1]? = some (.cells #[.string ⟨#[]⟩, .string ⟨#[]⟩, .int .i64 0, .slice none 0 0] 55)) := hide (by rw [hW]; exact at_newB _ _ _ (by simp))
  have HsW : Hid (W.heap.size = w.heap.size + 3) := hide (by rw [hW]; simp)
  obtain ⟨c0, c1, c2, c3⟩ := B2.out.cells
  obtain ⟨e0, e1, e2⟩ := B1.out.cells
  obtain ⟨y0, y1, y2, y3, yf0, yf1, yf2, yf3⟩ := p0_cells B3.out
  clear hW
  unfold enV pfV
  by_cases hk : (p.kids.length : Int) = 1
  · by_cases ht : 0 < p.types.length
    · have HO : Hid (aboveR x.classes p (p.kids.map (prv x.classes x.insts given)) = none) := hide (by unfold aboveR; rw [if_neg (by omega)])
      generalize p.kids.length = kl at *
      obtain rfl : kl = 1 := by omega
      go_enter Tryz.func126, Tryz.ntmps126
      go_upto_region 1 with fail
      rw [HW.out]
      clear HW
      go_wp2
      refine bodyPost_ret (v := .tuple #[.agg #[.string ⟨#[]⟩, .string ⟨#[]⟩, .int .i64 0, .slice none 0 0], (.iface 142 (.agg #[.int .i64 1]))]) ?_ rfl ⟨⟨⟨[], Ty.zero⟩, _, rfl, by rw [HO.out]; rfl⟩, ?_⟩
      · simp [results, Tryz.f126, go_sem, y0, y1, y2, y3]
      · exact ext_set4 X0.out (by omega) _ _ _ _
    have hk1 : p.kids.length = 1 := by omega
    have ht0 : p.types.length = 0 := by omega
    have h0 : 0 < p.kids.length := by omega
    have HA : Hid (aboveR x.classes p (p.kids.map (prv x.classes x.insts given)) = (prv x.classes x.insts given (p.kids[0]'h0)).bind fun q => (clF x.classes q.cls).bind fun c => (atZ c.sups p.n).map fun s => (⟨s, q.ty⟩ : Pd)) := hide (by
      unfold aboveR
      rw [if_pos ⟨hk1, ht0⟩]
      have e : (p.kids.map (prv x.classes x.insts given)).getD 0 none = prv x.classes x.insts given (p.kids[0]'h0) := by simp [List.getD, h0]
      rw [e])
    have HK := hide (fun w' (e : Ext W w') => hide (ih _ (List.getElem_mem h0) w' (he.ext (X0.out.trans e)) (hg.ext (X0.out.trans e)) ((hp.all.kids _ (List.getElem_mem h0)).ext (X0.out.trans e))))
    obtain ⟨b, o, hA, hb, q0, q1, q2, q3⟩ := (hp.all.ext X0.out).at_ h0
    have Hcl := hide he
    have HCl := hide (fun (c : KlD) (hc : c ∈ x.classes) => (he.classes.all c hc))
    rw [hk1, hA] at c3
    rw [ht0] at c2
    rw [hk1, ht0, hA] at HW ⊢
    clear hk1 ht0 hA ih hk ht hp hg
    generalize aboveR x.classes p (p.kids.map (prv x.classes x.insts given)) = R at *
    simp only [Nat.zero_mul, Nat.add_zero] at q0 q1 q2 q3
    generalize p.kids[0]'h0 = kid at *
    have HSS := hide (fun w' (e : Ext W w') => And.intro (e.cell e0) (And.intro (e.cell e1) (And.intro (e.cell e2) (And.intro (e.cell c3) (And.intro (e.cell q0) (And.intro (e.cell q1) (And.intro (e.cell q2) (e.cell q3))))))))
    generalize prv x.classes x.insts given kid = O at *
    clear h0
    unfold enV pfV pdV at HK
    have hlt0 : w.heap.size < W.heap.size := by rw [HsW.out]; omega
    have hlt1 : w.heap.size + 1 < W.heap.size := by rw [HsW.out]; omega
    have hne0 : w.heap.size ≠ W.heap.size := by omega
    have hne1 : w.heap.size + 1 ≠ W.heap.size := by omega
    have hne2 : b ≠ W.heap.size := by omega
    go_enter Tryz.func126, Tryz.ntmps126
    go_upto_region 1 with fail
    rw [HW.out]
    clear HW
    go_upto_region 3 with fail
    go_cut [8, 9] (fun s8 s9 wx => ∃ (b8 : Nat) (q : Pd), s8 = .pointer (some ⟨b8, 0, none⟩) ∧ PrvOk O q s9 ∧ W.heap.size ≤ b8 ∧ Hid (Ext W wx) ∧ Hid (PdBox wx b8 q))
    case first =>
      go_region_held3 (fun w' => w'.cell? ⟨w.heap.size, 0, none⟩ = some (.slice x.D x.datas.length x.dc) ∧ w'.cell? ⟨w.heap.size, 1, none⟩ = some (.slice x.C x.classes.length x.cc) ∧ w'.cell? ⟨w.heap.size, 2, none⟩ = some (.slice x.I x.insts.length x.ic) ∧ w'.cell? ⟨w.heap.size + 1, 3, none⟩ = some (.slice (some ⟨b, o, none⟩) 1 p.cap) ∧ w'.cell? ⟨b, o, none⟩ = some (.int .i64 kid.kind) ∧ w'.cell? ⟨b, o + 1, none⟩ = some (.int .i64 kid.n) ∧ w'.cell? ⟨b, o + 2, none⟩ = some (.slice kid.T kid.types.length kid.tc) ∧ w'.cell? ⟨b, o + 3, none⟩ = some (.slice kid.A kid.kids.length kid.cap)) (first | with_reducible assumption | (obtain ⟨g1, g2, g3, g4, g5, g6, g7, g8⟩ := kS; with_reducible exact ⟨cell4 hne0 _ _ _ _ g1, cell4 hne0 _ _ _ _ g2, cell4 hne0 _ _ _ _ g3, cell4 hne1 _ _ _ _ g4, cell4 hne2 _ _ _ _ g5, cell4 hne2 _ _ _ _ g6, cell4 hne2 _ _ _ _ g7, cell4 hne2 _ _ _ _ g8⟩) | go_keep) (first
        | (go_at_call 79
           refine Calls.mono (HK.out _ ?e).out ?_
           (case e => exact (by repeat (first | exact Ext.refl _ | exact Ext.pre (by simp) | exact Ext.alloc (by assumption) _ | refine Ext.alloc ?_ _ |  refine Ext.more ?_ _ _ | refine Ext.drew ?_ | refine Ext.drewN ?_ _)))
           rintro e y ⟨⟨q, er, rfl, hok⟩, hxy⟩
           have kS := HSS.out y (by refine Ext.trans ?_ hxy; exact (by repeat (first | exact Ext.refl _ | exact Ext.pre (by simp) | exact Ext.alloc (by assumption) _ | refine Ext.alloc ?_ _ |  refine Ext.more ?_ _ _ | refine Ext.drew ?_ | refine Ext.drewN ?_ _)))
           (try (have zz := zp hxy (B := W.heap.size) (by with_reducible exact at_newD W _); obtain ⟨z0, z1, z2, z3, z4, z5, z6, z7, z8⟩ := zz))))
      all_goals (go_wp2_with fail; go_meet; first
        | exact ⟨y.heap.size, q, rfl, hok, Nat.le_trans (Nat.le_refl _) ((Ext.refl W).drew.trans hxy).size, hide (((Ext.refl W).drew.trans hxy).alloc _), hide (at_newB _ _ _ rfl)⟩
        | exact ⟨W.heap.size, q, rfl, hok, Nat.le_refl _, hide ((zp2 (((Ext.refl W).alloc _).drew) hxy (Nat.le_refl _) (at_newB W _ _ rfl) _).1), hide ((zp2 (((Ext.refl W).alloc _).drew) hxy (Nat.le_refl _) (at_newB W _ _ rfl) _).2)⟩)
    case rest =>
      obtain ⟨b8, q, rfl, hok, hb8, HX, HB8⟩ := hcut
      have X1 := hide (X0.out.trans HX.out)
      have B3 := hide ((HX.out.heap (lt_of_obj B3.out)).trans B3.out)
      have B1 := hide (B1.out.ext HX.out)
      have B2 := hide (B2.out.ext HX.out)
      have hbl := HB8.out.lt
      clear c0 c1 c2 c3 e0 e1 e2 y0 y1 y2 y3 yf0 yf1 yf2 yf3 q0 q1 q2 q3 HSS HK
      obtain ⟨a0, a1, a2, a3⟩ := HB8.out.cells
      have af0 := HB8.out.free 0
      obtain ⟨e0, e1, e2⟩ := B1.out.cells
      obtain ⟨y0, y1, y2, y3, yf0, yf1, yf2, yf3⟩ := p0_cells B3.out
      cases O with
      | none =>
        obtain rfl := hok.none
        have hR : R = none := HA.out
        clear hok HA
        subst hR
        go_wp2
        refine bodyPost_ret (v := .tuple #[.agg #[.string ⟨#[]⟩, .string ⟨#[]⟩, .int .i64 0, .slice none 0 0], (.iface 142 (.agg #[.int .i64 1]))]) ?_ rfl ⟨⟨⟨[], Ty.zero⟩, _, rfl, rfl⟩, ?_⟩
        · simp [results, Tryz.f126, go_sem, y0, y1, y2, y3]
        · exact ext_set4 X1.out (by omega) _ _ _ _
      | some a =>
        obtain ⟨rfl, rfl⟩ := hok.some
        clear hok
        rename Pd => a
        have HC := hide (pf_class x a.cls _ (Hcl.out.ext X1.out))
        have Hmem := hide (fun c (hc : clF x.classes a.cls = some c) => HCl.out c (clF_mem hc))
        have HR : Hid (R = (clF x.classes a.cls).bind fun c => (atZ c.sups p.n).map fun s => (⟨s, a.ty⟩ : Pd)) := hide HA.out
        clear HCl HA
        unfold enV at HC
        generalize clF x.classes a.cls = F at *
        obtain ⟨c0, c1, -, -⟩ := B2.out.cells
        cases F with
        | none =>
          have hR : R = none := HR.out
          clear HR
          subst hR
          go_wp2_with fail
          refine HC.out.mono ?_
          rintro e w4 ⟨rfl, hx4⟩
          have X4 := hide (X1.out.trans hx4)
          have B5 := hide ((hx4.heap (lt_of_obj B3.out)).trans B3.out)
          obtain ⟨z0, z1, z2, z3, zf0, zf1, zf2, zf3⟩ := p0_cells B5.out
          have hz5 := lt_of_obj B5.out
          clear hx4
          simp only [Option.getD_none, KlD.zero, Option.isSome_none]
          go_wp2
          refine bodyPost_ret (v := .tuple #[.agg #[.string ⟨#[]⟩, .string ⟨#[]⟩, .int .i64 0, .slice none 0 0], (.iface 142 (.agg #[.int .i64 1]))]) ?_ rfl ⟨⟨⟨[], Ty.zero⟩, _, rfl, rfl⟩, ?_⟩
          · simp [results, Tryz.f126, go_sem, z0, z1, z2, z3, hz5]
          · refine Ext.alloc ?_ _
            exact ext_set4 X4.out (by omega) _ _ _ _
        | some c =>
          have Hc := hide (Hmem.out c rfl)
          have HR2 : Hid (R = (atZ c.sups p.n).map fun s => (⟨s, a.ty⟩ : Pd)) := hide HR.out
          clear Hmem HR
          go_wp2_with fail
          refine HC.out.mono ?_
          rintro e w4 ⟨rfl, hx4⟩
          have X4 := hide (X1.out.trans hx4)
          have B5 := hide ((hx4.heap (lt_of_obj B3.out)).trans B3.out)
          obtain ⟨z0, z1, z2, z3, zf0, zf1, zf2, zf3⟩ := p0_cells B5.out
          have hz5 := lt_of_obj B5.out
          have B6 := hide (HB8.out.ext hx4)
          have hz6 := B6.out.lt
          obtain ⟨a0, a1, a2, a3⟩ := B6.out.cells
          have af0 := B6.out.free 0
          have B7 := hide (B2.out.ext hx4)
          have hz7 := B7.out.lt
          obtain ⟨d0, d1, -, -⟩ := B7.out.cells
          have Hc4 := hide (Hc.out.ext X4.out)
          clear hx4 c0 c1 e0 e1 e2 y0 y1 y2 y3 yf0 yf1 yf2 yf3
          simp only [Option.getD_some, Option.isSome_some]
          by_cases hn : p.n < 0
          · have hR : R = none := by rw [HR2.out, atZ_none (by omega)]; rfl
            clear HR2
            subst hR
            go_wp2
            refine bodyPost_ret (v := .tuple #[.agg #[.string ⟨#[]⟩, .string ⟨#[]⟩, .int .i64 0, .slice none 0 0], (.iface 142 (.agg #[.int .i64 1]))]) ?_ rfl ⟨⟨⟨[], Ty.zero⟩, _, rfl, rfl⟩, ?_⟩
            · simp [results, Tryz.f126, go_sem, z0, z1, z2, z3, hz5]
            · refine Ext.alloc ?_ _
              exact ext_set4 X4.out (by omega) _ _ _ _
          by_cases hn2 : p.n ≥ (c.sups.length : Int)
          · have hR : R = none := by rw [HR2.out, atZ_none (by omega)]; rfl
            clear HR2
            subst hR
            go_wp2
            refine bodyPost_ret (v := .tuple #[.agg #[.string ⟨#[]⟩, .string ⟨#[]⟩, .int .i64 0, .slice none 0 0], (.iface 142 (.agg #[.int .i64 1]))]) ?_ rfl ⟨⟨⟨[], Ty.zero⟩, _, rfl, rfl⟩, ?_⟩
            · simp [results, Tryz.f126, go_sem, z0, z1, z2, z3, hz5]
            · refine Ext.alloc ?_ _
              exact ext_set4 X4.out (by omega) _ _ _ _
          obtain ⟨m, hm⟩ : ∃ m : Nat, p.n = (m : Int) := ⟨p.n.toNat, by omega⟩
          have hml : m < c.sups.length := by omega
          have hm1 : (m : Int) < (c.sups.length : Int) := by omega
          have hm0 : (0 : Int) ≤ (m : Int) := by omega
          obtain ⟨s, hs⟩ : ∃ s, s = c.sups[m]'hml := ⟨_, rfl⟩
          have hR : R = some ⟨s, a.ty⟩ := by rw [HR2.out, hm, atZ_nat _ _ hml, hs]; rfl
          rw [hm] at d1
          clear HR2 hn hn2
          obtain ⟨b9, o9, eS, hb9, hs9⟩ := Strs.at_ Hc4.out.srow hml
          have eg : c.sups.getD m [] = s := by rw [hs]; simp [hml]
          rw [eg] at hs9
          subst hR
          simp only [klV]
          rw [eS]
          clear eS eg hm hs
          have hne3 : b8 ≠ w.heap.size + 1 + 1 := by have := HsW.out; omega
          have hne4 : w.heap.size + 1 + 1 ≠ b8 := by omega
          go_wp2
          refine bodyPost_ret (v := .tuple #[.agg #[encStr s, encStr a.ty.con, .int .i64 a.ty.var, .slice a.ty.A a.ty.args.length a.ty.cap], .nilIface]) ?_ rfl ⟨⟨⟨s, a.ty⟩, _, rfl, rfl, rfl⟩, ?_⟩
          · simp [results, Tryz.f126, go_sem, z0, z1, z2, z3, hz5]
          · refine Ext.alloc ?_ _
            exact ext_set4 (X4.out.setCell (by show _ ≤ b8; have := X0.out.size; omega) _) (by omega) _ _ _ _
  · have HO : Hid (aboveR x.classes p (p.kids.map (prv x.classes x.insts given)) = none) := hide (by unfold aboveR; rw [if_neg (by omega)])
    have hk2 : ((p.kids.length : Int) != 1) = true := by simpa using hk
    generalize p.kids.length = kl at *
    go_enter Tryz.func126, Tryz.ntmps126
    go_upto_region 1 with fail
    rw [HW.out]
    clear HW
    go_wp2
    refine bodyPost_ret (v := .tuple #[.agg #[.string ⟨#[]⟩, .string ⟨#[]⟩, .int .i64 0, .slice none 0 0], (.iface 142 (.agg #[.int .i64 1]))]) ?_ rfl ⟨⟨⟨[], Ty.zero⟩, _, rfl, by rw [HO.out]; rfl⟩, ?_⟩
    · simp [results, Tryz.f126, go_sem, y0, y1, y2, y3]
    · exact ext_set4 X0.out (by omega) _ _ _ _

end Go.Proofs.YtcnkfkjgpdmebaaGreatDoor
