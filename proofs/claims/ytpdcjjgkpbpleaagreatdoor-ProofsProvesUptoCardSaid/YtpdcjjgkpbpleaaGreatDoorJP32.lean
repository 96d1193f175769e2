/- Contract of the reference: what a proof by a class above is of. (A program of ours has printed this.) -/
import Derived.Test.YtpdcjjgkpbpleaaGreatDoorJP31
import Derived.BigQuiet
/- Contract of the reference: what a proof by a class above is of. (A program of ours has printed this.) -/
namespace Go.Proofs.YtpdcjjgkpbpleaaGreatDoor
open Go.RowKit

set_option maxRecDepth 10000 in
set_option maxHeartbeats 16000000 in
theorem r_prove_super (x : EnD) (G : Option Addr) (gc : Nat) (given : List Pd) (p : Pf) (hk : p.kind = 2) (hks : p.kids.length = 1) (hts : p.types.length = 0) (h0 : 0 < p.kids.length) (O0 : Option Pd) (hO0 : ∀ q, O0 = some q → legalT q.ty = true)
    (ih : RvC x G gc given 26 O0 (p.kids[0]'h0)) (A : Option Pd) (hin : ∀ w, EnIn w x → PdsIn w G given → PfIn w p → ∀ a, A = some a → PdIn w a) (hA : A = O0.bind fun q => (clF x.classes q.cls).bind fun c => (atZ c.sups p.n).map fun s => (⟨s, q.ty⟩ : Pd)) (O : Option Pd) (hO : O = A.filter pdB) : RvC x G gc given 26 O p := by
  intro w he hg hp hsm
  obtain ⟨W, hW⟩ : ∃ W, W = (((w.alloc (.cells #[.slice x.D x.datas.length x.dc, .slice x.C x.classes.length x.cc, .slice x.I x.insts.length x.ic] 26)).alloc (.cells #[.int .i64 p.kind, .int .i64 p.n, .slice p.T p.types.length p.tc, .slice p.A p.kids.length p.cap] 31)).alloc (.cells #[.string ⟨#[]⟩, .string ⟨#[]⟩, .int .i64 0, .slice none 0 0] 39)).alloc (.cells #[.string ⟨#[]⟩, .string ⟨#[]⟩, .int .i64 0, .slice none 0 0] 39) := ⟨_, rfl⟩
  have HW := hide hW.symm
  have X0 : Hid (Ext w W) := hide (by rw [hW]; exact ((((Ext.refl _).alloc _).alloc _).alloc _).alloc _)
  have B1 : Hid (EnBox W w.heap.size x) := hide (by rw [hW]; exact (EnBox.new w x).ext ((((Ext.refl _).alloc _).alloc _).alloc _))
  have B2 : Hid (FBox W (w.heap.size + 1) p) := hide (by rw [hW]; exact FBox.ext (at_newB _ _ _ (by simp)) (((Ext.refl _).alloc _).alloc _))
  have B3 : Hid (W.heap[w.heap.size + 1 + 1]? = some (.cells #[.string ⟨#[]⟩, .string ⟨#[]⟩, .int .i64 0, .slice none 0 0] 39)) := hide (by rw [hW]; exact (((Ext.refl _).alloc _).heap (by simp)).trans (at_newB _ _ _ (by simp)))
  have B4 : Hid (W.heap[w.heap.size + 1 + 1 + 1]? = some (.cells #[.string ⟨#[]⟩, .string ⟨#[]⟩, .int .i64 0, .slice none 0 0] 39)) := hide (by rw [hW]; exact at_newB _ _ _ (by simp))
  have HsW : Hid (W.heap.size = w.heap.size + 4) := hide (by rw [hW]; simp)
  clear hW
  obtain ⟨c0, c1, c2, c3⟩ := B2.out.cells
  obtain ⟨y0, y1, y2, y3, yf0, yf1, yf2, yf3⟩ := p0_cells B3.out
  obtain ⟨v0, v1, v2, v3, vf0, vf1, vf2, vf3⟩ := p0_cells B4.out
  have hlt0 : w.heap.size < W.heap.size := by rw [HsW.out]; omega
  have hlt1 : w.heap.size + 1 < W.heap.size := by rw [HsW.out]; omega
  have hlt2 : w.heap.size + 1 + 1 < W.heap.size := by rw [HsW.out]; omega
  have hlt3 : w.heap.size + 1 + 1 + 1 < W.heap.size := by rw [HsW.out]; omega
  have g1 : (p.kind == 1) = false := by rw [hk]; rfl
  have g2 : (p.kind == 2) = true := by rw [hk]; rfl
  have g3 : (p.kind == 3) = false := by rw [hk]; rfl
  obtain ⟨b, o, eA, hb, q0, q1, q2, q3⟩ := (hp.all.ext X0.out).at_ h0
  have hsk := (smallF_parts hsm).2 _ (List.getElem_mem h0)
  unfold RvC at ih
  have HK := hide (fun w' (e : Ext w w') => hide (ih w' (he.ext e) (hg.ext e) ((hp.all.kids _ (List.getElem_mem h0)).ext e) hsk))
  have HAi := hide (hin w he hg hp)
  have HAe := hide hA
  have HOe := hide hO
  have HO0 := hide hO0
  have HKl := hide (fun w' (e : Ext w w') => he.classes.ext e)
  have hcl := he.cle
  have hcm := he.cmax
  generalize p.kids[0]'h0 = kid at *
  unfold enV pfV at *
  simp only [Nat.zero_mul, Nat.add_zero] at q0 q1 q2 q3
  obtain ⟨e0, e1, e2⟩ := B1.out.cells
  clear hk ih hin hA hO hO0 he hg hp hsm hsk
  generalize p.kids.length = kl at *
  obtain rfl : kl = 1 := hks
  generalize p.types.length = tl at *
  obtain rfl : tl = 0 := hts
  rw [eA] at c3
  clear eA
  have hne0 : w.heap.size ≠ W.heap.size := by omega
  have hne1 : w.heap.size + 1 ≠ W.heap.size := by omega
  have hne4 : b ≠ W.heap.size := by omega
  have HSS := hide (fun w' (e : Ext W w') => And.intro (e.cell e0) (And.intro (e.cell e1) (And.intro (e.cell e2) (And.intro (e.cell c3) (And.intro (e.cell q0) (And.intro (e.cell q1) (And.intro (e.cell q2) (e.cell q3))))))))
  go_enter Tryz.func26, Tryz.ntmps26
  go_upto_region 3 with fail
  rw [HW.out]
  clear HW
  go_upto_region 6 with fail
  go_cut [9, 10] (fun s9 s10 wx => ∃ (b9 : Nat) (q : Pd), s9 = .pointer (some ⟨b9, 0, none⟩) ∧ s10 = .bool O0.isSome ∧ RvOk O0 q ∧ W.heap.size ≤ b9 ∧ Hid (Ext W wx) ∧ Hid (PdBox wx b9 q))
  case first =>
    go_region_held3 (fun w' => w'.cell? ⟨w.heap.size, 0, none⟩ = some (.slice x.D x.datas.length x.dc) ∧ w'.cell? ⟨w.heap.size, 1, none⟩ = some (.slice x.C x.classes.length x.cc) ∧ w'.cell? ⟨w.heap.size, 2, none⟩ = some (.slice x.I x.insts.length x.ic) ∧ w'.cell? ⟨w.heap.size + 1, 3, none⟩ = some (.slice (some ⟨b, o, none⟩) 1 p.cap) ∧ w'.cell? ⟨b, o, none⟩ = some (.int .i64 kid.kind) ∧ w'.cell? ⟨b, o + 1, none⟩ = some (.int .i64 kid.n) ∧ w'.cell? ⟨b, o + 2, none⟩ = some (.slice kid.T kid.types.length kid.tc) ∧ w'.cell? ⟨b, o + 3, none⟩ = some (.slice kid.A kid.kids.length kid.cap)) (first | with_reducible assumption | (obtain ⟨g1, g2, g3, g4, g5, g6, g7, g8⟩ := kS; with_reducible exact ⟨cell4 hne0 _ _ _ _ g1, cell4 hne0 _ _ _ _ g2, cell4 hne0 _ _ _ _ g3, cell4 hne1 _ _ _ _ g4, cell4 hne4 _ _ _ _ g5, cell4 hne4 _ _ _ _ g6, cell4 hne4 _ _ _ _ g7, cell4 hne4 _ _ _ _ g8⟩) | go_keep) (first
      | (go_at_call 26
         refine Calls.mono (HK.out _ (X0.out.trans (by repeat (first | exact Ext.refl _ | exact Ext.pre (by simp) | exact Ext.alloc (by assumption) _ | refine Ext.alloc ?_ _ |  refine Ext.more ?_ _ _ | refine Ext.drew ?_ | refine Ext.drewN ?_ _)))).out ?_
         rintro e z ⟨⟨q, rfl, hok⟩, hxy⟩
         have kS := HSS.out z (by refine Ext.trans ?_ hxy; exact (by repeat (first | exact Ext.refl _ | exact Ext.pre (by simp) | exact Ext.alloc (by assumption) _ | refine Ext.alloc ?_ _ |  refine Ext.more ?_ _ _ | refine Ext.drew ?_ | refine Ext.drewN ?_ _)))
         (try (have zz := zp hxy (B := W.heap.size) (by with_reducible exact at_newD W _); obtain ⟨z0, z1, z2, z3, z4, z5, z6, z7, z8⟩ := zz))))
    all_goals (go_wp2_with fail; go_meet; first
      | exact ⟨z.heap.size, q, rfl, rfl, hok, Nat.le_trans (Nat.le_refl _) ((Ext.refl W).drew.trans hxy).size, hide (((Ext.refl W).drew.trans hxy).alloc _), hide (at_newB _ _ _ rfl)⟩
      | exact ⟨W.heap.size, q, rfl, rfl, hok, Nat.le_refl _, hide ((zp2 (((Ext.refl W).alloc _).drew) hxy (Nat.le_refl _) (at_newB W _ _ rfl) _).1), hide ((zp2 (((Ext.refl W).alloc _).drew) hxy (Nat.le_refl _) (at_newB W _ _ rfl) _).2)⟩)
  case rest =>
    obtain ⟨b9, q, rfl, rfl, hok, hb9, HX, HB9⟩ := hcut
    have hx := HX.out
    have XR := hide (X0.out.trans hx)
    have B1 := hide (B1.out.ext hx)
    have B2 := hide (B2.out.ext hx)
    have B3 := hide ((hx.heap (lt_of_obj B3.out)).trans B3.out)
    have B4 := hide ((hx.heap (lt_of_obj B4.out)).trans B4.out)
    clear c0 c1 c2 c3 e0 e1 e2 y0 y1 y2 y3 yf0 yf1 yf2 yf3 v0 v1 v2 v3 vf0 vf1 vf2 vf3 q0 q1 q2 q3 HSS HK hx HX
    obtain ⟨e0, e1, e2⟩ := B1.out.cells
    have le0 := B1.out.lt
    obtain ⟨c0, c1, c2, c3⟩ := B2.out.cells
    have lc := B2.out.lt
    have hy3 := lt_of_obj B3.out
    have hy4 := lt_of_obj B4.out
    obtain ⟨y0, y1, y2, y3, yf0, yf1, yf2, yf3⟩ := p0_cells B3.out
    obtain ⟨v0, v1, v2, v3, vf0, vf1, vf2, vf3⟩ := p0_cells B4.out
    obtain ⟨d0, d1, d2, d3⟩ := HB9.out.cells
    have ld := HB9.out.lt
    have HAt := hide (r_atK x.C x.cc x.classes q.cls wc (HKl.out _ XR.out) (by omega))
    go_wp2_with fail
    refine HAt.out.mono ?_
    rintro e z ⟨⟨n, rfl, hn1, hn2⟩, rfl⟩
    cases O0 with
    | none =>
      have hA : A = none := HAe.out
      have hO : O = none := by rw [HOe.out, hA]; rfl
      clear HAe HOe HAi hok HO0 hn1 hn2 HAt
      subst hO
      simp only [Option.isSome_none]
      go_wp2
      go_quiet (fail)
      all_goals
        go_wp2
        refine bodyPost_ret (v := .tuple #[.agg #[.string ⟨#[]⟩, .string ⟨#[]⟩, .int .i64 0, .slice none 0 0], .bool false]) ?_ rfl ⟨⟨⟨[], Ty.zero⟩, rfl, RvOk.no⟩, ?_⟩
        · simp [results, Tryz.f26, go_sem, y0, y1, y2, y3]
        · first | exact (ext_set4 XR.out (by omega) _ _ _ _).drewN _ | exact ext_set4 XR.out (by omega) _ _ _ _ | exact ext_set4 (XR.out.drewN _) (by omega) _ _ _ _ | exact (ext_set4 XR.out (by omega) _ _ _ _).drew
    | some a =>
      obtain rfl := hok.eq a rfl
      clear hok
      simp only [Option.isSome_some]
      have hA1 : A = (clF x.classes q.cls).bind fun c => (atZ c.sups p.n).map fun s => (⟨s, q.ty⟩ : Pd) := HAe.out
      have Hlq := hide (HO0.out q rfl)
      clear HAe HO0 HAt
      cases hF : clF x.classes q.cls with
      | none =>
        obtain rfl := hn1 hF
        have hA : A = none := by rw [hA1, hF]; rfl
        have hO : O = none := by rw [HOe.out, hA]; rfl
        clear HOe HAi hn1 hn2 hA1 hF
        subst hO
        go_wp2
        go_quiet (fail)
        all_goals
          go_wp2
          refine bodyPost_ret (v := .tuple #[.agg #[.string ⟨#[]⟩, .string ⟨#[]⟩, .int .i64 0, .slice none 0 0], .bool false]) ?_ rfl ⟨⟨⟨[], Ty.zero⟩, rfl, RvOk.no⟩, ?_⟩
          · simp [results, Tryz.f26, go_sem, y0, y1, y2, y3]
          · first | exact (ext_set4 XR.out (by omega) _ _ _ _).drewN _ | exact ext_set4 XR.out (by omega) _ _ _ _ | exact ext_set4 (XR.out.drewN _) (by omega) _ _ _ _ | exact (ext_set4 XR.out (by omega) _ _ _ _).drew
      | some c =>
        obtain ⟨i, hi, rfl, hic⟩ := hn2 c hF
        have HKi := hide (HKl.out _ XR.out)
        obtain ⟨bc, oc, eC, hbc, r0, r1, r2⟩ := HKi.out.at_ hi
        have Hci := hide (HKi.out.all _ (List.getElem_mem hi))
        rw [hic] at r0 r1 r2 Hci
        have hi0 : ¬ ((i : Int) < 0) := by omega
        have hi1 : (i : Int) < (x.classes.length : Int) := by omega
        have hi2 : (0 : Int) ≤ (i : Int) := by omega
        rw [eC] at e1
        clear eC hn1 hn2 hic
        rw [hF] at hA1
        have hA2 : A = (atZ c.sups p.n).map fun s => (⟨s, q.ty⟩ : Pd) := hA1
        clear hA1 hF
        by_cases hn : p.n < 0
        · have hA : A = none := by rw [hA2, atZ_none (by omega)]; rfl
          have hO : O = none := by rw [HOe.out, hA]; rfl
          have cb : decide (p.n < (0 : Int)) = true := decide_eq_true hn
          clear HOe HAi hA2 r0 r1 r2 HKi Hci hi0 hi1 hi2 hbc hi
          have hi0 : decide ((i : Int) < 0) = false := decide_eq_false (by omega)
          generalize p.n = pn at *
          subst hO
          go_upto_region 8 with fail
          go_quiet (fail)
          all_goals
            go_wp2
            refine bodyPost_ret (v := .tuple #[.agg #[.string ⟨#[]⟩, .string ⟨#[]⟩, .int .i64 0, .slice none 0 0], .bool false]) ?_ rfl ⟨⟨⟨[], Ty.zero⟩, rfl, RvOk.no⟩, ?_⟩
            · simp [results, Tryz.f26, go_sem, y0, y1, y2, y3]
            · first | exact (ext_set4 XR.out (by omega) _ _ _ _).drewN _ | exact ext_set4 XR.out (by omega) _ _ _ _ | exact ext_set4 (XR.out.drewN _) (by omega) _ _ _ _ | exact (ext_set4 XR.out (by omega) _ _ _ _).drew
        by_cases hn2 : p.n ≥ (c.sups.length : Int)
        · have hA : A = none := by rw [hA2, atZ_none (by omega)]; rfl
          have hO : O = none := by rw [HOe.out, hA]; rfl
          clear HOe HAi hA2
          subst hO
          go_wp2
          go_quiet (fail)
          all_goals
            go_wp2
            refine bodyPost_ret (v := .tuple #[.agg #[.string ⟨#[]⟩, .string ⟨#[]⟩, .int .i64 0, .slice none 0 0], .bool false]) ?_ rfl ⟨⟨⟨[], Ty.zero⟩, rfl, RvOk.no⟩, ?_⟩
            · simp [results, Tryz.f26, go_sem, y0, y1, y2, y3]
            · first | exact (ext_set4 XR.out (by omega) _ _ _ _).drewN _ | exact ext_set4 XR.out (by omega) _ _ _ _ | exact ext_set4 (XR.out.drewN _) (by omega) _ _ _ _ | exact (ext_set4 XR.out (by omega) _ _ _ _).drew
        obtain ⟨m, hm⟩ : ∃ m : Nat, p.n = (m : Int) := ⟨p.n.toNat, by omega⟩
        have hml : m < c.sups.length := by omega
        have hm1 : (m : Int) < (c.sups.length : Int) := by omega
        have hm0 : (0 : Int) ≤ (m : Int) := by omega
        have hm2 : ¬ ((m : Int) < 0) := by omega
        have hm3 : ¬ ((m : Int) ≥ (c.sups.length : Int)) := by omega
        obtain ⟨s, hs⟩ : ∃ s, s = c.sups[m]'hml := ⟨_, rfl⟩
        have hA : A = some ⟨s, q.ty⟩ := by rw [hA2, hm, atZ_nat _ _ hml, hs]; rfl
        rw [hm] at c1
        obtain ⟨bs, os, eS, hbs, hs9⟩ := Strs.at_ Hci.out.srow hml
        have eg : c.sups.getD m [] = s := by rw [hs]; simp [hml]
        rw [eg] at hs9
        rw [eS] at r1
        have HAin0 := hide (HAi.out _ hA)
        have HOv0 : Hid (O = (some (⟨s, q.ty⟩ : Pd)).filter pdB) := hide (by rw [HOe.out, hA])
        have Hsz0 : Hid ((⟨s, q.ty⟩ : Pd).ty.size ≤ 900000) := hide (by have := (legal_parts Hlq.out).1; show q.ty.size ≤ 900000; omega)
        clear HOe HAi hA2 hA eS eg hm hs hn hn2
        go_wp2
        go_quiet (fail)
        all_goals
          go_upto_region 10 with fail
          go_region
          all_goals
            go_upto_region 16 with fail
            refine wp_name ?_
            intro Wc hWc
            have XWc : Hid (Ext w Wc) := hide (by rw [hWc]; first | exact (ext_set4 XR.out (by omega) _ _ _ _).drewN _ | exact ext_set4 (XR.out.drewN _) (by omega) _ _ _ _ | exact (ext_set4 XR.out (by omega) _ _ _ _).drew | exact ext_set4 XR.out (by omega) _ _ _ _ | exact (ext_set4 (XR.out.drewN _) (by omega) _ _ _ _).drew)
            have BA : Hid (PdBox Wc (w.heap.size + 1 + 1 + 1) ⟨s, q.ty⟩) := hide (by rw [hWc]; exact setPd_box B4.out ⟨s, q.ty⟩)
            have B3c : Hid (Wc.heap[w.heap.size + 1 + 1]? = some (.cells #[.string ⟨#[]⟩, .string ⟨#[]⟩, .int .i64 0, .slice none 0 0] 39)) := hide (by rw [hWc]; exact (setPd_other ⟨s, q.ty⟩ (by omega)).trans B3.out)
            clear hWc
            obtain ⟨a, ha⟩ : ∃ a, a = (⟨s, q.ty⟩ : Pd) := ⟨_, rfl⟩
            have Hsz1 : Hid (a.ty.size ≤ 900000) := hide (by rw [ha]; exact Hsz0.out)
            clear Hsz0
            have Hsz0 := Hsz1
            clear Hsz1
            rw [← ha] at BA HAin0 HOv0
            have HAin := HAin0
            have HOv := HOv0
            have Hsz := Hsz0
            clear ha HAin0 HOv0 Hsz0 hs9 r0 r1 r2
            clear e0 e1 e2 le0 c0 c1 c2 c3 lc hy3 hy4 y0 y1 y2 y3 yf0 yf1 yf2 yf3 v0 v1 v2 v3 vf0 vf1 vf2 vf3 d0 d1 d2 d3 ld
            have HC := hide (fun w' (e : Ext w w') => hide (r_legal20U a w' (HAin.out.ext e) Hsz.out))
            have HO2 : Hid (O.isSome = pdB a ∧ RvOk O a) := hide (by
              rw [HOv.out, Option.filter_some]
              cases hpb : pdB a
              · exact ⟨rfl, RvOk.no⟩
              · exact ⟨rfl, RvOk.yes a⟩)
            clear HOv
            generalize pdB a = ok at *
            have B3d : Hid (Wc.drew.heap[w.heap.size + 1 + 1]? = some (.cells #[.string ⟨#[]⟩, .string ⟨#[]⟩, .int .i64 0, .slice none 0 0] 39)) := hide B3c.out
            obtain ⟨a0, a1, a2, a3⟩ := BA.out.cells
            have la := BA.out.lt
            have hy6 := lt_of_obj B3c.out
            have hne : w.heap.size + 1 + 1 + 1 ≠ w.heap.size + 1 + 1 := by omega
            have hge6 : w.heap.size ≤ w.heap.size + 1 + 1 := by omega
            obtain ⟨y0, y1, y2, y3, yf0, yf1, yf2, yf3⟩ := p0_cells B3c.out
            have HSS := hide (fun w' (e : Ext Wc w') => And.intro (e.cell a0) (And.intro (e.cell a1) (And.intro (e.cell a2) (e.cell a3))))
            unfold pdV at *
            go_wp2
            go_region_held3 (fun w' => w'.cell? ⟨w.heap.size + 1 + 1 + 1, 0, none⟩ = some (encStr a.cls) ∧ w'.cell? ⟨w.heap.size + 1 + 1 + 1, 1, none⟩ = some (encStr a.ty.con) ∧ w'.cell? ⟨w.heap.size + 1 + 1 + 1, 2, none⟩ = some (.int .i64 a.ty.var) ∧ w'.cell? ⟨w.heap.size + 1 + 1 + 1, 3, none⟩ = some (.slice a.ty.A a.ty.args.length a.ty.cap)) (first | with_reducible assumption | (with_reducible exact ⟨cell4 hne _ _ _ _ a0, cell4 hne _ _ _ _ a1, cell4 hne _ _ _ _ a2, cell4 hne _ _ _ _ a3⟩) | go_keep) (first
              | (go_at_call 51
                 refine Calls.mono (HC.out _ (by first | exact XWc.out.drew | exact (ext_set4 XWc.out hge6 _ _ _ _).drew | exact XWc.out | exact ext_set4 XWc.out hge6 _ _ _ _)).out ?_
                 rintro e z ⟨rfl, hxz⟩
                 (try (have kS := HSS.out z (by refine Ext.trans ?_ hxz; with_reducible exact (Ext.refl Wc).drew)))
                 (try (have zz := zp hxz (B := w.heap.size + 1 + 1) (by with_reducible exact B3d.out); obtain ⟨z0, z1, z2, z3, z4, z5, z6, z7, z8⟩ := zz))))
            all_goals first
              | (have BB := (setPd_box B3c.out a).ext (Ext.trans ((Ext.refl (setPd Wc (w.heap.size + 1 + 1) a)).drew) hxz)
                 obtain ⟨r0, r1, r2, r3⟩ := BB.cells
                 go_wp2
                 refine bodyPost_ret (v := .tuple #[.agg #[encStr a.cls, encStr a.ty.con, .int .i64 a.ty.var, .slice a.ty.A a.ty.args.length a.ty.cap], .bool ok]) ?_ rfl ⟨⟨a, by first | (rw [HO2.out.1]; done) | (rw [HO2.out.1]; rfl), HO2.out.2⟩, ?_⟩
                 · simp [results, Tryz.f26, go_sem, r0, r1, r2, r3]
                 · exact Ext.trans (ext_set4 XWc.out hge6 _ _ _ _).drew hxz)
              | (go_wp2
                 refine bodyPost_ret (v := .tuple #[.agg #[encStr a.cls, encStr a.ty.con, .int .i64 a.ty.var, .slice a.ty.A a.ty.args.length a.ty.cap], .bool ok]) ?_ rfl ⟨⟨a, by first | (rw [HO2.out.1]; done) | (rw [HO2.out.1]; rfl), HO2.out.2⟩, ?_⟩
                 · simp [results, Tryz.f26, go_sem, z0, z1, z2, z3]
                 · exact ext_set4 (Ext.trans XWc.out.drew hxz) hge6 _ _ _ _)

end Go.Proofs.YtpdcjjgkpbpleaaGreatDoor

/- Contracts of the reference: what any proof is of; the same, told with an error. -/
namespace Go.Proofs.YtpdcjjgkpbpleaaGreatDoor
open Go.RowKit

theorem r_prove24 (x : EnD) (G : Option Addr) (gc : Nat) (given : List Pd) (hpre : ∀ i ∈ x.insts, i.preds.length ≤ 40000) (hgs : ∀ d ∈ given, d.ty.size ≤ 900000) (p : Pf) : p.size ≤ 1000000 → wideF p = true → RvC x G gc given 26 (prv x.classes x.insts given p) p := by
  induction p using Pf.ind with
  | h p ih =>
  intro hsz hw
  obtain ⟨hw1, hw2, hw3⟩ := wideF_parts hw
  have hkl := Pf.kids_len p
  have IH : ∀ k ∈ p.kids, RvC x G gc given 26 (prv x.classes x.insts given k) k := fun k hk => ih k hk (by have := Pf.size_kid hk; omega) (hw3 k hk)
  rw [prv_eq]
  unfold prv0
  by_cases h1 : p.kind = 1
  · rw [if_pos h1]
    unfold givenR
    by_cases hk : p.kids.length = 0 ∧ p.types.length = 0
    · rw [if_pos hk]
      by_cases hn : p.n < 0
      · rw [atZ_none (by omega)]
        exact r_prove_n2 x G gc given p h1 hk.1 hk.2 hn
      by_cases hn2 : p.n < (given.length : Int)
      · obtain ⟨m, hm⟩ : ∃ m : Nat, p.n = (m : Int) := ⟨p.n.toNat, by omega⟩
        have hml : m < given.length := by omega
        refine r_prove_given x G gc given p h1 hk.1 hk.2 m hm hml hgs _ ?_
        rw [hm, atZ_nat _ _ hml]
      · rw [atZ_none (by omega)]
        exact r_prove_n3 x G gc given p h1 hk.1 hk.2 (by omega) hn2
    · rw [if_neg hk]
      exact r_prove_n1 x G gc given p h1 (by omega) (by omega) (by omega)
  rw [if_neg h1]
  by_cases h2 : p.kind = 2
  · rw [if_pos h2]
    by_cases hk : p.kids.length = 1
    · by_cases ht : p.types.length = 0
      · have h0 : 0 < p.kids.length := by omega
        have e : (p.kids.map (prv x.classes x.insts given)).getD 0 none = prv x.classes x.insts given (p.kids[0]'h0) := by simp [List.getD, h0]
        refine r_prove_super x G gc given p h2 hk ht h0 (prv x.classes x.insts given (p.kids[0]'h0)) (fun q hq => by have h := prv_legal hq; unfold pdB at h; rw [Bool.and_eq_true] at h; exact h.2) (IH _ (List.getElem_mem h0)) (aboveR x.classes p (p.kids.map (prv x.classes x.insts given))) (fun w he hg hp a ha => above_in he hg hp ha) ?_ _ rfl
        unfold aboveR
        rw [if_pos ⟨hk, ht⟩, e]
      · unfold aboveR
        rw [if_neg (fun h => ht h.2)]
        exact r_prove_n5 x G gc given p h2 hk ht
    · unfold aboveR
      rw [if_neg (fun h => hk h.1)]
      exact r_prove_n4 x G gc given p h2 hk
  rw [if_neg h2]
  by_cases h3 : p.kind = 3
  · rw [if_pos h3]
    exact r_prove_inst x G gc given p h3 (instR x.insts p (p.kids.map (prv x.classes x.insts given))) (fun w he hp a ha => ⟨inst_in he hp ha, inst_size ha⟩) (r_inst24 x G gc given p hpre IH) _ rfl
  rw [if_neg h3]
  exact r_prove_n6 x G gc given p h1 h2 h3

/-- What the reference's Proves tells. -/
structure PvR (O : Option Pd) (a : Pd) (n : Int) : Prop where
  yes : ∀ q, O = some q → n = 0 ∧ a = q
  no : O = none → n = 1 ∧ a = ⟨[], Ty.zero⟩

set_option maxRecDepth 10000 in
set_option maxHeartbeats 4000000 in
theorem r_proves24 (x : EnD) (G : Option Addr) (gc : Nat) (given : List Pd) (p : Pf) (O : Option Pd) (hC : RvC x G gc given 26 O p) (w : World) (he : EnIn w x) (hg : PdsIn w G given) (hp : PfIn w p) (hsm : smallF p = true) :
    Calls Tryz.prog 9 #[enV x, .slice G given.length gc, pfV p] w fun e w' => (∃ a n, e = .returned (.tuple #[pdV a, .int .i64 n]) ∧ PvR O a n) ∧ Ext w w' := by
  obtain ⟨W, hW⟩ : ∃ W, W = ((w.alloc (.cells #[.slice x.D x.datas.length x.dc, .slice x.C x.classes.length x.cc, .slice x.I x.insts.length x.ic] 26)).alloc (.cells #[.int .i64 p.kind, .int .i64 p.n, .slice p.T p.types.length p.tc, .slice p.A p.kids.length p.cap] 31)).alloc (.cells #[.string ⟨#[]⟩, .string ⟨#[]⟩, .int .i64 0, .slice none 0 0] 39) := ⟨_, rfl⟩
  have HW := hide hW.symm
  have X0 : Hid (Ext w W) := hide (by rw [hW]; exact (((Ext.refl _).alloc _).alloc _).alloc _)
  have B1 : Hid (EnBox W w.heap.size x) := hide (by rw [hW]; exact (EnBox.new w x).ext (((Ext.refl _).alloc _).alloc _))
  have B2 : Hid (FBox W (w.heap.size + 1) p) := hide (by rw [hW]; exact FBox.ext (at_newB _ _ _ (by simp)) ((Ext.refl _).alloc _))
  have B3 : Hid (W.heap[w.heap.size + 1 + 1]? = some (.cells #[.string ⟨#[]⟩, .string ⟨#[]⟩, .int .i64 0, .slice none 0 0] 39)) := hide (by rw [hW]; exact at_newB _ _ _ (by simp))
  have HsW : Hid (W.heap.size = w.heap.size + 3) := hide (by rw [hW]; simp)
  obtain ⟨c0, c1, c2, c3⟩ := B2.out.cells
  obtain ⟨e0, e1, e2⟩ := B1.out.cells
  have hlt0 : w.heap.size < W.heap.size := by rw [HsW.out]; omega
  have hlt1 : w.heap.size + 1 < W.heap.size := by rw [HsW.out]; omega
  have hlt2 : w.heap.size + 1 + 1 < W.heap.size := by rw [HsW.out]; omega
  have HC := hide (hC W (he.ext X0.out) (hg.ext X0.out) (hp.ext X0.out) hsm)
  unfold enV pfV at *
  clear hW he hg hp hsm hC
  go_enter Tryz.func9, Tryz.ntmps9
  go_upto_region 1 with fail
  rw [HW.out]
  clear HW
  go_wp2_with fail
  refine HC.out.mono ?_
  rintro e y ⟨⟨a, rfl, hok⟩, hx⟩
  have Y1 := hide hx
  have HO := hide hok
  clear hok hx HC c0 c1 c2 c3 e0 e1 e2 hlt0 hlt1 hlt2
  go_upto_region 2 with fail
  refine wp_named ?_
  intro W2 hW2
  have BU : Hid (PdBox W2 y.heap.size a) := hide (by rw [hW2]; exact PdBox.new y a)
  have Z1 : Hid (Ext y W2) := hide (by rw [hW2]; exact (Ext.refl _).alloc _)
  have X2 : Hid (Ext W W2) := hide (Y1.out.trans Z1.out)
  have D2 := hide ((X2.out.heap (lt_of_obj B3.out)).trans B3.out)
  clear hW2 Y1
  cases O with
  | none =>
    simp only [Option.isSome_none]
    have hy1 := lt_of_obj D2.out
    obtain ⟨y0, y1, y2, y3, yf0, yf1, yf2, yf3⟩ := p0_cells D2.out
    have XF := hide (ext_set4 (X0.out.trans X2.out) (b := w.heap.size + 1 + 1) (by omega))
    clear HO
    go_wp2
    refine bodyPost_ret (v := .tuple #[.agg #[.string ⟨#[]⟩, .string ⟨#[]⟩, .int .i64 0, .slice none 0 0], .int .i64 1]) ?_ rfl ⟨⟨⟨[], Ty.zero⟩, 1, rfl, ⟨(fun q h => by cases h), fun _ => ⟨rfl, rfl⟩⟩⟩, XF.out _ _ _ _⟩
    simp [results, Tryz.f9, go_sem, y0, y1, y2, y3]
  | some q =>
    obtain rfl := HO.out.eq q rfl
    clear HO
    simp only [Option.isSome_some]
    have hy1 := lt_of_obj D2.out
    obtain ⟨y0, y1, y2, y3, yf0, yf1, yf2, yf3⟩ := p0_cells D2.out
    obtain ⟨d0, d1, d2, d3⟩ := BU.out.cells
    have ld := BU.out.lt
    have XF := hide (ext_set4 (X0.out.trans X2.out) (b := w.heap.size + 1 + 1) (by omega))
    go_wp2
    refine bodyPost_ret (v := .tuple #[.agg #[encStr a.cls, encStr a.ty.con, .int .i64 a.ty.var, .slice a.ty.A a.ty.args.length a.ty.cap], .int .i64 0]) ?_ rfl ⟨⟨a, 0, rfl, ⟨(fun q h => ⟨rfl, Option.some.inj h⟩), (fun h => by cases h)⟩⟩, XF.out _ _ _ _⟩
    simp [results, Tryz.f9, go_sem, y0, y1, y2, y3]

end Go.Proofs.YtpdcjjgkpbpleaaGreatDoor

/- Contract: chapter 24's law of what a proof is of. -/
namespace Go.Proofs.YtpdcjjgkpbpleaaGreatDoor
open Go.RowKit

set_option maxRecDepth 10000 in
set_option maxHeartbeats 8000000 in
theorem l_proves24 (x : EnD) (G : Option Addr) (gc : Nat) (given : List Pd) (p : Pf) (w : World) (he : EnIn w x) (hg : PdsIn w G given) (hp : PfIn w p) (hwp : wideF p = true) (hsm : smallF p = true) (hgl : HGl w) :
    Calls Tryz.prog 3 #[enV x, .slice G given.length gc, pfV p] w fun e w' => e = .returned (.bool true) ∧ Ext w w' := by
  obtain ⟨W, hW⟩ : ∃ W, W = (w.alloc (.cells #[.slice x.D x.datas.length x.dc, .slice x.C x.classes.length x.cc, .slice x.I x.insts.length x.ic] 26)).alloc (.cells #[.int .i64 p.kind, .int .i64 p.n, .slice p.T p.types.length p.tc, .slice p.A p.kids.length p.cap] 31) := ⟨_, rfl⟩
  have HW := hide hW.symm
  have X0 : Hid (Ext w W) := hide (by rw [hW]; exact ((Ext.refl _).alloc _).alloc _)
  have B1 : Hid (EnBox W w.heap.size x) := hide (by rw [hW]; exact (EnBox.new w x).ext ((Ext.refl _).alloc _))
  have B2 : Hid (FBox W (w.heap.size + 1) p) := hide (by rw [hW]; exact at_newB _ _ _ (by simp))
  have HG := hide (fun w' (e : Ext W w') => hgl.ext (X0.out.trans e))
  have HFe := hide (fun w' (e : Ext W w') => hide (l_fewenv x w' (he.ext (X0.out.trans e))))
  have HFp := hide (fun w' (e : Ext W w') => hide (l_few20 G gc given w' (hg.ext (X0.out.trans e))))
  have HFf := hide (fun A c l' w' (h : PfsIn w' A l') (hle : l'.length ≤ 100000) => hide (l_few24 A c l' w' h hle))
  have HE := hide he
  have Hg := hide hg
  have Hp := hide hp
  have Hw := hide hwp
  have Hs := hide hsm
  have HP := hide (fun w' (e : Ext W w') => hide (p_proves x G gc given p w' (he.ext (X0.out.trans e)) (hg.ext (X0.out.trans e)) (hp.ext (X0.out.trans e)) (HG.out w' e)))
  have HIn := hide (prv_in he hg p hp)
  obtain ⟨O, hO⟩ : ∃ O, O = prv x.classes x.insts given p := ⟨_, rfl⟩
  have HOe := hide hO
  rw [← hO] at HP HIn
  clear hO hW he hg hp hwp hsm hgl
  unfold enV at HFe HP
  unfold pfV at HP
  unfold enV pfV
  go_enter Tryz.func3, Tryz.ntmps3
  go_upto_region 1 with fail
  rw [HW.out]
  clear HW
  obtain ⟨e0, e1, e2⟩ := B1.out.cells
  have le0 := B1.out.lt
  obtain ⟨p0, p1, p2, p3⟩ := B2.out.cells
  have lp0 := B2.out.lt
  go_wp2_with fail
  refine (HFe.out _ (Ext.refl W)).out.mono ?_
  rintro e v1 ⟨⟨r, rfl, hr⟩, hx⟩
  have X1 := hide hx
  clear e0 e1 e2 le0 p0 p1 p2 p3 lp0 hx
  rcases hr with rfl | ⟨rfl, hfe⟩
  · (go_wp2_with fail; refine (l_awake24 _ (HG.out _ X1.out)).mono ?_; rintro e v ⟨rfl, hz⟩; go_wp2; go_ret; exact ⟨rfl, X0.out.trans (Ext.trans X1.out hz)⟩)
  have HFE := hide hfe
  clear hfe
  go_wp2_with fail
  refine (HFp.out _ X1.out).out.mono ?_
  rintro e v2 ⟨⟨r, rfl, hr⟩, hx⟩
  have X2 := hide (X1.out.trans hx)
  clear hx X1
  rcases hr with rfl | ⟨rfl, -, hps⟩
  · (go_wp2_with fail; refine (l_awake24 _ (HG.out _ X2.out)).mono ?_; rintro e v ⟨rfl, hz⟩; go_wp2; go_ret; exact ⟨rfl, X0.out.trans (Ext.trans X2.out hz)⟩)
  have HPs : Hid (∀ d ∈ given, d.ty.size ≤ 900000) := hide (fun d hd => Nat.le_trans (Tree.mem_sum (fun d : Pd => d.ty.size) hd) (Nat.le_trans hps (by omega)))
  clear hps
  obtain ⟨p0, p1, p2, p3⟩ := (B2.out.ext X2.out).cells
  have lp0 := (B2.out.ext X2.out).lt
  go_wp2_with fail
  refine (HFf.out (some ⟨v2.heap.size, 0, none⟩) 1 [p] _ ⟨RowOf.block pfC [p] (at_newB _ _ _ rfl), all1 ((Hp.out.ext (X0.out.trans X2.out)).ext ((Ext.refl _).alloc _))⟩ (by simp)).out.mono ?_
  rintro e v3 ⟨⟨r, rfl, hr⟩, hx⟩
  have X3 := hide ((X2.out.alloc _).trans hx)
  clear hx X2 p0 p1 p2 p3 lp0
  rcases hr with rfl | ⟨rfl, hs1, -⟩
  · (go_wp2_with fail; refine (l_awake24 _ (HG.out _ X3.out)).mono ?_; rintro e v ⟨rfl, hz⟩; go_wp2; go_ret; exact ⟨rfl, X0.out.trans (Ext.trans X3.out hz)⟩)
  have Hz1 : Hid (p.size ≤ 3000) := hide (by simpa [psizes] using hs1)
  have HC0 := hide (r_prove24 x G gc given (fun i hi => by have := (HFE.out.pds i hi).1; omega) HPs.out p (by have := Hz1.out; omega) Hw.out)
  rw [← HOe.out] at HC0
  have HR := hide (fun w' (e : Ext W w') => hide (r_proves24 x G gc given p O HC0.out w' (HE.out.ext (X0.out.trans e)) (Hg.out.ext (X0.out.trans e)) (Hp.out.ext (X0.out.trans e)) Hs.out))
  unfold enV pfV at HR
  clear hs1 HFe HFp HFf HFE HPs Hz1 HC0 HE Hg Hp Hw Hs HOe
  obtain ⟨e0, e1, e2⟩ := (B1.out.ext X3.out).cells
  have le0 := (B1.out.ext X3.out).lt
  obtain ⟨p0, p1, p2, p3⟩ := (B2.out.ext X3.out).cells
  have lp0 := (B2.out.ext X3.out).lt
  go_wp2_with fail
  refine (HP.out _ X3.out).out.mono ?_
  rintro e v5 ⟨⟨u, n1, rfl, hu⟩, hx⟩
  have Y5 := hide hx
  have HU := hide hu
  clear hu hx HP e0 e1 e2 le0 p0 p1 p2 p3 lp0
  unfold pdV
  go_upto_region 4 with fail
  refine wp_named ?_
  intro W5 hW5
  have BU : Hid (PdBox W5 v5.heap.size u) := hide (by rw [hW5]; exact PdBox.new v5 u)
  have Z5 : Hid (Ext v5 W5) := hide (by rw [hW5]; exact (Ext.refl _).alloc _)
  have X5 : Hid (Ext W W5) := hide (X3.out.trans (Y5.out.trans Z5.out))
  clear hW5
  obtain ⟨e0, e1, e2⟩ := (B1.out.ext X5.out).cells
  have le0 := (B1.out.ext X5.out).lt
  obtain ⟨p0, p1, p2, p3⟩ := (B2.out.ext X5.out).cells
  have lp0 := (B2.out.ext X5.out).lt
  go_wp2_with fail
  refine (HR.out _ X5.out).out.mono ?_
  rintro e v6 ⟨⟨v, n2, rfl, hv⟩, hx⟩
  have Y6 := hide hx
  have HS : Hid (n1 = n2 ∧ PdIn v5 u ∧ PdIn v6 v ∧ PdEq u v) := hide (by
    cases O with
    | none =>
      obtain ⟨h1, h2⟩ := HU.out.no rfl
      obtain ⟨k1, k2⟩ := hv.no rfl
      subst h1 h2 k1 k2
      exact ⟨rfl, HU.out.inn, ⟨Nat.zero_le _, TyIn.zero _⟩, PdEq.refl _⟩
    | some a =>
      obtain ⟨h1, h2⟩ := HU.out.yes a rfl
      obtain ⟨k1, k2⟩ := hv.yes a rfl
      subst h1 k1 k2
      exact ⟨rfl, HU.out.inn, (HIn.out _ rfl).ext (X0.out.trans (X5.out.trans hx)), h2⟩)
  clear hv hx HR HU HIn e0 e1 e2 le0 p0 p1 p2 p3 lp0
  obtain ⟨hn, -⟩ := HS.out
  subst hn
  unfold pdV
  go_upto_region 5 with fail
  refine wp_named ?_
  intro W6 hW6
  have BV : Hid (PdBox W6 v6.heap.size v) := hide (by rw [hW6]; exact PdBox.new v6 v)
  have Z6 : Hid (Ext v6 W6) := hide (by rw [hW6]; exact (Ext.refl _).alloc _)
  have V6 : Hid (Ext W5 W6) := hide (Y6.out.trans Z6.out)
  have X6 : Hid (Ext W W6) := hide (X5.out.trans V6.out)
  have BU := hide (BU.out.ext V6.out)
  clear hW6
  have HSm := hide (r_same20F u v W6 (HS.out.2.1.ext (Z5.out.trans V6.out)).ty (HS.out.2.2.1.ext Z6.out).ty)
  have hse : (u.cls == v.cls && sameB u.ty v.ty) = true := by
    obtain ⟨h1, h2⟩ := HS.out.2.2.2
    rw [h1, (sameB_iff).2 h2]
    simp
  rw [hse] at HSm
  obtain ⟨u0, u1, u2, u3⟩ := BU.out.cells
  obtain ⟨c0, c1, c2, c3⟩ := BV.out.cells
  have lbu := BU.out.lt
  have lbv := BV.out.lt
  unfold pdV at HSm
  clear HS hse
  go_wp2_with fail
  refine HSm.out.mono ?_
  rintro e v7 ⟨rfl, hx⟩
  have X7 := hide (X6.out.trans hx)
  clear hx
  (go_wp2_with fail; refine (l_awake24 _ (HG.out _ X7.out)).mono ?_; rintro e v ⟨rfl, hz⟩; go_wp2; go_ret; exact ⟨rfl, X0.out.trans (Ext.trans X7.out hz)⟩)

end Go.Proofs.YtpdcjjgkpbpleaaGreatDoor
