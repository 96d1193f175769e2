/- Contract of the reference of chapter 33: a method's class, field, scheme. (A program of ours has printed this.) -/
import Derived.Test.YtnomibjbjplieaaGreatJC38
import Derived.RegionTactic
import Derived.Deep.DeepCutAuto
/- Contract of the reference of chapter 33: a method's class, field, scheme. (A program of ours has printed this.) -/
namespace Go.Proofs.YtnomibjbjplieaaGreat
open Go.RowKit

set_option maxRecDepth 10000 in
set_option maxHeartbeats 8000000 in
theorem r_method33 (x : EnD) (name : Str) (w : World) (h : EnIn w x) (hf : ∀ c ∈ x.classes, KlFew c) :
    Calls Tryz.prog 10 #[enV x, encStr name] w fun e w' => (∃ nm ix sc, e = .returned (.tuple #[encStr nm, .int .i64 ix, scV sc, .bool (methF name 0 x.classes).isSome]) ∧ MethOk w' x.classes (methF name 0 x.classes) nm ix sc) ∧ Ext w w' := by
  obtain ⟨D, dc, datas, C, cc, cls, I, ic, insts⟩ := x
  obtain ⟨W, hW⟩ : ∃ W, W = (w.alloc (.cells #[.slice D datas.length dc, .slice C cls.length cc, .slice I insts.length ic] 26)).alloc (.cells #[.int .i64 0, .slice none 0 0, .string ⟨#[]⟩, .int .i64 0, .slice none 0 0] 39) := ⟨_, rfl⟩
  have HW := hide hW.symm
  have X0 : Hid (Ext w W) := hide (by rw [hW]; exact ((Ext.refl _).alloc _).alloc _)
  have B1 : Hid (EnBox W w.heap.size ⟨D, dc, datas, C, cc, cls, I, ic, insts⟩) := hide (by rw [hW]; exact (EnBox.new w _).ext ((Ext.refl _).alloc _))
  have B2 : Hid (W.heap[w.heap.size + 1]? = some (.cells zeroSc 39 (0, 0))) := hide (by rw [hW]; exact at_newB _ _ _ (by simp))
  have HM := hide (r_meth28 C cc cls name W (h.classes.ext X0.out) h.cle h.cmax)
  have HK := hide (show KlsIn w C cls from h.classes)
  have hcle : cls.length ≤ cc := h.cle
  have hcmx : cc ≤ 9223372036854775807 := h.cmax
  have Hf : Hid (∀ c ∈ cls, KlFew c) := hide hf
  have HS := hide (fun i k (e : methF name 0 cls = some (i, k)) => methF_some e)
  have hbl := B1.out.lt
  have HE := hide (fun w' (e : Ext W w') => (B1.out.ext e).cells.2.1)
  have e0 := HE.out W (Ext.refl _)
  clear hW h hf
  simp only [] at *
  generalize methF name 0 cls = F at *
  unfold enV scV at *
  go_enter Tryz.func10, Tryz.ntmps10
  go_upto_region 1 with fail
  rw [HW.out]
  clear HW
  go_wp2_with fail
  refine HM.out.mono ?_
  rintro e w2 ⟨rfl, hx⟩
  have X2 := hide hx
  clear hx HM
  cases F with
  | none =>
    obtain ⟨z0, z1, z2, z3, z4, z5, z6, z7, z8, z9, z10⟩ := zsc X2.out B2.out
    simp only [fstN, sndN, Option.map_none, Option.getD_none, Option.isSome_none]
    go_wp2
    refine bodyPost_ret (v := .tuple #[.string ⟨#[]⟩, .int .i64 0, .agg #[.int .i64 0, .slice none 0 0, .string ⟨#[]⟩, .int .i64 0, .slice none 0 0], .bool false]) ?_ rfl ⟨⟨[], 0, Sc.zero, rfl, ⟨⟨Nat.le_refl _, Nat.zero_le _, ⟨RowOf.nil _ _ _, by simp [Sc.zero]⟩, TyIn.zero _⟩, fun _ => ⟨rfl, rfl, rfl⟩, fun _ _ h => by cases h⟩⟩, ?_⟩
    · simp [results, Tryz.f10, go_sem, z0, z1, z2, z3, z4]
    · exact (((((X0.out.trans X2.out).setCell (by simp) _).setCell (by simp) _).setCell (by simp) _).setCell (by simp) _).setCell (by simp) _
  | some ik =>
    obtain ⟨i, k⟩ := ik
    obtain ⟨-, hi, hk, -⟩ := HS.out i k rfl
    simp only [Nat.sub_zero] at hi hk
    simp only [fstN, sndN, Option.map_some, Option.getD_some, Option.isSome_some]
    have X02 := hide (X0.out.trans X2.out)
    obtain ⟨b, o, e1, hb, q0, q1, q2⟩ := (HK.out.ext X02.out).at_ hi
    subst e1
    have Hci : Hid (cls[i]? = some (cls[i]'hi)) := hide (List.getElem?_eq_getElem hi)
    have HKl := hide (HK.out.all _ (List.getElem_mem hi))
    obtain ⟨hf1, hf2, hf3⟩ := Hf.out _ (List.getElem_mem hi)
    clear HS Hf HK
    generalize cls[i]'hi = c at *
    have e2 := HE.out w2 X2.out
    have hbl2 : w.heap.size < w2.heap.size := by have := X2.out.size; omega
    have hi0 : (0 : Int) ≤ (i : Int) := by omega
    have hi1 : (i : Int) < (cls.length : Int) := by omega
    have hk0 : (0 : Int) ≤ (k : Int) := by omega
    have hk1 : (k : Int) < (c.meths.length : Int) := by omega
    go_upto_region 5 with fail
    obtain ⟨W4, hW4⟩ : ∃ W4, W4 = w2.alloc (.cells #[encStr c.name, .slice c.S c.sups.length c.sc, .slice c.A c.meths.length c.cap] 64) := ⟨_, rfl⟩
    have X24 : Hid (Ext w2 W4) := hide (by rw [hW4]; exact (Ext.refl _).alloc _)
    have HB4 : Hid (KlBox W4 w2.heap.size c) := hide (by rw [hW4]; exact at_newB _ _ _ rfl)
    rw [← hW4]
    clear hW4 q0 q1 q2 e0 e2
    have X4 := hide (X02.out.trans X24.out)
    have B4 := hide (((X2.out.trans X24.out).heap (lt_of_obj B2.out)).trans B2.out)
    have hlo4 : w.heap.size + 1 < W4.heap.size := lt_of_obj B4.out
    have hb6 := HB4.out.lt
    have hb6lo : w.heap.size + 1 < w2.heap.size := Nat.lt_of_lt_of_le (lt_of_obj B2.out) X2.out.size
    obtain ⟨bm, om, em, hbm, p0, p1, p2, p3, p4⟩ := HKl.out.row.at_ hk
    have p2 := X4.out.cell p2
    have p3 := X4.out.cell p3
    have p4 := X4.out.cell p4
    have Hmi : Hid (c.meths[k]? = some (c.meths[k]'hk)) := hide (List.getElem?_eq_getElem hk)
    have hmf := hf3 _ (List.getElem_mem hk)
    have HMt := hide (HKl.out.row.all _ (List.getElem_mem hk)).row
    have hle := HKl.out.le
    have hmx := HKl.out.max
    have hsle := HKl.out.sle
    have hsmx := HKl.out.smax
    have htxt := HKl.out.txt
    generalize c.meths[k]'hk = m at *
    have HSS := hide (fun w' (e : Ext W4 w') => And.intro (show w'.cell? ⟨w2.heap.size, 0, none⟩ = some (encStr c.name) ∧ w'.cell? ⟨w2.heap.size, 1, none⟩ = some (.slice c.S c.sups.length c.sc) ∧ w'.cell? ⟨w2.heap.size, 2, none⟩ = some (.slice (some ⟨bm, om, none⟩) c.meths.length c.cap) from by rw [← em]; exact (HB4.out.ext e).cells) (And.intro (e.cell p2) (And.intro (e.cell p3) (e.cell p4))))
    generalize w2.heap.size = b6 at *
    have HCl := hide (fun w' g (e : Ext W4 w') (hg : w'.heap[g]? = some (.cells #[encStr c.name, .string ⟨#[]⟩, .int .i64 0, .slice none 0 0] 69 (0, 0))) => hide (r_close21 m.ty (some ⟨g, 0, none⟩) 1 [⟨c.name, Ty.zero⟩] none 0 [] w' (HMt.out.ext (X4.out.trans e)) ⟨RowOf.block pdC [⟨c.name, Ty.zero⟩] hg, by simp only [List.mem_cons, List.not_mem_nil, or_false]; rintro p rfl; exact ⟨htxt, TyIn.zero _⟩⟩ (RowOf.nil _ _ _) (by simp) (by simp) (by simp) (by rw [psz_one]; omega)))
    have hS0 := HSS.out W4 (Ext.refl _)
    obtain ⟨⟨s0, s1, s2⟩, s3, s4, s5⟩ := hS0
    clear HKl p0 p1 p2 p3 p4
    clear em
    have hw : IntKind.i64.wrap ((c.sups.length : Int) + (k : Int)) = (c.sups.length : Int) + (k : Int) := by rw [IntKind.wrap_i64]; omega
    have hbm4 : bm < W4.heap.size := by omega
    have r3 : ¬ bm = w.heap.size + 1 := by omega
    have r4 : ¬ w.heap.size + 1 = bm := by omega
    have r1 : ¬ b6 = w.heap.size + 1 := by omega
    have r2 : ¬ w.heap.size + 1 = b6 := by omega
    unfold tyV scV at HCl
    have HS6 := hide (fun w' (e : Ext W4 w') => by
      obtain ⟨⟨g0, g1, g2⟩, g3, g4, g5⟩ := HSS.out w' e
      exact And.intro g0 (And.intro g1 (And.intro g2 (And.intro g3 (And.intro g4 g5)))))
    have hS6 := HS6.out W4.drew (Ext.refl _).drew
    go_wp2
    refine but_startN 21 22 #[false, false, false, false, false, false, false, false, false, false, false, false, false, false, false, false, false, false, false, false, false, false] (fun w' => w'.cell? ⟨b6, 0, none⟩ = some (encStr c.name) ∧ w'.cell? ⟨b6, 1, none⟩ = some (.slice c.S c.sups.length c.sc) ∧ w'.cell? ⟨b6, 2, none⟩ = some (.slice (some ⟨bm, om, none⟩) c.meths.length c.cap) ∧ w'.cell? ⟨bm, om + k * 5 + 2, none⟩ = some (.string ⟨m.ty.con.toArray⟩) ∧ w'.cell? ⟨bm, om + k * 5 + 3, none⟩ = some (.int .i64 m.ty.var) ∧ w'.cell? ⟨bm, om + k * 5 + 4, none⟩ = some (.slice m.ty.A m.ty.args.length m.ty.cap)) (by kernel_rfl) (by kernel_rfl) (by kernel_rfl) ?_
    (refine but_takeL (i := 0) (v := ?_) rfl (by kernel_rfl) (by kernel_rfl) (by kernel_rfl) (by kernel_rfl) (fun _ _ _ h => h) (Or.inl ⟨by kernel_rfl, ?_⟩) (by assumption) ?_; rotate_left 1; (focus (intro w hSw; (try dsimp only at hSw); (try obtain ⟨g1, g2, g3⟩ := hSw); (try obtain ⟨g1, g2⟩ := hSw); go_simp; try with_reducible rfl)); simp only [Act.put, List.setIfInBounds_toArray, List.set_cons_zero, List.set_cons_succ])
    (refine but_takeL (i := 1) (v := ?_) rfl (by kernel_rfl) (by kernel_rfl) (by kernel_rfl) (by kernel_rfl) (fun _ _ _ h => h) (Or.inl ⟨by kernel_rfl, ?_⟩) (by assumption) ?_; rotate_left 1; (focus (intro w hSw; (try dsimp only at hSw); (try obtain ⟨g1, g2, g3⟩ := hSw); (try obtain ⟨g1, g2⟩ := hSw); go_simp; try with_reducible rfl)); simp only [Act.put, List.setIfInBounds_toArray, List.set_cons_zero, List.set_cons_succ])
    (refine but_takeL (i := 2) (v := ?_) rfl (by kernel_rfl) (by kernel_rfl) (by kernel_rfl) (by kernel_rfl) (fun _ _ _ h => h) (Or.inl ⟨by kernel_rfl, ?_⟩) (by assumption) ?_; rotate_left 1; (focus (intro w hSw; (try dsimp only at hSw); (try obtain ⟨g1, g2, g3⟩ := hSw); (try obtain ⟨g1, g2⟩ := hSw); go_simp; try with_reducible rfl)); simp only [Act.put, List.setIfInBounds_toArray, List.set_cons_zero, List.set_cons_succ])
    (refine but_takeL (i := 3) (v := ?_) rfl (by kernel_rfl) (by kernel_rfl) (by kernel_rfl) (by kernel_rfl) (fun _ _ _ h => h) (Or.inl ⟨by kernel_rfl, ?_⟩) (by assumption) ?_; rotate_left 1; (focus (intro w hSw; (try dsimp only at hSw); (try obtain ⟨g1, g2, g3⟩ := hSw); (try obtain ⟨g1, g2⟩ := hSw); go_simp; try with_reducible rfl)); simp only [Act.put, List.setIfInBounds_toArray, List.set_cons_zero, List.set_cons_succ])
    (refine but_takeL (i := 4) (v := ?_) rfl (by kernel_rfl) (by kernel_rfl) (by kernel_rfl) (by kernel_rfl) (fun _ _ _ h => h) (Or.inl ⟨by kernel_rfl, ?_⟩) (by assumption) ?_; rotate_left 1; (focus (intro w hSw; (try dsimp only at hSw); (try obtain ⟨g1, g2, g3⟩ := hSw); (try obtain ⟨g1, g2⟩ := hSw); go_simp; try with_reducible rfl)); simp only [Act.put, List.setIfInBounds_toArray, List.set_cons_zero, List.set_cons_succ])
    (refine but_takeL (i := 5) (v := ?_) rfl (by kernel_rfl) (by kernel_rfl) (by kernel_rfl) (by kernel_rfl) (fun _ _ _ h => h) (Or.inl ⟨by kernel_rfl, ?_⟩) (by assumption) ?_; rotate_left 1; (focus (intro w hSw; (try dsimp only at hSw); (try obtain ⟨g1, g2, g3⟩ := hSw); (try obtain ⟨g1, g2⟩ := hSw); go_simp; try with_reducible rfl)); simp only [Act.put, List.setIfInBounds_toArray, List.set_cons_zero, List.set_cons_succ])
    (refine but_takeL (i := 6) (v := ?_) rfl (by kernel_rfl) (by kernel_rfl) (by kernel_rfl) (by kernel_rfl) (fun _ _ _ h => h) (Or.inl ⟨by kernel_rfl, ?_⟩) (by assumption) ?_; rotate_left 1; (focus (intro w hSw; (try dsimp only at hSw); (try obtain ⟨g1, g2, g3⟩ := hSw); (try obtain ⟨g1, g2⟩ := hSw); go_simp; try with_reducible rfl)); simp only [Act.put, List.setIfInBounds_toArray, List.set_cons_zero, List.set_cons_succ])
    (refine but_takeL (i := 7) (v := ?_) rfl (by kernel_rfl) (by kernel_rfl) (by kernel_rfl) (by kernel_rfl) (fun _ _ _ h => h) (Or.inl ⟨by kernel_rfl, ?_⟩) (by assumption) ?_; rotate_left 1; (focus (intro w hSw; (try dsimp only at hSw); (try obtain ⟨g1, g2, g3⟩ := hSw); (try obtain ⟨g1, g2⟩ := hSw); go_simp; try with_reducible rfl)); simp only [Act.put, List.setIfInBounds_toArray, List.set_cons_zero, List.set_cons_succ])
    (refine but_takeL (i := 8) (v := ?_) rfl (by kernel_rfl) (by kernel_rfl) (by kernel_rfl) (by kernel_rfl) (fun _ _ _ h => h) (Or.inl ⟨by kernel_rfl, ?_⟩) (by assumption) ?_; rotate_left 1; (focus (intro w hSw; (try dsimp only at hSw); (try obtain ⟨g1, g2, g3⟩ := hSw); (try obtain ⟨g1, g2⟩ := hSw); go_simp; try with_reducible rfl)); simp only [Act.put, List.setIfInBounds_toArray, List.set_cons_zero, List.set_cons_succ])
    (refine but_takeL (i := 9) (v := ?_) rfl (by kernel_rfl) (by kernel_rfl) (by kernel_rfl) (by kernel_rfl) (fun _ _ _ h => h) (Or.inl ⟨by kernel_rfl, ?_⟩) (by assumption) ?_; rotate_left 1; (focus (intro w hSw; (try dsimp only at hSw); (try obtain ⟨g1, g2, g3⟩ := hSw); (try obtain ⟨g1, g2⟩ := hSw); go_simp; try with_reducible rfl)); simp only [Act.put, List.setIfInBounds_toArray, List.set_cons_zero, List.set_cons_succ])
    (refine but_takeL (i := 10) (v := ?_) rfl (by kernel_rfl) (by kernel_rfl) (by kernel_rfl) (by kernel_rfl) (fun _ _ _ h => h) (Or.inl ⟨by kernel_rfl, ?_⟩) (by assumption) ?_; rotate_left 1; (focus (intro w hSw; (try dsimp only at hSw); (try obtain ⟨g1, g2, g3⟩ := hSw); (try obtain ⟨g1, g2⟩ := hSw); go_simp; try with_reducible rfl)); simp only [Act.put, List.setIfInBounds_toArray, List.set_cons_zero, List.set_cons_succ])
    (refine but_takeL (i := 11) (v := ?_) rfl (by kernel_rfl) (by kernel_rfl) (by kernel_rfl) (by kernel_rfl) (fun _ _ _ h => h) (Or.inl ⟨by kernel_rfl, ?_⟩) (by assumption) ?_; rotate_left 1; (focus (intro w hSw; (try dsimp only at hSw); (try obtain ⟨g1, g2, g3⟩ := hSw); (try obtain ⟨g1, g2⟩ := hSw); go_simp; try with_reducible rfl)); simp only [Act.put, List.setIfInBounds_toArray, List.set_cons_zero, List.set_cons_succ])
    (refine but_takeL (i := 12) (v := ?_) rfl (by kernel_rfl) (by kernel_rfl) (by kernel_rfl) (by kernel_rfl) (fun _ _ _ h => h) (Or.inl ⟨by kernel_rfl, ?_⟩) (by assumption) ?_; rotate_left 1; (focus (intro w hSw; (try dsimp only at hSw); (try obtain ⟨g1, g2, g3⟩ := hSw); (try obtain ⟨g1, g2⟩ := hSw); go_simp; try with_reducible rfl)); simp only [Act.put, List.setIfInBounds_toArray, List.set_cons_zero, List.set_cons_succ])
    (refine but_takeL (i := 13) (v := ?_) rfl (by kernel_rfl) (by kernel_rfl) (by kernel_rfl) (by kernel_rfl) (fun _ _ _ h => h) (Or.inl ⟨by kernel_rfl, ?_⟩) (by assumption) ?_; rotate_left 1; (focus (intro w hSw; (try dsimp only at hSw); (try obtain ⟨g1, g2, g3⟩ := hSw); (try obtain ⟨g1, g2⟩ := hSw); go_simp; try with_reducible rfl)); simp only [Act.put, List.setIfInBounds_toArray, List.set_cons_zero, List.set_cons_succ])
    (refine but_takeL (i := 14) (v := ?_) rfl (by kernel_rfl) (by kernel_rfl) (by kernel_rfl) (by kernel_rfl) (fun _ _ _ h => h) (Or.inl ⟨by kernel_rfl, ?_⟩) (by assumption) ?_; rotate_left 1; (focus (intro w hSw; (try dsimp only at hSw); (try obtain ⟨g1, g2, g3⟩ := hSw); (try obtain ⟨g1, g2⟩ := hSw); go_simp; try with_reducible rfl)); simp only [Act.put, List.setIfInBounds_toArray, List.set_cons_zero, List.set_cons_succ])
    (refine but_takeL (i := 15) (v := ?_) rfl (by kernel_rfl) (by kernel_rfl) (by kernel_rfl) (by kernel_rfl) (fun _ _ _ h => h) (Or.inl ⟨by kernel_rfl, ?_⟩) (by assumption) ?_; rotate_left 1; (focus (intro w hSw; (try dsimp only at hSw); (try obtain ⟨g1, g2, g3⟩ := hSw); (try obtain ⟨g1, g2⟩ := hSw); go_simp; try with_reducible rfl)); simp only [Act.put, List.setIfInBounds_toArray, List.set_cons_zero, List.set_cons_succ])
    refine but_step (i := 16) (by kernel_rfl) rfl (fun KK hK => ?_)
    go_simp
    have hS7 := HS6.out _ (((Ext.refl W4).drew).alloc (.cells #[encStr c.name, .string ⟨#[]⟩, .int .i64 0, .slice none 0 0] 69))
    refine hK.out _ _ (fun _ => hS7) ?_
    clear hK KK hS6
    simp only [List.setIfInBounds_toArray, List.set_cons_zero, List.set_cons_succ]
    refine but_step (i := 17) (by kernel_rfl) rfl (fun KK hK => ?_)
    go_simp
    refine Calls.mono (HCl.out _ _ (by repeat (first | exact Ext.refl _ | exact Ext.pre (by simp) | exact Ext.alloc (by assumption) _ | refine Ext.alloc ?_ _ |  refine Ext.more ?_ _ _ | refine Ext.drew ?_ | refine Ext.drewN ?_ _)) (at_newB W4.drew _ _ rfl)).out ?_
    rintro e y ⟨⟨sc, rfl, hsc, hcl, hso⟩, xy⟩
    have e1 : Ext W4 y := by (refine Ext.trans ?_ xy; exact (by repeat (first | exact Ext.refl _ | exact Ext.pre (by simp) | exact Ext.alloc (by assumption) _ | refine Ext.alloc ?_ _ |  refine Ext.more ?_ _ _ | refine Ext.drew ?_ | refine Ext.drewN ?_ _)))
    have hS8 := HS6.out y e1
    refine hK.out _ _ (fun _ => hS8) ?_
    clear hK KK hS7
    simp only [List.setIfInBounds_toArray, List.set_cons_zero, List.set_cons_succ]
    obtain ⟨z0, z1, z2, z3, z4, z5, z6, z7, z8, z9, z10⟩ := zsc e1 B4.out
    have hey := e1.size
    have HR := hide (sc_ret (w := w) (X4.out.trans e1) (B := w.heap.size + 1) (by omega) hsc (hso.ty _ (by simp; omega) (away_new HMt.out (by omega))) (fun d hd => hso.ps d hd _ (by simp; omega) (by simp only [List.mem_cons, List.not_mem_nil, or_false]; rintro p rfl; exact away_zero _)) (fun hne a ha e => by have := hso.row hne a ha; simp at this; omega))
    have HCls := hide hcl
    clear hsc hso hcl xy
    obtain ⟨WF, hWF⟩ : ∃ WF, WF = (((((y.setCell ⟨w.heap.size + 1, 0, none⟩ (.int .i64 sc.n)).setCell ⟨w.heap.size + 1, 1, none⟩ (.slice sc.A sc.preds.length sc.cap)).setCell ⟨w.heap.size + 1, 2, none⟩ (encStr sc.ty.con)).setCell ⟨w.heap.size + 1, 3, none⟩ (.int .i64 sc.ty.var)).setCell ⟨w.heap.size + 1, 4, none⟩ (.slice sc.ty.A sc.ty.args.length sc.ty.cap)) := ⟨_, rfl⟩
    have hb8 : WF.heap[w.heap.size + 1]? = some (.cells #[.int .i64 sc.n, .slice sc.A sc.preds.length sc.cap, encStr sc.ty.con, .int .i64 sc.ty.var, .slice sc.ty.A sc.ty.args.length sc.ty.cap] 39 (0, 0)) := by
      have := blk_setCell (blk_setCell (blk_setCell (blk_setCell (blk_setCell ((e1.heap (lt_of_obj B4.out)).trans B4.out) 0 (.int .i64 sc.n)) 1 (.slice sc.A sc.preds.length sc.cap)) 2 (encStr sc.ty.con)) 3 (.int .i64 sc.ty.var)) 4 (.slice sc.ty.A sc.ty.args.length sc.ty.cap)
      rw [hWF]
      simpa [zeroSc] using this
    rw [← hWF] at HR
    have m0 := bytes_block hb8 0
    have m1 := bytes_block hb8 1
    have m2 := bytes_block hb8 2
    have m3 := bytes_block hb8 3
    have m4 := bytes_block hb8 4
    simp only [List.getElem?_toArray, List.getElem?_cons_zero, List.getElem?_cons_succ] at m0 m1 m2 m3 m4
    (refine but_takeL (i := 18) (v := ?_) rfl (by kernel_rfl) (by kernel_rfl) (by kernel_rfl) (by kernel_rfl) (fun _ _ _ h => h) (Or.inl ⟨by kernel_rfl, ?_⟩) (by assumption) ?_; rotate_left 1; (focus (intro w hSw; (try dsimp only at hSw); (try obtain ⟨g1, g2, g3⟩ := hSw); (try obtain ⟨g1, g2⟩ := hSw); go_simp; try with_reducible rfl)); simp only [Act.put, List.setIfInBounds_toArray, List.set_cons_zero, List.set_cons_succ])
    (refine but_takeL (i := 19) (v := ?_) rfl (by kernel_rfl) (by kernel_rfl) (by kernel_rfl) (by kernel_rfl) (fun _ _ _ h => h) (Or.inl ⟨by kernel_rfl, ?_⟩) (by assumption) ?_; rotate_left 1; (focus (intro w hSw; (try dsimp only at hSw); (try obtain ⟨g1, g2, g3⟩ := hSw); (try obtain ⟨g1, g2⟩ := hSw); go_simp; try with_reducible rfl)); simp only [Act.put, List.setIfInBounds_toArray, List.set_cons_zero, List.set_cons_succ])
    refine but_step (i := 20) (by kernel_rfl) rfl (fun KK hK => ?_)
    go_simp
    rw [← hWF]
    have hg5 := grown5 y (w.heap.size + 1) (.int .i64 sc.n) (.slice sc.A sc.preds.length sc.cap) (encStr sc.ty.con) (.int .i64 sc.ty.var) (.slice sc.ty.A sc.ty.args.length sc.ty.cap)
    rw [← hWF] at hg5
    clear hWF
    have g1 := hg5.block b6 (by omega) (fun e => by injection e with e; exact r1 e)
    have g2 := hg5.block bm (by omega) (fun e => by injection e with e; exact r3 e)
    have hS9 := And.intro ((World.cell?_of_block g1).trans hS8.1) (And.intro ((World.cell?_of_block g1).trans hS8.2.1) (And.intro ((World.cell?_of_block g1).trans hS8.2.2.1) (And.intro ((World.cell?_of_block g2).trans hS8.2.2.2.1) (And.intro ((World.cell?_of_block g2).trans hS8.2.2.2.2.1) ((World.cell?_of_block g2).trans hS8.2.2.2.2.2)))))
    refine hK.out _ _ (fun _ => hS9) ?_
    clear hK KK
    try simp only [Act.put]
    refine but_step (i := 21) (by kernel_rfl) rfl (fun KK hK => ?_)
    go_simp
    refine hK.out _ _ (fun h => absurd rfl h) ?_
    clear hK KK
    try simp only [Act.put]
    refine but_done (by kernel_rfl) ?_ _
    go_wp2
    refine bodyPost_ret (v := .tuple #[encStr c.name, .int .i64 ((c.sups.length : Int) + (k : Int)), .agg #[.int .i64 sc.n, .slice sc.A sc.preds.length sc.cap, encStr sc.ty.con, .int .i64 sc.ty.var, .slice sc.ty.A sc.ty.args.length sc.ty.cap], .bool true]) ?_ rfl ⟨⟨c.name, (c.sups.length : Int) + (k : Int), sc, rfl, ⟨HR.out.1, (fun h => by cases h), fun i' k' h => by injection h with h; injection h with h1 h2; subst h1 h2; exact ⟨c, m, Hci.out, Hmi.out, rfl, by omega, HCls.out⟩⟩⟩, HR.out.2⟩
    simp [results, Tryz.f10, go_sem, m0, m1, m2, m3, m4]

end Go.Proofs.YtnomibjbjplieaaGreat

/- Contract of the reference of chapter 23: an instance's head. -/
namespace Go.Proofs.YtnomibjbjplieaaGreat
open Go.RowKit

set_option maxRecDepth 10000 in
set_option maxHeartbeats 2000000 in
theorem r_head23 (x : InD) (w : World) (h : InIn w x) (hn0 : 0 ≤ x.n) (hn1 : x.n ≤ 4096) :
    Calls Tryz.prog 39 #[inV x] w fun e w' => (∃ A cap, e = .returned (tyV (conV x.con A cap x.n.toNat)) ∧ TyIn w' (conV x.con A cap x.n.toNat) ∧ ∀ c, c < w.heap.size → awayB c (conV x.con A cap x.n.toNat) = true) ∧ Ext w w' := by
  obtain ⟨i1, hj, hy0, hy1, hy2⟩ := info_parts ty_info3
  obtain ⟨cls, con, n, A0, cap0, preds⟩ := x
  have hc : con.length ≤ 1000000000000000000 := h.ctxt
  simp only [] at hn0 hn1 ⊢
  obtain ⟨m, rfl⟩ : ∃ m : Nat, n = (m : Int) := ⟨n.toNat, by omega⟩
  have hmle : m ≤ 4096 := by omega
  have hle0 := h.le
  have hmx0 := h.max
  simp only [Int.toNat_natCast] at *
  clear h hn0 hn1
  obtain ⟨W1, hW1⟩ : ∃ W1, W1 = w.alloc (.cells #[encStr cls, encStr con, .int .i64 (m : Int), .slice A0 preds.length cap0] 71) := ⟨_, rfl⟩
  have X1 : Hid (Ext w W1) := hide (by rw [hW1]; exact (Ext.refl _).alloc _)
  have hs1 : W1.heap.size = w.heap.size + 1 := by rw [hW1]; simp
  have B1 : Hid (InBox W1 w.heap.size ⟨cls, con, (m : Int), A0, cap0, preds⟩) := hide (by rw [hW1]; exact InBox.new w ⟨cls, con, (m : Int), A0, cap0, preds⟩)
  obtain ⟨W2, hW2⟩ : ∃ W2, W2 = (W1.alloc (.cells #[.string ⟨#[]⟩, .int .i64 0, .slice none 0 0] 32)).alloc (.cells #[encStr con, .int .i64 0, .slice none 0 0] 32) := ⟨_, rfl⟩
  have X2 : Hid (Ext W1 W2) := hide (by rw [hW2]; exact ((Ext.refl _).alloc _).alloc _)
  have HOf : Hid (OfSt con 0 none W1 W2 W2 0 none 0) := hide ⟨X2.out, Nat.le_refl _, by rw [hW2]; simp, RowOf.nil _ _ _, by rw [hW2]; exact at_newB _ _ _ (by simp), by rw [hW2]; exact (((Ext.refl _).alloc _).heap (by simp)).trans (at_newB _ _ _ (by simp)), World.ownsRow_nil _ _ _ _, fun a ha => by cases ha⟩
  obtain ⟨b0, b1, b2, b3⟩ := B1.out.cells
  have hbl := B1.out.lt
  have HW1 := hide hW1.symm
  have HW2 := hide hW2.symm
  have Hs1 := hide hs1
  have e1 : w.heap.size + 1 = W1.heap.size := hs1.symm
  clear hW1 hW2 hs1
  unfold tyV conV inV
  simp only [Ty.con, Ty.var, Ty.A, Ty.cap, Ty.args, conVars_len]
  go_enter Tryz.func39, Tryz.ntmps39
  go_upto_region 2 with fail
  rw [HW1.out, HW2.out]
  clear HW1 HW2 e1 b0 b1 b2 b3
  go_wp2
  go_loopw [4] (fun i wr => ∃ (k : Nat) (A : Option Addr) (c : Nat), k ≤ m ∧ i = .int .i64 k ∧ Hid (OfSt con 0 none W1 W2 wr k A c)) (fun i _ => m - (intOf i).toNat)
  case atStart => exact ⟨0, none, 0, Nat.zero_le _, rfl, HOf⟩
  case round =>
    obtain ⟨k, A, c, hk, rfl, HO⟩ := hrel
    obtain ⟨b0, b1, b2, b3⟩ := (B1.out.ext HO.out.x).cells
    have hbr := (B1.out.ext HO.out.x).lt
    have c0 := bytes_block HO.out.box 0
    have c1 := bytes_block HO.out.box 1
    have c2 := bytes_block HO.out.box 2
    have f2 := free_block HO.out.box 2
    simp only [List.getElem?_toArray, List.getElem?_cons_zero, List.getElem?_cons_succ] at c0 c1 c2
    have hbl := lt_of_obj HO.out.box
    by_cases hlt : k < m
    · have hlt' : (k : Int) < (m : Int) := by omega
      have hk0 : (0 : Int) ≤ (k : Int) := by omega
      have Hvs := hide (conVars_succ k)
      have hS0 : (wr.drew).cell? ⟨W1.heap.size + 1, 2, none⟩ = some (.slice A k c) := c2
      clear c0 c1
      go_wp2
      refine but_startN 7 8 #[false, false, false, false, false, false, false, false] (fun w' => w'.cell? ⟨W1.heap.size + 1, 2, none⟩ = some (.slice A k c)) (by kernel_rfl) (by kernel_rfl) (by kernel_rfl) ?_
      (refine but_takeL (i := 0) (v := ?_) rfl (by kernel_rfl) (by kernel_rfl) (by kernel_rfl) (by kernel_rfl) (fun _ _ _ h => h) (Or.inl ⟨by kernel_rfl, ?_⟩) (by assumption) ?_; rotate_left 1; (focus (intro w hSw; (try dsimp only at hSw); (try obtain ⟨g1, g2, g3⟩ := hSw); (try obtain ⟨g1, g2⟩ := hSw); go_simp; try with_reducible rfl)); simp only [Act.put, List.setIfInBounds_toArray, List.set_cons_zero, List.set_cons_succ])
      (refine but_takeL (i := 1) (v := ?_) rfl (by kernel_rfl) (by kernel_rfl) (by kernel_rfl) (by kernel_rfl) (fun _ _ _ h => h) (Or.inl ⟨by kernel_rfl, ?_⟩) (by assumption) ?_; rotate_left 1; (focus (intro w hSw; (try dsimp only at hSw); (try obtain ⟨g1, g2, g3⟩ := hSw); (try obtain ⟨g1, g2⟩ := hSw); go_simp; try with_reducible rfl)); simp only [Act.put, List.setIfInBounds_toArray, List.set_cons_zero, List.set_cons_succ])
      (refine but_takeL (i := 2) (v := ?_) rfl (by kernel_rfl) (by kernel_rfl) (by kernel_rfl) (by kernel_rfl) (fun _ _ _ h => h) (Or.inl ⟨by kernel_rfl, ?_⟩) (by assumption) ?_; rotate_left 1; (focus (intro w hSw; (try dsimp only at hSw); (try obtain ⟨g1, g2, g3⟩ := hSw); (try obtain ⟨g1, g2⟩ := hSw); go_simp; try with_reducible rfl)); simp only [Act.put, List.setIfInBounds_toArray, List.set_cons_zero, List.set_cons_succ])
      refine but_step (i := 3) (by kernel_rfl) rfl (fun KK hK => ?_)
      go_simp
      refine Calls.mono (r_V16 (k : Int) _) ?_
      rintro e w8 ⟨rfl, hx8⟩
      have X8 : Hid (Ext wr w8) := hide (((Ext.refl wr).drew).trans hx8)
      have hS8 : w8.cell? ⟨W1.heap.size + 1, 2, none⟩ = some (.slice A k c) := X8.out.cell c2
      clear hx8
      refine hK.out _ _ (fun _ => hS8) ?_
      clear hK KK
      simp only [List.setIfInBounds_toArray, List.set_cons_zero, List.set_cons_succ]
      refine but_step (i := 4) (by kernel_rfl) rfl (fun KK hK => ?_)
      go_simp
      refine hK.out _ _ (fun _ => ((Ext.refl w8).alloc _).cell hS8) ?_
      clear hK KK
      simp only [List.setIfInBounds_toArray, List.set_cons_zero, List.set_cons_succ]
      refine but_step (i := 5) (by kernel_rfl) rfl (fun KK hK => ?_)
      refine step_append_rowB _ rfl (.tmp 15) (.tmp 18) 30 rfl W2.heap.size 32 i1 _ 3 48 Tryz.underlying30 hj hy0 hy1 hy2 rfl (by decide) (.slice A k c) k ((conVars k).flatMap tyC.f) rfl (own_extB HO.out.own (X8.out.alloc _)) (some ⟨w8.heap.size, 0, none⟩) 1 1 [.string ⟨#[]⟩, .int .i64 (k : Int), .slice none 0 0] rfl (RowOf.block tyC [Ty.mk [] (k : Int) none 0 []] (at_newB _ _ _ rfl)) ?_ (by unfold maxLen; omega) (by omega) (by have := HO.out.sz; have := X8.out.size; simp; omega) ?_
      · intro y hy
        simp at hy
        rcases hy with rfl | rfl | rfl <;> rfl
      intro v4 w4 hown4 hg4 hat4
      have hown5 : w4.ownsRow W2.heap.size 32 3 v4 (k + 1) ((conVars (k + 1)).flatMap tyC.f) := by rw [Hvs.out, flat_snoc]; exact hown4
      obtain ⟨A4, c4, rfl, -, -, -, -⟩ := RowOf.own tyC (l := conVars (k + 1)) (by rw [conVars_len]; exact hown5)
      rw [conVars_len] at hown5 hown4 ⊢
      have HO4 := hide (HO.out.step (X8.out.alloc _) hg4 hown5)
      have hp9 : w4.heap[W1.heap.size + 1]? = some (.cells #[encStr con, .int .i64 0, .slice A k c] 32 (0, 0)) :=
        (hg4.block (W1.heap.size + 1) (by have := X8.out.size; simp; omega) (fun e => by have := (HO.out.own.lt _ e.symm).1; have := HO.out.lo; omega)).trans (((X8.out.alloc _).heap hbl).trans HO.out.box)
      have hS9 : w4.cell? ⟨W1.heap.size + 1, 2, none⟩ = some (.slice A k c) := bytes_block hp9 2
      have hf9 : w4.frozen? ⟨W1.heap.size + 1, 2, none⟩ = false := free_block hp9 2
      have hb4 : W1.heap.size + 1 < w4.heap.size := lt_of_obj hp9
      clear hown4 hg4 hat4 hown5 hp9
      refine hK.out _ _ (fun _ => hS9) ?_
      clear hK KK
      simp only [List.setIfInBounds_toArray, List.set_cons_zero, List.set_cons_succ]
      refine but_step (i := 6) (by kernel_rfl) rfl (fun KK hK => ?_)
      go_simp
      refine hK.out _ _ (fun _ => hS9) ?_
      clear hK KK
      simp only [List.setIfInBounds_toArray, List.set_cons_zero, List.set_cons_succ]
      refine but_step (i := 7) (by kernel_rfl) rfl (fun KK hK => ?_)
      go_simp
      refine hK.out _ _ (fun h => absurd rfl h) ?_
      clear hK KK
      simp only [List.setIfInBounds_toArray, List.set_cons_zero, List.set_cons_succ]
      refine but_done (by kernel_rfl) ?_ _
      clear hS0 hS8 hS9 hf9 c2
      go_wp2
      go_roundw
      case rel => exact ⟨k + 1, A4, c4, hlt, by go_num, HO4⟩
      case measure => simp [intOf]; omega
    · have hge : ¬ (k : Int) < (m : Int) := by omega
      have hkm : k = m := by omega
      subst hkm
      have r0 := free_block HO.out.res 0
      have r1 := free_block HO.out.res 1
      have r2 := free_block HO.out.res 2
      have s0 := bytes_block HO.out.res 0
      have s1 := bytes_block HO.out.res 1
      have s2 := bytes_block HO.out.res 2
      simp only [List.getElem?_toArray, List.getElem?_cons_zero, List.getElem?_cons_succ] at s0 s1 s2
      have hrl := lt_of_obj HO.out.res
      have HEnd : Hid (TyIn (((wr.setCell ⟨W1.heap.size, 0, none⟩ (encStr con)).setCell ⟨W1.heap.size, 1, none⟩ (.int .i64 0)).setCell ⟨W1.heap.size, 2, none⟩ (.slice A k c)) (.mk con 0 A c (conVars k)) ∧ (∀ b, b < w.heap.size → awayB b (.mk con 0 A c (conVars k)) = true) ∧ Ext w (((wr.setCell ⟨W1.heap.size, 0, none⟩ (encStr con)).setCell ⟨W1.heap.size, 1, none⟩ (.int .i64 0)).setCell ⟨W1.heap.size, 2, none⟩ (.slice A k c))) := hide (by
        have hlo := HO.out.lo
        have ho := ownsRow_setCell_below (ownsRow_setCell_below (ownsRow_setCell_below HO.out.own (a := ⟨W1.heap.size, 0, none⟩) (by show W1.heap.size < _; omega) (encStr con)) (a := ⟨W1.heap.size, 1, none⟩) (by show W1.heap.size < _; omega) (.int .i64 0)) (a := ⟨W1.heap.size, 2, none⟩) (by show W1.heap.size < _; omega) (.slice A k c)
        obtain ⟨A6, c6, e6, h2, h3, h4, h5⟩ := RowOf.own tyC (l := conVars k) (by rw [conVars_len]; exact ho)
        injection e6 with a1 a2 a3
        subst a1 a3
        refine ⟨TyIn.of h2 h3 (by omega) h4 (conVars_in _ _), fun b hb => awayB_mk (fun hne a ha => ?_) (conVars_away b k), X1.out.trans (((HO.out.x.setCell (by simp) _).setCell (by simp) _).setCell (by simp) _)⟩
        obtain ⟨b', o', e', hb', -⟩ := h4.2 (by have := List.length_pos_iff.2 hne; exact this)
        have := (h5 b' o' e').1
        rw [ha] at e'
        injection e' with e'
        subst e'
        show b' ≠ b
        have := Hs1.out
        omega)
      go_wp2
      refine bodyPost_ret (v := .agg #[encStr con, .int .i64 0, .slice A k c]) ?_ rfl ⟨⟨A, c, rfl, HEnd.out.1, HEnd.out.2.1⟩, HEnd.out.2.2⟩
      simp [results, Tryz.f39, go_sem, s0, s1, s2]

end Go.Proofs.YtnomibjbjplieaaGreat

/- Contract of the reference of chapter 23: may an instance be? -/
namespace Go.Proofs.YtnomibjbjplieaaGreat
open Go.RowKit

theorem all_no {α : Type} {p : α → Bool} {l : List α} {k : Nat} (h : k < l.length) (hp : p (l[k]'h) = false) : l.all p = false := by
  rw [Bool.eq_false_iff]
  intro ha
  rw [List.all_eq_true] at ha
  have := ha _ (List.getElem_mem h)
  rw [hp] at this
  cases this

set_option maxRecDepth 10000 in
set_option maxHeartbeats 4000000 in
theorem r_check23 (x : InD) (w : World) (h : InIn w x) : Calls Tryz.prog 37 #[inV x] w fun e w' => e = .returned (.int .i64 (if instB x then 0 else 10)) ∧ Ext w w' := by
  obtain ⟨cls, con, n, A, cap, preds⟩ := x
  obtain ⟨W, hW⟩ : ∃ W, W = w.alloc (.cells #[encStr cls, encStr con, .int .i64 n, .slice A preds.length cap] 71) := ⟨_, rfl⟩
  have HW := hide hW.symm
  have X0 : Hid (Ext w W) := hide (by rw [hW]; exact (Ext.refl _).alloc _)
  have HB : Hid (InBox W w.heap.size ⟨cls, con, n, A, cap, preds⟩) := hide (by rw [hW]; exact InBox.new w ⟨cls, con, n, A, cap, preds⟩)
  obtain ⟨c0, c1, c2, c3⟩ := HB.out.cells
  have hbl := HB.out.lt
  have hcl : cls.length ≤ 1000000000000000000 := h.txt
  have hco : con.length ≤ 1000000000000000000 := h.ctxt
  have hle := h.le
  have hmx := h.max
  have HPs := hide (h.row.ext X0.out)
  have HN1 := hide (r_con03 cls W (by omega))
  have HN2 := hide (r_con03 con W (by omega))
  have HI : Hid (instB ⟨cls, con, n, A, cap, preds⟩ = (instHd ⟨cls, con, n, A, cap, preds⟩ && preds.all (headPlB n))) := hide rfl
  have HH : Hid (instHd ⟨cls, con, n, A, cap, preds⟩ = (conB cls && (conB con || (con == [45, 62] && n == 2)) && decide (0 ≤ n) && decide (n ≤ 100))) := hide rfl
  generalize instB ⟨cls, con, n, A, cap, preds⟩ = R at *
  generalize instHd ⟨cls, con, n, A, cap, preds⟩ = H at *
  simp only [] at *
  clear hW h
  unfold inV at *
  go_enter Tryz.func37, Tryz.ntmps37
  go_upto_region 1 with fail
  rw [HW.out]
  clear HW
  go_cut [34] (fun s34 wx => s34 = .bool (!H) ∧ W = wx)
  case first =>
    clear HI HPs
    go_wp2_with fail
    refine HN1.out.mono ?_
    rintro e w2 ⟨rfl, rfl⟩
    cases h1 : conB cls
    · have hH : H = false := by rw [HH.out]; simp [h1]
      clear HH
      subst hH
      go_wp2_with fail
      go_meet
      exact ⟨by first | rfl | (simp; done) | (simp; omega), rfl⟩
    · go_wp2_with fail
      refine HN2.out.mono ?_
      rintro e w3 ⟨rfl, rfl⟩
      have HD : Hid ((conB con || (con == [45, 62] && n == 2)) = true → H = (decide (0 ≤ n) && decide (n ≤ 100))) := hide (fun hd => by rw [HH.out, h1, hd]; simp)
      cases h2 : conB con
      · cases h3 : (con == ([45, 62] : Str))
        · have hH : H = false := by rw [HH.out]; simp [h1, h2, h3]
          clear HH
          subst hH
          go_wp2_with fail
          go_meet
          exact ⟨by first | rfl | (simp; done) | (simp; omega), rfl⟩
        · cases h4 : (n == 2)
          · have hH : H = false := by rw [HH.out]; simp [h1, h2, h4]
            clear HH
            subst hH
            go_wp2_with fail
            go_meet
            exact ⟨by first | rfl | (simp; done) | (simp; omega), rfl⟩
          · have hn : n = 2 := by simpa using h4
            have hH : H = true := by rw [HD.out (by rw [h2, h3, h4]; rfl), hn]; rfl
            have h5 : (0 : Int) ≤ n := by omega
            have h6 : n ≤ 100 := by omega
            clear HH HD hn
            subst hH
            go_wp2_with fail
            go_meet
            exact ⟨by first | rfl | (simp; done) | (simp; omega), rfl⟩
      · have hH := HD.out (by rw [h2]; rfl)
        clear HH HD
        by_cases h5 : n < 0
        · have hH2 : H = false := by rw [hH]; simp; omega
          clear hH
          subst hH2
          go_wp2_with fail
          go_meet
          exact ⟨by first | rfl | (simp; done) | (simp; omega), rfl⟩
        · have h5' : (0 : Int) ≤ n := by omega
          by_cases h6 : (100 : Int) < n
          · have hH2 : H = false := by rw [hH]; simp; omega
            clear hH
            subst hH2
            go_wp2_with fail
            go_meet
            exact ⟨by first | rfl | (simp; done) | (simp; omega), rfl⟩
          · have h6' : n ≤ 100 := by omega
            have hH2 : H = true := by rw [hH]; simp; omega
            clear hH
            subst hH2
            go_wp2_with fail
            go_meet
            exact ⟨by first | rfl | (simp; done) | (simp; omega), rfl⟩
  case rest =>
    obtain ⟨rfl, rfl⟩ := hcut
    clear HH HN1 HN2 c0 c1
    cases H
    · have hR : R = false := by rw [HI.out]; rfl
      clear HI
      subst hR
      go_wp2
      go_ret
      exact ⟨rfl, X0.out⟩
    · have HI2 : Hid (R = preds.all (headPlB n)) := hide (by rw [HI.out]; rfl)
      clear HI c2 c3 hbl
      simp only [Bool.not_true]
      go_wp2
      go_loopw [3] (fun i wr => ∃ k : Nat, k ≤ preds.length ∧ i = .int .i64 k ∧ Hid (Ext W wr) ∧ Hid (∀ j (h : j < preds.length), j < k → headPlB n (preds[j]'h) = true)) (fun i _ => preds.length - (intOf i).toNat)
      case atStart => exact ⟨0, Nat.zero_le _, rfl, hide (Ext.refl _), hide (fun j _ hj => absurd hj (by omega))⟩
      case round =>
        obtain ⟨k, hk, rfl, HX, HJ⟩ := hrel
        have XR := hide (X0.out.trans HX.out)
        obtain ⟨-, -, c2, c3⟩ := (HB.out.ext HX.out).cells
        have hbl := (HB.out.ext HX.out).lt
        simp only [] at c2 c3
        by_cases hlt : k < preds.length
        · have hlt' : (k : Int) < (preds.length : Int) := by omega
          have hk0 : (0 : Int) ≤ (k : Int) := by omega
          obtain ⟨b, o, rfl, hb, q0, q1, q2, q3⟩ := (HPs.out.ext HX.out).at_ hlt
          have HJ2 : Hid (headPlB n (preds[k]'hlt) = true → ∀ j (h : j < preds.length), j < k + 1 → headPlB n (preds[j]'h) = true) := hide (fun h1 j hj hjk => by
            by_cases e : j = k
            · subst e; exact h1
            · exact HJ.out j hj (by omega))
          have HNo : Hid (headPlB n (preds[k]'hlt) = false → R = false) := hide (fun h1 => by rw [HI2.out]; exact all_no hlt h1)
          have HPl : Hid (headPlB n (preds[k]'hlt) = (conB (preds[k]'hlt).cls && (preds[k]'hlt).ty.con == [] && (preds[k]'hlt).ty.args.isEmpty && decide (0 ≤ (preds[k]'hlt).ty.var) && decide ((preds[k]'hlt).ty.var < n))) := hide rfl
          have hpc : (preds[k]'hlt).cls.length ≤ 1000000000000000000 := (HPs.out.all _ (List.getElem_mem hlt)).cls
          generalize preds[k]'hlt = p at *
          generalize headPlB n p = D at *
          have HN := hide (fun w' => r_con03 p.cls w' (by omega))
          obtain ⟨WB, hWB⟩ : ∃ WB, WB = wr.alloc (.cells #[.string ⟨p.ty.con.toArray⟩, .int .i64 p.ty.var, .slice p.ty.A p.ty.args.length p.ty.cap] 32) := ⟨_, rfl⟩
          have XB : Hid (Ext wr WB) := hide (by rw [hWB]; exact (Ext.refl _).alloc _)
          have BT : Hid (TBox WB wr.heap.size p.ty) := hide (by rw [hWB]; exact TBox.new wr p.ty)
          have YB := hide (XR.out.trans XB.out)
          have YB2 := hide (HX.out.trans XB.out)
          have g2 := XB.out.cell c2
          have g3 := XB.out.cell c3
          have r0 := XB.out.cell q0
          have hgl : w.heap.size < WB.heap.size := by have := XB.out.size; omega
          have hgb : b < WB.heap.size := by have := XB.out.size; omega
          go_upto_region 7 with fail
          rw [← hWB]
          clear hWB c2 c3 q0 q1 q2 q3 hbl hb
          have t0 := BT.out.c0
          have t1 := BT.out.c1
          have t2 := BT.out.c2
          have hbt := BT.out.lt
          have HPl0 : Hid (D = (conB p.cls && p.ty.con == [] && decide (p.ty.args.length = 0) && decide (0 ≤ p.ty.var) && decide (p.ty.var < n))) := hide (by
            rw [HPl.out]
            congr 3
            cases p.ty.args <;> simp)
          clear HPl BT
          have HPl := HPl0
          clear HPl0
          generalize p.ty.args.length = L at *
          go_wp2_with fail
          refine (HN.out WB).mono ?_
          rintro e w2 ⟨rfl, rfl⟩
          cases h1 : conB p.cls
          · have hD : D = false := by rw [HPl.out]; simp [h1]
            have hR := HNo.out hD
            clear HNo HI2 HJ2 HPl
            subst hR
            go_wp2
            go_ret
            exact ⟨rfl, YB.out⟩
          · cases h2 : (p.ty.con == ([] : Str))
            · have h2' : (p.ty.con != ([] : Str)) = true := by rw [bne, h2]; rfl
              have hD : D = false := by rw [HPl.out]; simp [h2]
              have hR := HNo.out hD
              clear HNo HI2 HJ2 HPl
              subst hR
              go_wp2
              go_ret
              exact ⟨rfl, YB.out⟩
            · have h2' : (p.ty.con != ([] : Str)) = false := by rw [bne, h2]; rfl
              by_cases h3 : (0 : Int) < (L : Int)
              · have hD : D = false := by
                  rw [HPl.out]
                  have : ¬ L = 0 := by omega
                  simp [this]
                have hR := HNo.out hD
                clear HNo HI2 HJ2 HPl
                subst hR
                go_wp2
                go_ret
                exact ⟨rfl, YB.out⟩
              · have h3' : (L : Int) ≤ 0 := by omega
                have h3e : L = 0 := by omega
                have HPl2 : Hid (D = (decide (0 ≤ p.ty.var) && decide (p.ty.var < n))) := hide (by rw [HPl.out, h1, h2, decide_eq_true h3e]; simp)
                clear HPl h3e
                by_cases h4 : p.ty.var < 0
                · have hD : D = false := by rw [HPl2.out]; simp; omega
                  have hR := HNo.out hD
                  clear HNo HI2 HJ2 HPl2
                  subst hR
                  go_wp2
                  go_ret
                  exact ⟨rfl, YB.out⟩
                · have h4' : (0 : Int) ≤ p.ty.var := by omega
                  by_cases h5 : n ≤ p.ty.var
                  · have hD : D = false := by rw [HPl2.out]; simp; omega
                    have hR := HNo.out hD
                    clear HNo HI2 HJ2 HPl2
                    subst hR
                    go_wp2
                    go_ret
                    exact ⟨rfl, YB.out⟩
                  · have h5' : p.ty.var < n := by omega
                    have hD : D = true := by rw [HPl2.out]; simp; omega
                    have HJ3 := hide (HJ2.out hD)
                    clear HNo HJ2 HPl2
                    go_wp2
                    go_roundw
                    case rel => exact ⟨k + 1, hlt, by go_num, YB2, HJ3⟩
                    case measure => simp [intOf]; omega
        · have hge : ¬ (k : Int) < (preds.length : Int) := by omega
          have hR : R = true := by
            rw [HI2.out, List.all_eq_true]
            intro y hy
            obtain ⟨i, hi, rfl⟩ := List.getElem_of_mem hy
            exact HJ.out i hi (by omega)
          clear HI2
          subst hR
          go_wp2
          go_ret
          exact ⟨rfl, XR.out⟩

end Go.Proofs.YtnomibjbjplieaaGreat

/- Contract: a scheme's type; of the reference. -/
namespace Go.Proofs.YtnomibjbjplieaaGreat
open Go.RowKit

set_option maxRecDepth 10000 in
set_option maxHeartbeats 1000000 in
theorem r_row31 (m : Nat) (w : World) (hm : m ≤ 5000) : Calls Tryz.prog 40 #[.int .i64 0, .int .i64 (m : Int)] w fun e w' => (∃ v, e = .returned v ∧ w'.ownsRow w.heap.size 3 1 v (rangeI m).length ((rangeI m).map (Value.int .i64))) ∧ Ext w w' := by
  obtain ⟨i0, hi, hz0, hz1, hz2⟩ := info_parts int64_info
  go_enter Tryz.func40, Tryz.ntmps40
  go_wp2
  go_loopw [5, 6] (fun u i wr => ∃ k : Nat, k ≤ m ∧ i = .int .i64 k ∧ Hid (Ext w wr) ∧ Hid (wr.ownsRow w.heap.size 3 1 u k ((rangeI k).map (Value.int .i64)))) (fun _ i _ => m - (intOf i).toNat)
  case atStart => exact ⟨0, Nat.zero_le _, rfl, hide (Ext.refl _), hide (World.ownsRow_nil _ _ _ _)⟩
  case round =>
    obtain ⟨k, hk, rfl, HX, HO⟩ := hrel
    by_cases hlt : k < m
    · have hlt' : (k : Int) < (m : Int) := by omega
      have hk0 : (0 : Int) ≤ (k : Int) := by omega
      have Hrk := hide (rangeI_succ k)
      generalize rangeI k = L at *
      go_wp2_with (at_builtin; refine wpList_append_row _ rfl _ _ 29 rfl w.heap.size 3 i0 _ 1 8 Tryz.underlying29 hi hz0 hz1 hz2 rfl (by decide) u5 k (L.map (Value.int .i64)) rfl (HO.out.alloc _) _ 1 1 [.int .i64 (k : Int)] rfl ?c2 ?c3 ?c4 ?c5 ?c6 ?_)
      case c2 => exact Row.boxI _ (at_newB _ _ _ (by simp))
      case c3 => first | rfl | (intro y hy; simp at hy; subst hy; rfl)
      case c4 => unfold maxLen; omega
      case c5 => omega
      case c6 => have := HX.out.size; simp; omega
      intro v4 w4 hown4 hg4 _
      have X4 := hide (Ext.app (HX.out.alloc _) hg4 (HO.out.alloc _) (Nat.le_refl _))
      have O4 : Hid (w4.ownsRow w.heap.size 3 1 v4 (k + 1) ((rangeI (k + 1)).map (Value.int .i64))) := hide (by rw [Hrk.out, List.map_append]; exact hown4)
      clear hown4 hg4
      go_wp2
      go_roundw
      case rel => exact ⟨k + 1, hlt, by go_num, X4, O4⟩
      case measure => simp [intOf]; omega
    · have hge : ¬ (k : Int) < (m : Int) := by omega
      have hkm : k = m := by omega
      have HO2 : Hid (wr.ownsRow w.heap.size 3 1 u5 (rangeI m).length ((rangeI m).map (Value.int .i64))) := hide (by have := HO.out; rw [hkm] at this; rwa [rangeI_len])
      clear hkm HO
      go_wp2
      go_ret
      exact ⟨⟨_, rfl, HO2.out⟩, HX.out⟩


end Go.Proofs.YtnomibjbjplieaaGreat
