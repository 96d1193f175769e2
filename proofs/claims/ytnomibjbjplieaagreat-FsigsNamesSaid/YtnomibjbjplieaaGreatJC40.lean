/- Contract of the reference of chapter 33: an instance's name and type. (A program of ours has printed this.) -/
import Derived.Test.YtnomibjbjplieaaGreatJC39
import Derived.RegionTactic
import Derived.Deep.DeepCutAuto
import Derived.WalkSpells
import Derived.WalkLawsBesides
import Derived.Deep.QuietTactic
import Derived.BigQuiet
/- Contract of the reference of chapter 33: an instance's name and type. (A program of ours has printed this.) -/
namespace Go.Proofs.YtnomibjbjplieaaGreat
open Go.RowKit

theorem r_row0 (n : Int) (w : World) (h0 : 0 ≤ n) (hn : n ≤ 5000) : Calls Tryz.prog 40 #[.int .i64 0, .int .i64 n] w fun e w' => (∃ A cap, e = .returned (.slice A (rowF 0 n.toNat).length cap) ∧ RowOk w w' (rowF 0 n.toNat) A cap) ∧ Ext w w' := by
  have h := r_row31 n.toNat w (by omega)
  rw [show ((n.toNat : Nat) : Int) = n by omega] at h
  refine h.mono ?_
  rintro e w' ⟨⟨v, rfl, ho⟩, hx⟩
  rw [← rowF_zero] at ho
  obtain ⟨A, cap, rfl, h1⟩ := RowOk.of_own ho
  exact ⟨⟨A, cap, rfl, h1⟩, hx⟩
theorem dict_any (c : Str) (t : Ty) (w : World) (h : TyIn w t) (hc : c.length ≤ 1000000000000000000) : Calls Tryz.prog 38 #[encStr c, tyV t] w fun e w' => (∃ D g, e = .returned (.agg #[encStr D.con, .int .i64 D.var, .slice D.A D.args.length D.cap]) ∧ D = dictT c t g ∧ TyIn w' D ∧ w.heap.size ≤ g) ∧ Ext w w' := by
  refine (r_dict31 c t w h hc).mono ?_
  rintro e w' ⟨⟨g, rfl, hd, hg⟩, hx⟩
  exact ⟨⟨dictT c t g, g, rfl, rfl, hd, hg⟩, hx⟩

set_option maxRecDepth 10000 in
set_option maxHeartbeats 8000000 in
theorem r_inst33 (x : EnD) (i : Int) (w : World) (h : EnIn w x) (hf : ∀ c ∈ x.insts, c.preds.length ≤ 1000) :
    Calls Tryz.prog 12 #[enV x, .int .i64 i] w fun e w' => (∃ nm p, e = .returned (.tuple #[.agg #[encStr nm, .slice p.A p.vars.length p.cap, encStr p.ty.con, .int .i64 p.ty.var, .slice p.ty.A p.ty.args.length p.ty.cap], .bool (instF x.insts i).isSome]) ∧ InstOk w' (instF x.insts i) nm p) ∧ Ext w w' := by
  obtain ⟨i1, hj, hy0, hy1, hy2⟩ := info_parts ty_info3
  obtain ⟨D, dc, datas, C, cc, cls, I, ic, insts⟩ := x
  obtain ⟨W, hW⟩ : ∃ W, W = (w.alloc (.cells #[.slice D datas.length dc, .slice C cls.length cc, .slice I insts.length ic] 26)).alloc (.cells #[.string ⟨#[]⟩, .slice none 0 0, .string ⟨#[]⟩, .int .i64 0, .slice none 0 0] 43) := ⟨_, rfl⟩
  have HW := hide hW.symm
  have X0 : Hid (Ext w W) := hide (by rw [hW]; exact ((Ext.refl _).alloc _).alloc _)
  have B1 : Hid (EnBox W w.heap.size ⟨D, dc, datas, C, cc, cls, I, ic, insts⟩) := hide (by rw [hW]; exact (EnBox.new w _).ext ((Ext.refl _).alloc _))
  have B2 : Hid (W.heap[w.heap.size + 1]? = some (.cells zeroTd 43 (0, 0))) := hide (by rw [hW]; exact at_newB _ _ _ (by simp))
  have HI := hide (show InsIn w I insts from h.insts)
  have hle : insts.length ≤ ic := h.ile
  have hmx : ic ≤ 9223372036854775807 := h.imax
  have Hf : Hid (∀ c ∈ insts, c.preds.length ≤ 1000) := hide hf
  have HE := hide (fun w' (e : Ext W w') => (B1.out.ext e).cells.2.2)
  have e0 := HE.out W (Ext.refl _)
  have hbl := B1.out.lt
  clear hW h hf
  simp only [] at *
  obtain ⟨F, hF⟩ : ∃ F, F = instF insts i := ⟨_, rfl⟩
  rw [← hF]
  have HF := hide hF
  clear hF
  obtain ⟨z0, z1, z2, z3, z4, z5, z6, z7, z8, z9, z10⟩ := ztd (Ext.refl _) B2.out
  unfold enV
  by_cases hneg : i < 0
  · have hF : F = none := by rw [HF.out]; unfold instF; rw [if_pos hneg]
    clear HF
    subst hF
    go_enter Tryz.func12, Tryz.ntmps12
    go_upto_region 1 with fail
    rw [HW.out]
    clear HW
    go_wp2
    refine bodyPost_ret (v := .tuple #[.agg #[.string ⟨#[]⟩, .slice none 0 0, .string ⟨#[]⟩, .int .i64 0, .slice none 0 0], .bool false]) ?_ rfl ⟨⟨[], ⟨[], none, 0, Ty.zero⟩, rfl, ⟨⟨Nat.le_refl _, Nat.zero_le _, RowOf.nil _ _ _, TyIn.zero _⟩, fun _ => ⟨rfl, rfl⟩, fun _ h => by cases h⟩⟩, ?_⟩
    · simp [results, Tryz.f12, go_sem, z0, z1, z2, z3, z4]
    · exact ((((X0.out.setCell (by simp) _).setCell (by simp) _).setCell (by simp) _).setCell (by simp) _).setCell (by simp) _
  obtain ⟨m, rfl⟩ : ∃ m : Nat, i = (m : Int) := ⟨i.toNat, by omega⟩
  by_cases hhi : (m : Int) ≥ (insts.length : Int)
  · have hF : F = none := by rw [HF.out]; unfold instF; rw [if_neg hneg, show ((m : Int)).toNat = m from rfl, List.getElem?_eq_none (by omega)]
    clear HF
    subst hF
    go_enter Tryz.func12, Tryz.ntmps12
    go_upto_region 1 with fail
    rw [HW.out]
    clear HW
    go_wp2
    refine bodyPost_ret (v := .tuple #[.agg #[.string ⟨#[]⟩, .slice none 0 0, .string ⟨#[]⟩, .int .i64 0, .slice none 0 0], .bool false]) ?_ rfl ⟨⟨[], ⟨[], none, 0, Ty.zero⟩, rfl, ⟨⟨Nat.le_refl _, Nat.zero_le _, RowOf.nil _ _ _, TyIn.zero _⟩, fun _ => ⟨rfl, rfl⟩, fun _ h => by cases h⟩⟩, ?_⟩
    · simp [results, Tryz.f12, go_sem, z0, z1, z2, z3, z4]
    · exact ((((X0.out.setCell (by simp) _).setCell (by simp) _).setCell (by simp) _).setCell (by simp) _).setCell (by simp) _
  have hml : m < insts.length := by omega
  have hm1 : (m : Int) < (insts.length : Int) := by omega
  have hm0 : (0 : Int) ≤ (m : Int) := by omega
  obtain ⟨b, o, e1, hb, q0, q1, q2, q3⟩ := (HI.out.ext X0.out).at_ hml
  subst e1
  have HX := hide (HI.out.all _ (List.getElem_mem hml))
  have hpl := Hf.out _ (List.getElem_mem hml)
  have HF2 : Hid (F = if instB (insts[m]'hml) then some (insts[m]'hml) else none) := hide (by rw [HF.out]; unfold instF; rw [if_neg hneg, show ((m : Int)).toNat = m from rfl, List.getElem?_eq_getElem hml])
  have HCk := hide (r_check23 (insts[m]'hml) W (HX.out.ext X0.out))
  clear HF HI Hf
  generalize insts[m]'hml = y at *
  obtain ⟨yc, yn, n, A, cap, preds⟩ := y
  simp only [] at q0 q1 q2 q3 hpl
  unfold inV at HCk
  cases hb2 : instB ⟨yc, yn, n, A, cap, preds⟩
  · rw [hb2] at HCk HF2
    have hF : F = none := by rw [HF2.out]; rfl
    clear HF2
    subst hF
    go_enter Tryz.func12, Tryz.ntmps12
    go_upto_region 1 with fail
    rw [HW.out]
    clear HW
    go_wp2_with fail
    refine HCk.out.mono ?_
    rintro e w2 ⟨rfl, hx⟩
    obtain ⟨z0, z1, z2, z3, z4, z5, z6, z7, z8, z9, z10⟩ := ztd hx B2.out
    simp only [Bool.false_eq_true, if_false]
    go_wp2
    refine bodyPost_ret (v := .tuple #[.agg #[.string ⟨#[]⟩, .slice none 0 0, .string ⟨#[]⟩, .int .i64 0, .slice none 0 0], .bool false]) ?_ rfl ⟨⟨[], ⟨[], none, 0, Ty.zero⟩, rfl, ⟨⟨Nat.le_refl _, Nat.zero_le _, RowOf.nil _ _ _, TyIn.zero _⟩, fun _ => ⟨rfl, rfl⟩, fun _ h => by cases h⟩⟩, ?_⟩
    · simp [results, Tryz.f12, go_sem, z0, z1, z2, z3, z4]
    · exact (((((X0.out.trans hx).setCell (by simp) _).setCell (by simp) _).setCell (by simp) _).setCell (by simp) _).setCell (by simp) _
  · rw [hb2] at HCk HF2
    have hF : F = some ⟨yc, yn, n, A, cap, preds⟩ := by rw [HF2.out]; rfl
    clear HF2
    subst hF
    have hnn : 0 ≤ n ∧ n ≤ 100 := by
      unfold instB at hb2
      rw [Bool.and_eq_true] at hb2
      exact instHd_n hb2.1
    have HP := hide (show PdsIn w A preds from HX.out.row)
    have hyc : yc.length ≤ 1000000000000000000 := HX.out.txt
    have hyn : yn.length ≤ 1000000000000000000 := HX.out.ctxt
    have hple : preds.length ≤ cap := HX.out.le
    have hpmx : cap ≤ 9223372036854775807 := HX.out.max
    have HXi := hide HX.out
    clear hb2 HX z0 z1 z2 z3 z4 z5 z6 z7 z8 z9 z10
    have HE0 := hide (fun w' (e : Ext W w') => And.intro (HE.out w' e) (And.intro (e.cell q0) (And.intro (e.cell q1) (And.intro (e.cell q2) (e.cell q3)))))
    go_enter Tryz.func12, Tryz.ntmps12
    go_upto_region 1 with fail
    rw [HW.out]
    clear HW
    go_wp2_with fail
    refine HCk.out.mono ?_
    rintro e w2 ⟨rfl, hx⟩
    have X2 := hide hx
    obtain ⟨e0, q0, q1, q2, q3⟩ := HE0.out w2 hx
    have hbl2 : w.heap.size < w2.heap.size := by have := hx.size; omega
    have hb2 : b < w2.heap.size := by have := hx.size; omega
    clear hx HCk HE HE0
    simp only [if_true]
    go_upto_region 4 with fail
    obtain ⟨W4, hW4⟩ : ∃ W4, W4 = w2.alloc (.cells #[encStr yc, encStr yn, .int .i64 n, .slice A preds.length cap] 71) := ⟨_, rfl⟩
    have X24 : Hid (Ext w2 W4) := hide (by rw [hW4]; exact (Ext.refl _).alloc _)
    have HB4 : Hid (InBox W4 w2.heap.size ⟨yc, yn, n, A, cap, preds⟩) := hide (by rw [hW4]; exact at_newB _ _ _ rfl)
    rw [← hW4]
    clear hW4 e0 q0 q1 q2 q3
    have X4 := hide (X0.out.trans (X2.out.trans X24.out))
    have B4 := hide (((X2.out.trans X24.out).heap (lt_of_obj B2.out)).trans B2.out)
    have hlo4 : w.heap.size + 1 < W4.heap.size := lt_of_obj B4.out
    have hb6 := HB4.out.lt
    have hb6lo : w.heap.size + 1 < w2.heap.size := Nat.lt_of_lt_of_le (lt_of_obj B2.out) X2.out.size
    have HSS := hide (fun w' (e : Ext W4 w') => (show w'.cell? ⟨w2.heap.size, 0, none⟩ = some (encStr yc) ∧ w'.cell? ⟨w2.heap.size, 1, none⟩ = some (encStr yn) ∧ w'.cell? ⟨w2.heap.size, 2, none⟩ = some (.int .i64 n) ∧ w'.cell? ⟨w2.heap.size, 3, none⟩ = some (.slice A preds.length cap) from (HB4.out.ext e).cells))
    generalize w2.heap.size = b6 at *
    obtain ⟨s0, s1, s2, s3⟩ := HSS.out W4 (Ext.refl _)
    go_wp2
    go_loopw [7, 8] (fun u i wr => ∃ (k : Nat) (ds : List Ty), k ≤ preds.length ∧ i = .int .i64 k ∧ Hid (Ext W4 wr) ∧ Hid (wr.ownsRow W4.heap.size 32 3 u ds.length (ds.flatMap tyC.f)) ∧ Hid (DsOk w W4 wr u.ownBlock (preds.take k) ds)) (fun _ i _ => preds.length - (intOf i).toNat)
    case atStart => exact ⟨0, [], Nat.zero_le _, rfl, hide (Ext.refl _), hide (World.ownsRow_nil _ _ _ _), hide (DsOk.nil _ _ _ _)⟩
    case round =>
      obtain ⟨k, ds, hk, rfl, HX, HO, HD⟩ := hrel
      have hdl : ds.length ≤ preds.length := by have := HD.out.len; rw [List.length_take] at this; omega
      by_cases hlt : k < preds.length
      · have hlt' : (k : Int) < (preds.length : Int) := by omega
        have hk0 : (0 : Int) ≤ (k : Int) := by omega
        have XR := hide (X4.out.trans HX.out)
        obtain ⟨b, o, rfl, hb, q0, q1, q2, q3⟩ := (HP.out.ext XR.out).at_ hlt
        have hm := List.getElem_mem hlt
        have HC := hide (fun w' (e : Ext w w') => hide (dict_any (preds[k]'hlt).cls (preds[k]'hlt).ty w' ((HP.out.all _ hm).ty.ext e) (HP.out.all _ hm).cls))
        have Hpt := hide (HP.out.all _ hm).ty
        have Htk : Hid (preds.take (k + 1) = preds.take k ++ [preds[k]'hlt]) := hide (List.take_succ_eq_append_getElem hlt)
        have HS8 : Hid (∀ w', Ext W4 w' → w'.cell? ⟨b6, 3, none⟩ = some (.slice (some ⟨b, o, none⟩) preds.length cap) ∧ w'.cell? ⟨b, o + k * 4, none⟩ = some (.string ⟨(preds[k]'hlt).cls.toArray⟩) ∧ w'.cell? ⟨b, o + k * 4 + 1, none⟩ = some (.string ⟨(preds[k]'hlt).ty.con.toArray⟩) ∧ w'.cell? ⟨b, o + k * 4 + 2, none⟩ = some (.int .i64 (preds[k]'hlt).ty.var) ∧ w'.cell? ⟨b, o + k * 4 + 3, none⟩ = some (.slice (preds[k]'hlt).ty.A (preds[k]'hlt).ty.args.length (preds[k]'hlt).ty.cap)) := hide (fun w' e => by
          obtain ⟨b', o', e9, -, p0, p1, p2, p3⟩ := (HP.out.ext (X4.out.trans e)).at_ hlt
          injection e9 with e9
          injection e9 with e9 e10
          subst e9 e10
          exact ⟨(HSS.out w' e).2.2.2, p0, p1, p2, p3⟩)
        generalize preds[k]'hlt = x at *
        obtain ⟨A6, c6, rfl, -, -, -, -⟩ := RowOf.own tyC (l := ds) HO.out
        unfold tyV at HC
        have hszB := HX.out.size
        have hbb : b < wr.heap.size := hb
        have hb66 : b6 < wr.heap.size := by omega
        have hpp : (preds.length : Int) ≤ (cap : Int) := by omega
        obtain ⟨v3, v4', v5', v6', v7'⟩ := HS8.out wr HX.out
        clear hm q0 q1 q2 q3
        go_wp2
        go_region_held3 (fun w' => w'.cell? ⟨b6, 3, none⟩ = some (.slice (some ⟨b, o, none⟩) preds.length cap) ∧ w'.cell? ⟨b, o + k * 4, none⟩ = some (.string ⟨x.cls.toArray⟩) ∧ w'.cell? ⟨b, o + k * 4 + 1, none⟩ = some (.string ⟨x.ty.con.toArray⟩) ∧ w'.cell? ⟨b, o + k * 4 + 2, none⟩ = some (.int .i64 x.ty.var) ∧ w'.cell? ⟨b, o + k * 4 + 3, none⟩ = some (.slice x.ty.A x.ty.args.length x.ty.cap)) (first | assumption | go_keep) (first
          | (go_at_call 38
             refine Calls.mono (HC.out _ (XR.out.trans (by repeat (first | exact Ext.refl _ | exact Ext.pre (by simp) | exact Ext.alloc (by assumption) _ | refine Ext.alloc ?_ _ |  refine Ext.more ?_ _ _ | refine Ext.drew ?_ | refine Ext.drewN ?_ _)))).out ?_
             rintro e w5 ⟨⟨D, g, rfl, hDe, hd, hgs⟩, hx5⟩
             have X5 : Hid (Ext wr w5) := hide (by (refine Ext.trans ?_ hx5; exact (by repeat (first | exact Ext.refl _ | exact Ext.pre (by simp) | exact Ext.alloc (by assumption) _ | refine Ext.alloc ?_ _ |  refine Ext.more ?_ _ _ | refine Ext.drew ?_ | refine Ext.drewN ?_ _))))
             have O5 := hide (own_extB HO.out X5.out)
             have hgs' : wr.heap.size ≤ g := hgs
             have Hd := hide hd
             have HDe := hide hDe
             have kS := HS8.out w5 (HX.out.trans X5.out)
             clear hx5 hd hgs hDe)
          | (refine step_append_rowB _ rfl (.tmp 41) (.tmp 55) 30 rfl W4.heap.size 32 i1 _ 3 48 Tryz.underlying30 hj hy0 hy1 hy2 rfl (by decide) (.slice A6 ds.length c6) ds.length (ds.flatMap tyC.f) rfl (O5.out.alloc _) (some ⟨_, 0, none⟩) 1 1 [encStr D.con, .int .i64 D.var, .slice D.A D.args.length D.cap] rfl (by first | exact Row.ty3 _ _ _ (heap_alloc_new _ _) | exact Row.ty3 _ _ _ (at_newB _ _ _ (by simp))) (by intro y hy; simp at hy; rcases hy with rfl | rfl | rfl <;> rfl) (by unfold maxLen; omega) (by omega) (Ext.size ((HX.out.trans X5.out).alloc _)) ?_
             intro v4 w4 hown4 hg4 hat4
             have X4' := hide (Ext.app ((HX.out.trans X5.out).alloc _) hg4 (O5.out.alloc _) (Nat.le_refl _))
             have O4 : Hid (w4.ownsRow W4.heap.size 32 3 v4 (ds ++ [D]).length ((ds ++ [D]).flatMap tyC.f)) := hide (by rw [flat_snoc, List.length_append]; exact hown4)
             have D4 : Hid (DsOk w W4 w4 v4.ownBlock (preds.take (k + 1)) (ds ++ [D])) := hide (by
               rw [Htk.out, HDe.out]
               have Hd' : TyIn w5 (dictT x.cls x.ty g) := HDe.out ▸ Hd.out
               refine HD.out.snoc (w' := w5.alloc (.cells #[encStr D.con, .int .i64 D.var, .slice D.A D.args.length D.cap] 32)) (X5.out.alloc _) (Hd'.ext ((Ext.refl _).alloc _)) hgs' Hpt.out X4.out.size hszB (fun c hc => HO.out.lt c hc) hg4 ?_
               rcases hat4 with e | e
               · exact .inl e
               · exact .inr (fun c hc => by rw [e] at hc; injection hc with hc; simp at hc ⊢; omega))
             have kS2 := HS8.out w4 X4'.out
             clear hown4 hg4 hat4))
        go_wp2
        go_roundw
        case rel => exact ⟨k + 1, ds ++ [D], hlt, by go_num, X4', O4, D4⟩
        case measure => simp [intOf]; omega
      · have hge : ¬ (k : Int) < (preds.length : Int) := by omega
        have HD2 : Hid (DsOk w W4 wr u7.ownBlock preds ds) := hide (by have := HD.out; rwa [List.take_of_length_le (by omega)] at this)
        obtain ⟨A6, c6, rfl, d1, d2, d3, -⟩ := RowOf.own tyC (l := ds) HO.out
        have hszr := HX.out.size
        have XR := hide (X4.out.trans HX.out)
        have Br := hide ((HX.out.heap (lt_of_obj B4.out)).trans B4.out)
        have HTs : Hid (TysIn wr A6 ds) := hide ⟨d3, HD2.out.ty⟩
        have HSr := hide (fun w' (e : Ext wr w') => by
          obtain ⟨g0, g1, g2, g3⟩ := HSS.out w' (HX.out.trans e)
          exact And.intro g0 (And.intro g1 (And.intro g2 g3)))
        have HOf := hide (fun w' (e : Ext w w') => hide (r_head23 ⟨yc, yn, n, A, cap, preds⟩ w' (HXi.out.ext e) hnn.1 (by show n ≤ 4096; omega)))
        have HDi := hide (fun w' tt (ht : TyIn w' tt) => hide (r_dict31 yc tt w' ht hyc))
        have HFun := hide (fun w' tt (e : Ext wr w') (ht : TyIn w' tt) => hide (r_fun16 A6 c6 ds tt w' (HTs.out.ext e) ht (by omega)))
        have HoD : Hid (∀ d ∈ ds, awayB (w.heap.size + 1) d = true) := hide (fun d hd => HD2.out.away d hd _ hlo4 (fun p hp => away_new (HP.out.all p hp).ty (by omega)))
        have HQ : Hid (∀ A1 c1 bd, funP ds (dictT yc (conV yn A1 c1 n.toNat) bd).pure = instTy ⟨yc, yn, n, A, cap, preds⟩) := hide (fun A1 c1 bd => by rw [funP_eq, HD2.out.is, dictT_pure, conV_pure]; rfl)
        have hcr : b6 < wr.heap.size := by omega
        obtain ⟨s0, s1, s2, s3⟩ := HSr.out wr (Ext.refl _)
        unfold inV at HOf
        simp only [] at HOf
        clear HO HD d3 HD2
        unfold tyV at HOf HDi HFun
        have n1 : ¬ b6 = wr.heap.size := by omega
        have n2 : ¬ wr.heap.size = b6 := by omega
        go_upto_region 9 with fail
        go_cut [9] (fun s10 wx => ∃ (B : Nat) (u : Ty), s10 = .pointer (some ⟨B, 0, none⟩) ∧ Hid (TyAt wr wx B (instTy ⟨yc, yn, n, A, cap, preds⟩) u) ∧ Hid (awayB (w.heap.size + 1) u = true))
        case first =>
          go_region_held3 (fun w' => w'.cell? ⟨b6, 0, none⟩ = some (encStr yc) ∧ w'.cell? ⟨b6, 1, none⟩ = some (encStr yn) ∧ w'.cell? ⟨b6, 2, none⟩ = some (.int .i64 n) ∧ w'.cell? ⟨b6, 3, none⟩ = some (.slice A preds.length cap)) (first | assumption | go_keep) (first
            | (go_at_call 39
               refine Calls.mono (HOf.out _ ?eo).out ?_
               (case eo => exact Ext.trans XR.out (by repeat (first | exact Ext.refl _ | exact Ext.pre (by simp) | exact Ext.alloc (by assumption) _ | refine Ext.alloc ?_ _ |  refine Ext.more ?_ _ _ | refine Ext.drew ?_ | refine Ext.drewN ?_ _)))
               rintro e y1 ⟨⟨A1, c1, rfl, t1, a1⟩, x1⟩
               have e1 : Ext wr y1 := by (refine Ext.trans ?_ x1; exact (by repeat (first | exact Ext.refl _ | exact Ext.pre (by simp) | exact Ext.alloc (by assumption) _ | refine Ext.alloc ?_ _ |  refine Ext.more ?_ _ _ | refine Ext.drew ?_ | refine Ext.drewN ?_ _)))
               have kS := HSr.out y1 e1
               have es1 := e1.size
               have m1 : ¬ b6 = y1.heap.size := by omega
               have m2 : ¬ y1.heap.size = b6 := by omega)
            | (go_at_call 38
               refine Calls.mono (HDi.out _ _ (t1.ext ?e2)).out ?_
               (case e2 => exact (by repeat (first | exact Ext.refl _ | exact Ext.pre (by simp) | exact Ext.alloc (by assumption) _ | refine Ext.alloc ?_ _ |  refine Ext.more ?_ _ _ | refine Ext.drew ?_ | refine Ext.drewN ?_ _)))
               rintro e y2 ⟨⟨bd, rfl, hd, hbd⟩, x2⟩
               have e2 : Ext y1 y2 := by (refine Ext.trans ?_ x2; exact (by repeat (first | exact Ext.refl _ | exact Ext.pre (by simp) | exact Ext.alloc (by assumption) _ | refine Ext.alloc ?_ _ |  refine Ext.more ?_ _ _ | refine Ext.drew ?_ | refine Ext.drewN ?_ _)))
               have kS2 := HSr.out y2 (e1.trans e2)
               have es2 := e2.size
               have m3 : ¬ b6 = y2.heap.size := by omega
               have m4 : ¬ y2.heap.size = b6 := by omega)
            | (go_at_call 28
               refine Calls.mono (HFun.out _ _ ?e (hd.ext ?e2)).out ?_
               (case e => exact Ext.trans (e1.trans e2) (by repeat (first | exact Ext.refl _ | exact Ext.pre (by simp) | exact Ext.alloc (by assumption) _ | refine Ext.alloc ?_ _ |  refine Ext.more ?_ _ _ | refine Ext.drew ?_ | refine Ext.drewN ?_ _)))
               (case e2 => exact (by repeat (first | exact Ext.refl _ | exact Ext.pre (by simp) | exact Ext.alloc (by assumption) _ | refine Ext.alloc ?_ _ |  refine Ext.more ?_ _ _ | refine Ext.drew ?_ | refine Ext.drewN ?_ _)))
               rintro e y3 ⟨⟨u, rfl, hu, hup, hua⟩, x3⟩
               have e3 : Ext y2 y3 := by (refine Ext.trans ?_ x3; exact (by repeat (first | exact Ext.refl _ | exact Ext.pre (by simp) | exact Ext.alloc (by assumption) _ | refine Ext.alloc ?_ _ |  refine Ext.more ?_ _ _ | refine Ext.drew ?_ | refine Ext.drewN ?_ _)))
               have kS3 := HSr.out y3 (e1.trans (e2.trans e3))
               rw [HQ.out] at hup
               (try (have zz := ztF x3 (B := y2.heap.size) (by first | exact at_newB y2 _ _ rfl | fail); obtain ⟨z0, z1, z2, z3, z4, z5, z6⟩ := zz))
               (try (have zz := ztF x3 (B := y1.heap.size) (by first | exact (x2.heap (by simp)).trans (at_newB y1 _ _ rfl) | fail); obtain ⟨z0, z1, z2, z3, z4, z5, z6⟩ := zz))
               (try (have zz := ztF (e2.trans e3) (B := wr.heap.size) (by first | exact (x1.heap (by simp)).trans (at_newB wr _ _ rfl) | fail); obtain ⟨z0, z1, z2, z3, z4, z5, z6⟩ := zz))))
          all_goals (have hy1 : wr.heap.size ≤ y1.heap.size := es1)
          all_goals (have hl1 : w.heap.size + 1 < y1.heap.size := by omega)
          all_goals (have hl2 : w.heap.size + 1 < y2.heap.size := by omega)
          all_goals (have hbd1 : y1.heap.size ≤ bd := by first | exact hbd | (simp at hbd; omega))
          all_goals (have ho : awayB (w.heap.size + 1) u = true := hua _ ⟨by first | exact hl2 | (simp; omega), dictT_away (by omega) (a1 _ (by first | exact (show w.heap.size + 1 < wr.heap.size by omega) | (simp; omega))), HoD.out⟩)
          all_goals (go_wp2_with fail; go_meet)
          · exact ⟨y3.heap.size, u, rfl, hide (TyAt.new (e1.trans (e2.trans e3)) hu hup), hide ho⟩
          · exact ⟨y2.heap.size, u, rfl, hide (TyAt.set ((e1.trans e2).trans ((Ext.refl _).alloc _)) x3 (by omega) (at_newB y2 _ _ rfl) hu (hua _ ⟨by simp, away_new hd (Nat.le_refl _), fun a ha => away_new (HTs.out.args a ha) (by omega)⟩) hup), hide ho⟩
          · exact ⟨y1.heap.size, u, rfl, hide (TyAt.set (a := y2) (e1.trans e2) x3 (by omega) ((x2.heap (by simp)).trans (at_newB y1 _ _ rfl)) hu (hua _ ⟨by have := x2.size; simp at this; omega, dictT_away (by simp at hbd; omega) (away_new t1 (Nat.le_refl _)), fun a ha => away_new (HTs.out.args a ha) (by omega)⟩) hup), hide ho⟩
          · exact ⟨wr.heap.size, u, rfl, hide (TyAt.set (a := y2) (e1.trans e2) x3 (Nat.le_refl _) ((e2.heap (by have := x1.size; simp at this; omega)).trans ((x1.heap (by simp)).trans (at_newB wr _ _ rfl))) hu (hua _ ⟨by have := x1.size; simp at this; omega, dictT_away (by have := x1.size; simp at this; omega) (a1 _ (by simp)), fun a ha => away_new (HTs.out.args a ha) (Nat.le_refl _)⟩) hup), hide ho⟩
        case rest =>
          obtain ⟨B, u, rfl, HT, HAu⟩ := hcut
          have HRow := hide (fun w' => r_row0 n w' hnn.1 (by omega))
          have HNm := hide (fun w' => r_name33 yc yn w' hyc hyn)
          have Bc := hide ((HT.out.x.heap (lt_of_obj Br.out)).trans Br.out)
          have HS2 := hide (fun w' (e : Ext wc w') => by
            obtain ⟨g0, g1, g2, -⟩ := HSr.out w' (HT.out.x.trans e)
            exact And.intro g0 (And.intro g1 (And.intro g2 (And.intro (HT.out.box.ext e).c0 (And.intro (HT.out.box.ext e).c1 (HT.out.box.ext e).c2)))))
          have hBlo := HT.out.lo
          have hbc := HT.out.box.lt
          have hszc := HT.out.x.size
          have r1 : ¬ b6 = w.heap.size + 1 := by omega
          have r3 : ¬ B = w.heap.size + 1 := by omega
          have hbc6 : b6 < wc.heap.size := by omega
          clear s0 s1 s2 s3 HOf HFun HDi HTs HoD HQ
          go_upto_region 10 with fail
          go_wp2
          have hS0 := HS2.out wc.drew (Ext.refl _).drew
          refine but_startN 12 13 #[false, false, false, false, false, false, false, false, false, false, false, false, false] (fun w' => w'.cell? ⟨b6, 0, none⟩ = some (encStr yc) ∧ w'.cell? ⟨b6, 1, none⟩ = some (encStr yn) ∧ w'.cell? ⟨b6, 2, none⟩ = some (.int .i64 n) ∧ w'.cell? ⟨B, 0, none⟩ = some (encStr u.con) ∧ w'.cell? ⟨B, 1, none⟩ = some (.int .i64 u.var) ∧ w'.cell? ⟨B, 2, none⟩ = some (.slice u.A u.args.length u.cap)) (by kernel_rfl) (by kernel_rfl) (by kernel_rfl) ?_
          (refine but_takeL (i := 0) (v := ?_) rfl (by kernel_rfl) (by kernel_rfl) (by kernel_rfl) (by kernel_rfl) (fun _ _ _ h => h) (Or.inl ⟨by kernel_rfl, ?_⟩) (by assumption) ?_; rotate_left 1; (focus (intro w hSw; (try dsimp only at hSw); (try obtain ⟨g1, g2, g3⟩ := hSw); (try obtain ⟨g1, g2⟩ := hSw); go_simp; try with_reducible rfl)); simp only [Act.put, List.setIfInBounds_toArray, List.set_cons_zero, List.set_cons_succ])
          (refine but_takeL (i := 1) (v := ?_) rfl (by kernel_rfl) (by kernel_rfl) (by kernel_rfl) (by kernel_rfl) (fun _ _ _ h => h) (Or.inl ⟨by kernel_rfl, ?_⟩) (by assumption) ?_; rotate_left 1; (focus (intro w hSw; (try dsimp only at hSw); (try obtain ⟨g1, g2, g3⟩ := hSw); (try obtain ⟨g1, g2⟩ := hSw); go_simp; try with_reducible rfl)); simp only [Act.put, List.setIfInBounds_toArray, List.set_cons_zero, List.set_cons_succ])
          (refine but_takeL (i := 2) (v := ?_) rfl (by kernel_rfl) (by kernel_rfl) (by kernel_rfl) (by kernel_rfl) (fun _ _ _ h => h) (Or.inl ⟨by kernel_rfl, ?_⟩) (by assumption) ?_; rotate_left 1; (focus (intro w hSw; (try dsimp only at hSw); (try obtain ⟨g1, g2, g3⟩ := hSw); (try obtain ⟨g1, g2⟩ := hSw); go_simp; try with_reducible rfl)); simp only [Act.put, List.setIfInBounds_toArray, List.set_cons_zero, List.set_cons_succ])
          (refine but_takeL (i := 3) (v := ?_) rfl (by kernel_rfl) (by kernel_rfl) (by kernel_rfl) (by kernel_rfl) (fun _ _ _ h => h) (Or.inl ⟨by kernel_rfl, ?_⟩) (by assumption) ?_; rotate_left 1; (focus (intro w hSw; (try dsimp only at hSw); (try obtain ⟨g1, g2, g3⟩ := hSw); (try obtain ⟨g1, g2⟩ := hSw); go_simp; try with_reducible rfl)); simp only [Act.put, List.setIfInBounds_toArray, List.set_cons_zero, List.set_cons_succ])
          (refine but_takeL (i := 5) (v := ?_) rfl (by kernel_rfl) (by kernel_rfl) (by kernel_rfl) (by kernel_rfl) (fun _ _ _ h => h) (Or.inl ⟨by kernel_rfl, ?_⟩) (by assumption) ?_; rotate_left 1; (focus (intro w hSw; (try dsimp only at hSw); (try obtain ⟨g1, g2, g3⟩ := hSw); (try obtain ⟨g1, g2⟩ := hSw); go_simp; try with_reducible rfl)); simp only [Act.put, List.setIfInBounds_toArray, List.set_cons_zero, List.set_cons_succ])
          (refine but_takeL (i := 6) (v := ?_) rfl (by kernel_rfl) (by kernel_rfl) (by kernel_rfl) (by kernel_rfl) (fun _ _ _ h => h) (Or.inl ⟨by kernel_rfl, ?_⟩) (by assumption) ?_; rotate_left 1; (focus (intro w hSw; (try dsimp only at hSw); (try obtain ⟨g1, g2, g3⟩ := hSw); (try obtain ⟨g1, g2⟩ := hSw); go_simp; try with_reducible rfl)); simp only [Act.put, List.setIfInBounds_toArray, List.set_cons_zero, List.set_cons_succ])
          (refine but_takeL (i := 8) (v := ?_) rfl (by kernel_rfl) (by kernel_rfl) (by kernel_rfl) (by kernel_rfl) (fun _ _ _ h => h) (Or.inl ⟨by kernel_rfl, ?_⟩) (by assumption) ?_; rotate_left 1; (focus (intro w hSw; (try dsimp only at hSw); (try obtain ⟨g1, g2, g3⟩ := hSw); (try obtain ⟨g1, g2⟩ := hSw); go_simp; try with_reducible rfl)); simp only [Act.put, List.setIfInBounds_toArray, List.set_cons_zero, List.set_cons_succ])
          refine but_step (i := 4) (by kernel_rfl) rfl (fun KK hK => ?_)
          go_simp
          refine Calls.mono (HNm.out _) ?_
          rintro e w4 ⟨rfl, rfl⟩
          refine hK.out _ _ (fun _ => hS0) ?_
          clear hK KK
          simp only [List.setIfInBounds_toArray, List.set_cons_zero, List.set_cons_succ]
          refine but_step (i := 7) (by kernel_rfl) rfl (fun KK hK => ?_)
          go_simp
          refine Calls.mono (HRow.out _) ?_
          rintro e y1 ⟨⟨A1, c1, rfl, hr⟩, x1⟩
          have e1 : Ext wc y1 := by (refine Ext.trans ?_ x1; exact (by repeat (first | exact Ext.refl _ | exact Ext.pre (by simp) | exact Ext.alloc (by assumption) _ | refine Ext.alloc ?_ _ |  refine Ext.more ?_ _ _ | refine Ext.drew ?_ | refine Ext.drewN ?_ _)))
          have hS1 := HS2.out y1 e1
          refine hK.out _ _ (fun _ => hS1) ?_
          clear hK KK hS0
          simp only [List.setIfInBounds_toArray, List.set_cons_zero, List.set_cons_succ]
          obtain ⟨z0, z1, z2, z3, z4, z5, z6, z7, z8, z9, z10⟩ := ztd e1 Bc.out
          obtain ⟨WF, hWF⟩ : ∃ WF, WF = (((((y1.setCell ⟨w.heap.size + 1, 0, none⟩ (encStr (nameS yc yn))).setCell ⟨w.heap.size + 1, 1, none⟩ (.slice A1 (rowF 0 n.toNat).length c1)).setCell ⟨w.heap.size + 1, 2, none⟩ (encStr u.con)).setCell ⟨w.heap.size + 1, 3, none⟩ (.int .i64 u.var)).setCell ⟨w.heap.size + 1, 4, none⟩ (.slice u.A u.args.length u.cap)) := ⟨_, rfl⟩
          have hb8 : WF.heap[w.heap.size + 1]? = some (.cells #[encStr (nameS yc yn), .slice A1 (rowF 0 n.toNat).length c1, encStr u.con, .int .i64 u.var, .slice u.A u.args.length u.cap] 43 (0, 0)) := by
            have := blk_setCell (blk_setCell (blk_setCell (blk_setCell (blk_setCell ((e1.heap (lt_of_obj Bc.out)).trans Bc.out) 0 (encStr (nameS yc yn))) 1 (.slice A1 (rowF 0 n.toNat).length c1)) 2 (encStr u.con)) 3 (.int .i64 u.var)) 4 (.slice u.A u.args.length u.cap)
            rw [hWF]
            simpa [zeroTd] using this
          have hg5 := grown5 y1 (w.heap.size + 1) (encStr (nameS yc yn)) (.slice A1 (rowF 0 n.toNat).length c1) (encStr u.con) (.int .i64 u.var) (.slice u.A u.args.length u.cap)
          rw [← hWF] at hg5
          have hsy := e1.size
          have g1 := hg5.block b6 (by omega) (fun e => by injection e with e; exact r1 e)
          have g2 := hg5.block B (by omega) (fun e => by injection e with e; exact r3 e)
          have hS9 := And.intro ((World.cell?_of_block g1).trans hS1.1) (And.intro ((World.cell?_of_block g1).trans hS1.2.1) (And.intro ((World.cell?_of_block g1).trans hS1.2.2.1) (And.intro ((World.cell?_of_block g2).trans hS1.2.2.2.1) (And.intro ((World.cell?_of_block g2).trans hS1.2.2.2.2.1) ((World.cell?_of_block g2).trans hS1.2.2.2.2.2)))))
          have HR : Hid (PoIn WF ⟨rowF 0 n.toNat, A1, c1, u⟩ ∧ Ext w WF) := hide ⟨⟨hr.le, hr.max, row_grown hr.row hg5 (fun _ a ha e => by injection e with e; have := (hr.new a ha).1; simp at this; omega), ((HT.out.ty.ext e1).grown hg5 (fun c e => by injection e with e; subst e; exact HAu.out))⟩, (XR.out.trans (HT.out.x.trans e1)).grown hg5 (fun c e => by injection e with e; omega)⟩
          have HU := hide HT.out.is
          have m0 := bytes_block hb8 0
          have m1 := bytes_block hb8 1
          have m2 := bytes_block hb8 2
          have m3 := bytes_block hb8 3
          have m4 := bytes_block hb8 4
          simp only [List.getElem?_toArray, List.getElem?_cons_zero, List.getElem?_cons_succ] at m0 m1 m2 m3 m4
          (refine but_takeL (i := 9) (v := ?_) rfl (by kernel_rfl) (by kernel_rfl) (by kernel_rfl) (by kernel_rfl) (fun _ _ _ h => h) (Or.inl ⟨by kernel_rfl, ?_⟩) (by assumption) ?_; rotate_left 1; (focus (intro w hSw; (try dsimp only at hSw); (try obtain ⟨g1, g2, g3⟩ := hSw); (try obtain ⟨g1, g2⟩ := hSw); go_simp; try with_reducible rfl)); simp only [Act.put, List.setIfInBounds_toArray, List.set_cons_zero, List.set_cons_succ])
          (refine but_takeL (i := 10) (v := ?_) rfl (by kernel_rfl) (by kernel_rfl) (by kernel_rfl) (by kernel_rfl) (fun _ _ _ h => h) (Or.inl ⟨by kernel_rfl, ?_⟩) (by assumption) ?_; rotate_left 1; (focus (intro w hSw; (try dsimp only at hSw); (try obtain ⟨g1, g2, g3⟩ := hSw); (try obtain ⟨g1, g2⟩ := hSw); go_simp; try with_reducible rfl)); simp only [Act.put, List.setIfInBounds_toArray, List.set_cons_zero, List.set_cons_succ])
          refine but_step (i := 11) (by kernel_rfl) rfl (fun KK hK => ?_)
          go_simp
          rw [← hWF]
          clear hWF hg5 hb8 g1 g2
          refine hK.out _ _ (fun _ => hS9) ?_
          clear hK KK
          try simp only [Act.put]
          refine but_step (i := 12) (by kernel_rfl) rfl (fun KK hK => ?_)
          go_simp
          refine hK.out _ _ (fun h => absurd rfl h) ?_
          clear hK KK
          try simp only [Act.put]
          refine but_done (by kernel_rfl) ?_ _
          go_wp2
          refine bodyPost_ret (v := .tuple #[.agg #[encStr (nameS yc yn), .slice A1 (rowF 0 n.toNat).length c1, encStr u.con, .int .i64 u.var, .slice u.A u.args.length u.cap], .bool true]) ?_ rfl ⟨⟨nameS yc yn, ⟨rowF 0 n.toNat, A1, c1, u⟩, rfl, ⟨HR.out.1, (fun h => by cases h), fun x h => by injection h with h; subst h; exact ⟨rfl, rfl, HU.out⟩⟩⟩, HR.out.2⟩
          simp [results, Tryz.f12, go_sem, m0, m1, m2, m3, m4]

end Go.Proofs.YtnomibjbjplieaaGreat

/- Contract: two types for all of some variables that are the same; of the reference. -/
namespace Go.Proofs.YtnomibjbjplieaaGreat
open Go.RowKit

set_option maxRecDepth 10000 in
set_option maxHeartbeats 4000000 in
theorem r_psame31 (vs : List Int) (A B : Option Addr) (cp cq : Nat) (t u : Ty) (w : World) (h : PoIn w ⟨vs, A, cp, t⟩) (h' : PoIn w ⟨vs, B, cq, u⟩) (hs : sameB t u = true) :
    Calls Tryz.prog 13 #[poV ⟨vs, A, cp, t⟩, poV ⟨vs, B, cq, u⟩] w fun e w' => e = .returned (.bool true) ∧ Ext w w' := by
  obtain ⟨W, hW⟩ : ∃ W, W = (w.alloc (.cells #[.slice A vs.length cp, encStr t.con, .int .i64 t.var, .slice t.A t.args.length t.cap] 34)).alloc (.cells #[.slice B vs.length cq, encStr u.con, .int .i64 u.var, .slice u.A u.args.length u.cap] 34) := ⟨_, rfl⟩
  have XW : Hid (Ext w W) := hide (by rw [hW]; exact ((Ext.refl _).alloc _).alloc _)
  have HBa : Hid (PBox W w.heap.size ⟨vs, A, cp, t⟩) := hide (by rw [hW]; exact (PBox.new w ⟨vs, A, cp, t⟩).ext ((Ext.refl _).alloc _))
  have HBb : Hid (PBox W (w.heap.size + 1) ⟨vs, B, cq, u⟩) := hide (by rw [hW]; have := PBox.new (w.alloc (.cells #[.slice A vs.length cp, encStr t.con, .int .i64 t.var, .slice t.A t.args.length t.cap] 34)) ⟨vs, B, cq, u⟩; rwa [World.size_alloc] at this)
  have HW := hide hW.symm
  have Hl := hide (fun w' (e : Ext w w') => (h.ext e).row)
  have Hm := hide (fun w' (e : Ext w w') => (h'.ext e).row)
  have HS := hide (r_same16 t u W (h.ty.ext XW.out) (h'.ty.ext XW.out))
  rw [hs] at HS
  have hmx : vs.length ≤ 9223372036854775807 := Nat.le_trans h.le h.max
  obtain ⟨a0, a1, a2, a3⟩ := HBa.out.cells
  obtain ⟨b0, b1, b2, b3⟩ := HBb.out.cells
  clear h h' hW hs
  unfold poV
  unfold tyV at HS
  simp only at a0 a1 a2 a3 b0 b1 b2 b3 Hl Hm
  go_enter Tryz.func13, Tryz.ntmps13
  go_upto_region 1 with fail
  rw [HW.out]
  go_wp2_with fail
  refine HS.out.mono ?_
  rintro e w2 ⟨rfl, hx⟩
  have X2 := hide hx
  clear hx a0 a1 a2 a3 b0 b1 b2 b3
  go_wp2
  go_loopw [5] (fun i wr => ∃ j : Nat, j ≤ vs.length ∧ i = .int .i64 j ∧ Hid (Ext W wr)) (fun i _ => vs.length - (intOf i).toNat)
  case atStart => exact ⟨0, Nat.zero_le _, rfl, X2⟩
  case round =>
    obtain ⟨j, hj, rfl, HX⟩ := hrel
    obtain ⟨a0, -⟩ := (HBa.out.ext HX.out).cells
    obtain ⟨b0, -⟩ := (HBb.out.ext HX.out).cells
    by_cases hlt : j < vs.length
    · have EX := XW.out.trans HX.out
      obtain ⟨b, o, hA, hb, hc⟩ := (Hl.out _ EX).at_ hlt
      obtain ⟨b', o', hB, hb', hc'⟩ := (Hm.out _ EX).at_ hlt
      have hlt' : (j : Int) < (vs.length : Int) := by omega
      have hj0 : (0 : Int) ≤ (j : Int) := by omega
      generalize vs[j]'hlt = y at *
      simp only at a0 b0
      rw [hA] at a0
      rw [hB] at b0
      clear hA hB EX
      go_wp2
      go_quiet (fail)
      go_wp2
      go_roundw
      case rel => exact ⟨j + 1, hlt, by go_num, hide (HX.out.trans (by repeat (first | exact Ext.refl _ | exact Ext.pre (by simp) | exact Ext.alloc (by assumption) _ | refine Ext.alloc ?_ _ |  refine Ext.more ?_ _ _ | refine Ext.drew ?_ | refine Ext.drewN ?_ _)))⟩
      case measure => simp [intOf]; omega
    · have hge : (vs.length : Int) ≤ (j : Int) := by omega
      simp only at a0 b0
      go_wp2
      go_ret
      exact ⟨rfl, XW.out.trans HX.out⟩

end Go.Proofs.YtnomibjbjplieaaGreat

/- The law FsigsNames, walked. (A program of ours has printed this.) -/
namespace Go.Proofs.YtnomibjbjplieaaGreat
open Go.RowKit

theorem psame_any (p q : Po) (w : World) (h : PoIn w p) (h' : PoIn w q) (hv : p.vars = q.vars) (ht : p.ty.pure = q.ty.pure) : Calls Tryz.prog 13 #[poV p, poV q] w fun e w' => e = .returned (.bool true) ∧ Ext w w' := by
  obtain ⟨v1, A1, c1, t1⟩ := p
  obtain ⟨v2, A2, c2, t2⟩ := q
  have hv : v1 = v2 := hv
  subst hv
  exact r_psame31 v1 A1 A2 c1 c2 t1 t2 w h h' (sameB_iff.2 ht)
theorem CloseIs.same {keep : List Int} {t : Ty} {l : List Pd} {a b : Sc} (h : CloseIs keep t l a) (h' : CloseIs keep t l b) : a.n = b.n ∧ a.ty.pure = b.ty.pure ∧ a.preds.map (fun d => (d.cls, d.ty.pure)) = b.preds.map (fun d => (d.cls, d.ty.pure)) := by
  cases hb : (legalT t && l.all pdB)
  · obtain ⟨a1, a2, a3⟩ := h.no hb
    obtain ⟨b1, b2, b3⟩ := h'.no hb
    exact ⟨a1.trans b1.symm, a3.trans b3.symm, by rw [a2, b2]⟩
  · exact ⟨(h.n hb).trans (h'.n hb).symm, (h.ty hb).trans (h'.ty hb).symm, (h.ps hb).trans (h'.ps hb).symm⟩
theorem MethOk.same {w1 w2 : World} {cls : List KlD} {F : Option (Nat × Nat)} {nm nm' : Str} {ix ix' : Int} {a b : Sc} (h : MethOk w1 cls F nm ix a) (h' : MethOk w2 cls F nm' ix' b) :
    nm' = nm ∧ ix' = ix ∧ a.n = b.n ∧ a.ty.pure = b.ty.pure ∧ a.preds.map (fun d => (d.cls, d.ty.pure)) = b.preds.map (fun d => (d.cls, d.ty.pure)) := by
  cases F with
  | none =>
    obtain ⟨rfl, rfl, rfl⟩ := h.no rfl
    obtain ⟨rfl, rfl, rfl⟩ := h'.no rfl
    exact ⟨rfl, rfl, rfl, rfl, rfl⟩
  | some ik =>
    obtain ⟨i, k⟩ := ik
    obtain ⟨c, m, hc, hm, rfl, rfl, hcl⟩ := h.yes i k rfl
    obtain ⟨c', m', hc', hm', rfl, rfl, hcl'⟩ := h'.yes i k rfl
    rw [hc] at hc'
    injection hc' with hc'
    subst hc'
    rw [hm] at hm'
    injection hm' with hm'
    subst hm'
    exact ⟨rfl, rfl, hcl.same hcl'⟩
theorem InstOk.same {w1 w2 : World} {F : Option InD} {nm nm' : Str} {p q : Po} (h : InstOk w1 F nm p) (h' : InstOk w2 F nm' q) : nm' = nm ∧ p.vars = q.vars ∧ p.ty.pure = q.ty.pure := by
  cases F with
  | none =>
    obtain ⟨rfl, rfl⟩ := h.no rfl
    obtain ⟨rfl, rfl⟩ := h'.no rfl
    exact ⟨rfl, rfl, rfl⟩
  | some x =>
    obtain ⟨rfl, h2, h3⟩ := h.yes x rfl
    obtain ⟨rfl, h5, h6⟩ := h'.yes x rfl
    exact ⟨rfl, h2.trans h5.symm, h3.trans h6.symm⟩

set_option maxRecDepth 10000 in
set_option maxHeartbeats 2000000 in
theorem law_names (x : EnD) (name : Str) (i : Int) (w : World) (h : EnIn w x) (hms : ∀ c ∈ x.classes, c.meths.length ≤ 2000000000000) (hn : name.length ≤ 140737488351232) :
    Calls Tryz.prog 3 #[enV x, encStr name, .int .i64 i] w fun e w' => e = .returned (.bool true) ∧ Ext w w' := by
  have HAw := hide l_awake33
  obtain ⟨W, hW⟩ : ∃ W, W = w.alloc (.cells #[.slice x.D x.datas.length x.dc, .slice x.C x.classes.length x.cc, .slice x.I x.insts.length x.ic] 26) := ⟨_, rfl⟩
  have HW := hide hW.symm
  have X0 : Hid (Ext w W) := hide (by rw [hW]; exact (Ext.refl _).alloc _)
  have B1 : Hid (EnBox W w.heap.size x) := hide (by rw [hW]; exact EnBox.new w x)
  have HFw := hide (l_few33 x W (h.ext X0.out) hms)
  have HP1 := hide (fun w' => hide (f_prim name w'))
  have HP2 := hide (fun w' => hide (r_prim33 name w'))
  have HM1 := hide (fun (hf : EnFew x) w' (e : Ext W w') => hide (f_method x name w' (h.ext (X0.out.trans e)) hf.klFew))
  have HM2 := hide (fun (hf : EnFew x) w' (e : Ext W w') => hide (r_method33 x name w' (h.ext (X0.out.trans e)) hf.klFew))
  have HI1 := hide (fun (hf : EnFew x) w' (e : Ext W w') => hide (f_inst x i w' (h.ext (X0.out.trans e)) hf.pds))
  have HI2 := hide (fun (hf : EnFew x) w' (e : Ext W w') => hide (r_inst33 x i w' (h.ext (X0.out.trans e)) hf.pds))
  have HN1 := hide (fun w' => hide (f_name name name w' (by omega) (by omega)))
  have HN2 := hide (fun w' => hide (r_name33 name name w' (by omega) (by omega)))
  have HEn : Hid (∀ w', Ext W w' → w'.cell? ⟨w.heap.size, 0, none⟩ = some (.slice x.D x.datas.length x.dc) ∧ w'.cell? ⟨w.heap.size, 1, none⟩ = some (.slice x.C x.classes.length x.cc) ∧ w'.cell? ⟨w.heap.size, 2, none⟩ = some (.slice x.I x.insts.length x.ic) ∧ w.heap.size < w'.heap.size) := hide (fun w' e => by
    have hb := B1.out.ext e
    exact ⟨hb.cells.1, hb.cells.2.1, hb.cells.2.2, hb.lt⟩)
  generalize primTo name = FP at *
  generalize methF name 0 x.classes = FM at *
  generalize instF x.insts i = FI at *
  generalize nameS name name = NN at *
  generalize hb1 : FP.isSome = z1 at *
  generalize hb2 : FM.isSome = z2 at *
  generalize hb3 : FI.isSome = z3 at *
  have q1 : (z1 == z1) = true := by simp
  have q2 : (z2 == z2) = true := by simp
  have q3 : (z3 == z3) = true := by simp
  have q4 : (NN == NN) = true := by simp
  clear hb1 hb2 hb3 h hW hms hn B1
  unfold enV poV scV at *
  obtain ⟨a0, a1, a2, hb0⟩ := HEn.out W (Ext.refl _)
  go_enter Tryz.func3, Tryz.ntmps3
  go_upto_region 1 with fail
  rw [HW.out]
  clear HW
  go_wp2_with fail
  refine HFw.out.mono ?_
  rintro e v0 ⟨⟨r, rfl, hr⟩, hx⟩
  have Y0 : Hid (Ext W v0) := hide hx
  clear hx HFw a0 a1 a2 hb0
  rcases hr with rfl | ⟨rfl, hf⟩
  · go_wp2_with fail
    refine (HAw.out v0).mono ?_
    rintro e w3 ⟨rfl, hx⟩
    go_wp2
    go_ret
    exact ⟨rfl, X0.out.trans (Y0.out.trans hx)⟩
  have HF := hide hf
  clear hf
  go_wp2_with fail
  refine (HP1.out _).out.mono ?_
  rintro e v1 ⟨⟨p, rfl, hp⟩, hx⟩
  have XX1 := hide hx
  have Y1 : Hid (Ext W v1) := hide (Y0.out.trans hx)
  have Op := hide hp
  clear hx hp HP1
  obtain ⟨W1, hW1⟩ : ∃ W', W' = v1.alloc (.cells #[.slice p.A p.vars.length p.cap, encStr p.ty.con, .int .i64 p.ty.var, .slice p.ty.A p.ty.args.length p.ty.cap] 34) := ⟨_, rfl⟩
  have XA1 : Hid (Ext v1 W1) := hide (by rw [hW1]; exact (Ext.refl _).alloc _)
  have Bp : Hid (PBox W1 v1.heap.size p) := hide (by rw [hW1]; exact at_newB _ _ _ rfl)
  have Z1 : Hid (Ext W W1) := hide (Y1.out.trans XA1.out)
  go_upto_region 4 with fail
  rw [← hW1]
  clear hW1
  go_wp2_with fail
  refine (HP2.out _).out.mono ?_
  rintro e v2 ⟨⟨q, rfl, hq⟩, hx⟩
  have XX2 := hide hx
  have Y2 : Hid (Ext W v2) := hide (Z1.out.trans hx)
  have Oq := hide hq
  clear hx hq HP2
  obtain ⟨W2, hW2⟩ : ∃ W', W' = v2.alloc (.cells #[.slice q.A q.vars.length q.cap, encStr q.ty.con, .int .i64 q.ty.var, .slice q.ty.A q.ty.args.length q.ty.cap] 34) := ⟨_, rfl⟩
  have XA2 : Hid (Ext v2 W2) := hide (by rw [hW2]; exact (Ext.refl _).alloc _)
  have Bq : Hid (PBox W2 v2.heap.size q) := hide (by rw [hW2]; exact at_newB _ _ _ rfl)
  have Z2 : Hid (Ext W W2) := hide (Y2.out.trans XA2.out)
  go_upto_region 5 with fail
  rw [← hW2]
  clear hW2
  obtain ⟨a0, a1, a2, hb0⟩ := HEn.out _ Z2.out
  go_wp2_with fail
  refine (HM1.out HF.out _ Z2.out).out.mono ?_
  rintro e v3 ⟨⟨ns, js, s, rfl, hs⟩, hx⟩
  have XX3 := hide hx
  have Y3 : Hid (Ext W v3) := hide (Z2.out.trans hx)
  clear a0 a1 a2 hb0
  have Os := hide hs
  clear hx hs HM1
  obtain ⟨W3, hW3⟩ : ∃ W', W' = v3.alloc (.cells #[.int .i64 s.n, .slice s.A s.preds.length s.cap, encStr s.ty.con, .int .i64 s.ty.var, .slice s.ty.A s.ty.args.length s.ty.cap] 39) := ⟨_, rfl⟩
  have XA3 : Hid (Ext v3 W3) := hide (by rw [hW3]; exact (Ext.refl _).alloc _)
  have Bs : Hid (ScBox W3 v3.heap.size s) := hide (by rw [hW3]; exact at_newB _ _ _ rfl)
  have Z3 : Hid (Ext W W3) := hide (Y3.out.trans XA3.out)
  go_upto_region 6 with fail
  rw [← hW3]
  clear hW3
  obtain ⟨a0, a1, a2, hb0⟩ := HEn.out _ Z3.out
  go_wp2_with fail
  refine (HM2.out HF.out _ Z3.out).out.mono ?_
  rintro e v4 ⟨⟨nt, jt, t, rfl, ht⟩, hx⟩
  have XX4 := hide hx
  have Y4 : Hid (Ext W v4) := hide (Z3.out.trans hx)
  clear a0 a1 a2 hb0
  have Ot := hide ht
  clear hx ht HM2
  obtain ⟨en, ei, en2, et2, ep2⟩ := Os.out.same Ot.out
  have E2 := hide (And.intro en2 (And.intro et2 ep2))
  subst en ei
  clear en2 et2 ep2
  obtain ⟨W4, hW4⟩ : ∃ W', W' = v4.alloc (.cells #[.int .i64 t.n, .slice t.A t.preds.length t.cap, encStr t.ty.con, .int .i64 t.ty.var, .slice t.ty.A t.ty.args.length t.ty.cap] 39) := ⟨_, rfl⟩
  have XA4 : Hid (Ext v4 W4) := hide (by rw [hW4]; exact (Ext.refl _).alloc _)
  have Bt : Hid (ScBox W4 v4.heap.size t) := hide (by rw [hW4]; exact at_newB _ _ _ rfl)
  have Z4 : Hid (Ext W W4) := hide (Y4.out.trans XA4.out)
  go_upto_region 7 with fail
  rw [← hW4]
  clear hW4
  obtain ⟨a0, a1, a2, hb0⟩ := HEn.out _ Z4.out
  go_wp2_with fail
  refine (HI1.out HF.out _ Z4.out).out.mono ?_
  rintro e v5 ⟨⟨ny, y, rfl, hy⟩, hx⟩
  have XX5 := hide hx
  have Y5 : Hid (Ext W v5) := hide (Z4.out.trans hx)
  clear a0 a1 a2 hb0
  have Oy := hide hy
  clear hx hy HI1
  obtain ⟨W5, hW5⟩ : ∃ W', W' = v5.alloc (.cells #[encStr ny, .slice y.A y.vars.length y.cap, encStr y.ty.con, .int .i64 y.ty.var, .slice y.ty.A y.ty.args.length y.ty.cap] 43) := ⟨_, rfl⟩
  have XA5 : Hid (Ext v5 W5) := hide (by rw [hW5]; exact (Ext.refl _).alloc _)
  have By : Hid (TdBox W5 v5.heap.size ny y) := hide (by rw [hW5]; exact at_newB _ _ _ rfl)
  have Z5 : Hid (Ext W W5) := hide (Y5.out.trans XA5.out)
  go_upto_region 8 with fail
  rw [← hW5]
  clear hW5
  obtain ⟨a0, a1, a2, hb0⟩ := HEn.out _ Z5.out
  go_wp2_with fail
  refine (HI2.out HF.out _ Z5.out).out.mono ?_
  rintro e v6 ⟨⟨nz, z, rfl, hz⟩, hx⟩
  have XX6 := hide hx
  have Y6 : Hid (Ext W v6) := hide (Z5.out.trans hx)
  clear a0 a1 a2 hb0
  have Oz := hide hz
  clear hx hz HI2
  obtain ⟨en, ev2, et2⟩ := Oy.out.same Oz.out
  have E3 := hide (And.intro ev2 et2)
  subst en
  clear ev2 et2
  obtain ⟨W6, hW6⟩ : ∃ W', W' = v6.alloc (.cells #[encStr nz, .slice z.A z.vars.length z.cap, encStr z.ty.con, .int .i64 z.ty.var, .slice z.ty.A z.ty.args.length z.ty.cap] 43) := ⟨_, rfl⟩
  have XA6 : Hid (Ext v6 W6) := hide (by rw [hW6]; exact (Ext.refl _).alloc _)
  have Bz : Hid (TdBox W6 v6.heap.size nz z) := hide (by rw [hW6]; exact at_newB _ _ _ rfl)
  have Z6 : Hid (Ext W W6) := hide (Y6.out.trans XA6.out)
  go_upto_region 9 with fail
  rw [← hW6]
  clear hW6
  have G5 : Hid (Ext W5 W6) := hide (XX6.out.trans XA6.out)
  have G4 : Hid (Ext W4 W6) := hide (XX5.out.trans (XA5.out.trans G5.out))
  have G3 : Hid (Ext W3 W6) := hide (XX4.out.trans (XA4.out.trans G4.out))
  have G2 : Hid (Ext W2 W6) := hide (XX3.out.trans (XA3.out.trans G3.out))
  have G1 : Hid (Ext W1 W6) := hide (XX2.out.trans (XA2.out.trans G2.out))
  have Cp := hide (fun w' (e : Ext W6 w') => (Bp.out.ext (G1.out.trans e)))
  have Cq := hide (fun w' (e : Ext W6 w') => (Bq.out.ext (G2.out.trans e)))
  have Cs := hide (fun w' (e : Ext W6 w') => (Bs.out.ext (G3.out.trans e)))
  have Ct := hide (fun w' (e : Ext W6 w') => (Bt.out.ext (G4.out.trans e)))
  have Cy := hide (fun w' (e : Ext W6 w') => (By.out.ext (G5.out.trans e)))
  have Cz := hide (fun w' (e : Ext W6 w') => (Bz.out.ext ((Ext.refl W6).trans e)))
  have T1 := hide (fun w' (e : Ext W6 w') => hide (psame_any p q w' (Op.out.po.ext (XA1.out.trans (G1.out.trans e))) (Oq.out.po.ext (XA2.out.trans (G2.out.trans e))) (Op.out.vars.trans Oq.out.vars.symm) (Op.out.ty.trans Oq.out.ty.symm)))
  have T2 := hide (fun w' (e : Ext W6 w') => hide (r_just21 s t w' (Os.out.inn.ext (XA3.out.trans (G3.out.trans e))) (Ot.out.inn.ext (XA4.out.trans (G4.out.trans e))) E2.out.1 E2.out.2.1 E2.out.2.2))
  have T3 := hide (fun w' (e : Ext W6 w') => hide (psame_any y z w' (Oy.out.po.ext (XA5.out.trans (G5.out.trans e))) (Oz.out.po.ext (XA6.out.trans e)) E3.out.1 E3.out.2))
  unfold poV at T1 T3
  unfold scV at T2
  clear Bp Bq Bs Bt By Bz Op Oq Os Ot Oy Oz E2 E3 XX1 XX2 XX3 XX4 XX5 XX6 XA1 XA2 XA3 XA4 XA5 XA6 Y0 Y1 Y2 Y3 Y4 Y5 Y6 Z1 Z2 Z3 Z4 Z5 G1 G2 G3 G4 G5 HEn HF
  have q5 : (nt == nt) = true := by simp
  have q6 : (jt == jt) = true := by simp
  have q7 : (nz == nz) = true := by simp
  obtain ⟨cu0, cu1, cu2, cu3⟩ := (Cp.out _ (Ext.refl W6)).cells
  have hlcu := (Cp.out _ (Ext.refl W6)).lt
  obtain ⟨cv0, cv1, cv2, cv3⟩ := (Cq.out _ (Ext.refl W6)).cells
  have hlcv := (Cq.out _ (Ext.refl W6)).lt
  go_wp2_with fail
  refine (T1.out _ (Ext.refl W6)).out.mono ?_
  rintro e r0 ⟨rfl, hx⟩
  have R0 : Hid (Ext W6 r0) := hide ((Ext.refl W6).trans hx)
  clear hx cu0 cv0 cu1 cv1 cu2 cv2 cu3 cv3 hlcu hlcv
  obtain ⟨cu0, cu1, cu2, cu3, cu4⟩ := (Cs.out _ R0.out).cells
  have hlcu := (Cs.out _ R0.out).lt
  obtain ⟨cv0, cv1, cv2, cv3, cv4⟩ := (Ct.out _ R0.out).cells
  have hlcv := (Ct.out _ R0.out).lt
  go_wp2_with fail
  refine (T2.out _ R0.out).out.mono ?_
  rintro e r1 ⟨rfl, hx⟩
  have R1 : Hid (Ext W6 r1) := hide (R0.out.trans hx)
  clear hx cu0 cv0 cu1 cv1 cu2 cv2 cu3 cv3 cu4 cv4 hlcu hlcv
  obtain ⟨cu0, cu1, cu2, cu3, cu4⟩ := (Cy.out _ R1.out).cells
  have hlcu := (Cy.out _ R1.out).lt
  obtain ⟨cv0, cv1, cv2, cv3, cv4⟩ := (Cz.out _ R1.out).cells
  have hlcv := (Cz.out _ R1.out).lt
  go_wp2_with fail
  refine (T3.out _ R1.out).out.mono ?_
  rintro e r2 ⟨rfl, hx⟩
  have R2 : Hid (Ext W6 r2) := hide (R1.out.trans hx)
  clear hx cu0 cv0 cu1 cv1 cu2 cv2 cu3 cv3 cu4 cv4 hlcu hlcv
  go_wp2_with fail
  refine (HN1.out _).out.mono ?_
  rintro e r3 ⟨rfl, rfl⟩
  go_wp2_with fail
  refine (HN2.out _).out.mono ?_
  rintro e r4 ⟨rfl, rfl⟩
  go_wp2_with fail
  refine (HAw.out _).mono ?_
  rintro e r5 ⟨rfl, hx⟩
  go_wp2
  go_ret
  exact ⟨rfl, X0.out.trans (Z6.out.trans (R2.out.trans hx))⟩

end Go.Proofs.YtnomibjbjplieaaGreat
