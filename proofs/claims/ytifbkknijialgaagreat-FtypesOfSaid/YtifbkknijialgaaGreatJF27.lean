/- Contract: is a scheme not too great? -/
import Derived.Test.YtifbkknijialgaaGreatJF26
import Derived.WalkSpells
import Derived.WalkLawsBesides
import Derived.Deep.QuietTactic
import Derived.BigQuiet
/- Contract: is a scheme not too great? -/
namespace Go.Proofs.YtifbkknijialgaaGreat
open Go.RowKit

set_option maxRecDepth 10000 in
set_option maxHeartbeats 4000000 in
theorem l_few21 (s : Sc) (w : World) (h : ScIn w s) : Calls Tryz.prog 8 #[scV s] w fun e w' => (∃ r : Int, e = .returned (.int .i64 r) ∧ (r = 0 ∨ (r = 1 ∧ s.preds.length ≤ 6 ∧ s.n ≤ 5000 ∧ s.ty.size + psz s.preds ≤ 20000))) ∧ Ext w w' := by
  obtain ⟨i1, hj, hy0, hy1, hy2⟩ := info_parts ty_info3
  obtain ⟨W, hW⟩ : ∃ W, W = w.alloc (.cells #[.int .i64 s.n, .slice s.A s.preds.length s.cap, encStr s.ty.con, .int .i64 s.ty.var, .slice s.ty.A s.ty.args.length s.ty.cap] 27) := ⟨_, rfl⟩
  have HW := hide hW.symm
  have X0 : Hid (Ext w W) := hide (by rw [hW]; exact (Ext.refl _).alloc _)
  have B1 : Hid (ScBox W w.heap.size s) := hide (by rw [hW]; exact ScBox.new w s)
  have H := hide h
  have HP : Hid (tsizes (s.ty :: s.preds.map Pd.ty) = s.ty.size + psz s.preds) := hide (by unfold tsizes psz; simp [Function.comp_def])
  have hmx := h.max
  have hle := h.le
  obtain ⟨c0, c1, c2, c3, c4⟩ := B1.out.cells
  clear h hW
  unfold scV
  by_cases hn : (s.preds.length : Int) > 6
  · go_enter Tryz.func8, Tryz.ntmps8
    go_upto_region 1 with fail
    rw [HW.out]
    go_wp2
    go_ret
    exact ⟨⟨0, rfl, .inl rfl⟩, X0.out⟩
  by_cases hn2 : s.n > 5000
  · go_enter Tryz.func8, Tryz.ntmps8
    go_upto_region 1 with fail
    rw [HW.out]
    go_wp2
    go_ret
    exact ⟨⟨0, rfl, .inl rfl⟩, X0.out⟩
  obtain ⟨W1, hW1⟩ : ∃ W1, W1 = W.alloc (.cells #[encStr s.ty.con, .int .i64 s.ty.var, .slice s.ty.A s.ty.args.length s.ty.cap] 25) := ⟨_, rfl⟩
  have HW1 := hide hW1.symm
  have E1 : Ext W W1 := by rw [hW1]; exact (Ext.refl _).alloc _
  have X1 := hide E1
  have O0 : Hid (W1.ownsRow W.heap.size 25 3 (.slice (some ⟨W.heap.size, 0, none⟩) 1 1) (s.ty :: (s.preds.take 0).map Pd.ty).length ((s.ty :: (s.preds.take 0).map Pd.ty).flatMap tyC.f)) := hide (by
    have := World.ownsRow_lit (base := W.heap.size) (e := 25) (size := 3) W #[encStr s.ty.con, .int .i64 s.ty.var, .slice s.ty.A s.ty.args.length s.ty.cap] 1 (Nat.le_refl _) (by unfold maxLen; omega) rfl
    rw [hW1]
    exact this)
  clear E1 hW1
  go_enter Tryz.func8, Tryz.ntmps8
  go_upto_region 1 with fail
  rw [HW.out]
  go_upto_region 4 with fail
  rw [HW1.out]
  clear c0 c1 c2 c3 c4
  go_wp2
  go_loopw [3, 4] (fun v i wr => ∃ k : Nat, k ≤ s.preds.length ∧ i = .int .i64 k ∧ Hid (Ext W wr) ∧ Hid (wr.ownsRow W.heap.size 25 3 v (s.ty :: (s.preds.take k).map Pd.ty).length ((s.ty :: (s.preds.take k).map Pd.ty).flatMap tyC.f))) (fun _ i _ => s.preds.length - (intOf i).toNat)
  case atStart => exact ⟨0, Nat.zero_le _, rfl, X1, O0⟩
  case round =>
    obtain ⟨k, hk, rfl, HX, HO⟩ := hrel
    have XR := hide (X0.out.trans HX.out)
    obtain ⟨c0, c1, -, -, -⟩ := (B1.out.ext HX.out).cells
    by_cases hlt : k < s.preds.length
    · have hlt' : (k : Int) < (s.preds.length : Int) := by omega
      have hk0 : (0 : Int) ≤ (k : Int) := by omega
      obtain ⟨b, o, hA, hb, q0, q1, q2, q3⟩ := (H.out.row.ext XR.out).at_ hlt
      have Htk : Hid (s.ty :: (s.preds.take (k + 1)).map Pd.ty = (s.ty :: (s.preds.take k).map Pd.ty) ++ [(s.preds[k]'hlt).ty]) := hide (by rw [List.take_succ_eq_append_getElem hlt, List.map_append]; rfl)
      have Hln : Hid ((s.ty :: (s.preds.take k).map Pd.ty).length = 1 + k) := hide (by simp; omega)
      generalize s.preds[k]'hlt = x at *
      generalize s.ty :: (s.preds.take k).map Pd.ty = L at *
      have hLk : L.length ≤ 10 := by rw [Hln.out]; omega
      obtain ⟨A6, c6, rfl, -, -, -, -⟩ := RowOf.own tyC (l := L) HO.out
      have hszB := HX.out.size
      rw [hA] at c1
      clear hA
      go_wp2_with (at_builtin; refine wpList_append_row _ rfl _ _ 23 rfl W.heap.size 25 i1 _ 3 48 Tryz.underlying23 hj hy0 hy1 hy2 rfl (by decide) (.slice A6 L.length c6) L.length (L.flatMap tyC.f) rfl (HO.out.alloc _) _ 1 1 [encStr x.ty.con, .int .i64 x.ty.var, .slice x.ty.A x.ty.args.length x.ty.cap] rfl ?c2 ?c3 ?c4 ?c5 ?c6 ?_)
      case c2 => exact Row.ty3 _ _ _ (at_newB _ _ _ rfl)
      case c3 =>
        intro y hy
        simp at hy
        rcases hy with rfl | rfl | rfl <;> rfl
      case c4 => unfold maxLen; omega
      case c5 => omega
      case c6 => simp; omega
      intro v4 w4 hown4 hg4 hat4
      have X4 := hide (Ext.app (HX.out.alloc _) hg4 (HO.out.alloc _) (Nat.le_refl _))
      have O4 : Hid (w4.ownsRow W.heap.size 25 3 v4 (s.ty :: (s.preds.take (k + 1)).map Pd.ty).length ((s.ty :: (s.preds.take (k + 1)).map Pd.ty).flatMap tyC.f)) := hide (by rw [Htk.out, flat_snoc, List.length_append]; exact hown4)
      clear hown4 hg4 hat4
      go_wp2
      go_roundw
      case rel => exact ⟨k + 1, hlt, by go_num, X4, O4⟩
      case measure => simp [intOf]; omega
    · have hge : ¬ (k : Int) < (s.preds.length : Int) := by omega
      have HO2 : Hid (wr.ownsRow W.heap.size 25 3 u3 (s.ty :: s.preds.map Pd.ty).length ((s.ty :: s.preds.map Pd.ty).flatMap tyC.f)) := hide (by have := HO.out; rwa [List.take_of_length_le (by omega)] at this)
      have hL : (s.ty :: s.preds.map Pd.ty).length ≤ 10 := by simp; omega
      have hTs : ∀ t ∈ s.ty :: s.preds.map Pd.ty, TyIn wr t := by
        intro t ht
        rcases List.mem_cons.1 ht with rfl | ht
        · exact H.out.ty.ext XR.out
        · obtain ⟨p, hp, rfl⟩ := List.mem_map.1 ht
          exact (H.out.row.all p hp).ty.ext XR.out
      generalize s.ty :: s.preds.map Pd.ty = L at *
      obtain ⟨A6, c6, rfl, d1, d2, d3, -⟩ := RowOf.own tyC (l := L) HO2.out
      have HF := hide (l_few16 A6 c6 L wr ⟨d3, hTs⟩ (by omega))
      clear hTs d3
      go_wp2_with fail
      refine HF.out.mono ?_
      rintro e w5 ⟨⟨r, rfl, hr⟩, hx⟩
      have HR : Hid (r = 0 ∨ (r = 1 ∧ s.preds.length ≤ 6 ∧ s.n ≤ 5000 ∧ s.ty.size + psz s.preds ≤ 20000)) := hide (by
        rcases hr with rfl | ⟨rfl, hsz, -⟩
        · exact .inl rfl
        · exact .inr ⟨rfl, by omega, by omega, by rw [← HP.out]; exact hsz⟩)
      clear hr
      go_wp2
      go_ret
      exact ⟨⟨r, rfl, HR.out⟩, XR.out.trans hx⟩

end Go.Proofs.YtifbkknijialgaaGreat

/- Contract: two types for all of some variables that are the same; of the reference. -/
namespace Go.Proofs.YtifbkknijialgaaGreat
open Go.RowKit

set_option maxRecDepth 10000 in
set_option maxHeartbeats 4000000 in
theorem r_psame31 (vs : List Int) (A B : Option Addr) (cp cq : Nat) (t u : Ty) (w : World) (h : PoIn w ⟨vs, A, cp, t⟩) (h' : PoIn w ⟨vs, B, cq, u⟩) (hs : sameB t u = true) :
    Calls Tryz.prog 12 #[poV ⟨vs, A, cp, t⟩, poV ⟨vs, B, cq, u⟩] w fun e w' => e = .returned (.bool true) ∧ Ext w w' := by
  obtain ⟨W, hW⟩ : ∃ W, W = (w.alloc (.cells #[.slice A vs.length cp, encStr t.con, .int .i64 t.var, .slice t.A t.args.length t.cap] 32)).alloc (.cells #[.slice B vs.length cq, encStr u.con, .int .i64 u.var, .slice u.A u.args.length u.cap] 32) := ⟨_, rfl⟩
  have XW : Hid (Ext w W) := hide (by rw [hW]; exact ((Ext.refl _).alloc _).alloc _)
  have HBa : Hid (PBox W w.heap.size ⟨vs, A, cp, t⟩) := hide (by rw [hW]; exact (PBox.new w ⟨vs, A, cp, t⟩).ext ((Ext.refl _).alloc _))
  have HBb : Hid (PBox W (w.heap.size + 1) ⟨vs, B, cq, u⟩) := hide (by rw [hW]; have := PBox.new (w.alloc (.cells #[.slice A vs.length cp, encStr t.con, .int .i64 t.var, .slice t.A t.args.length t.cap] 32)) ⟨vs, B, cq, u⟩; rwa [World.size_alloc] at this)
  have HW := hide hW.symm
  have Hl := hide (fun w' (e : Ext w w') => (h.ext e).row)
  have Hm := hide (fun w' (e : Ext w w') => (h'.ext e).row)
  have HS := hide (r_same16 t u W (h.ty.ext XW.out) (h'.ty.ext XW.out))
  rw [hs] at HS
  have hmx : vs.length ≤ 9223372036854775807 := Nat.le_trans h.le h.max
  obtain ⟨a0, a1, a2, a3⟩ := HBa.out.cells
  obtain ⟨b0, b1, b2, b3⟩ := HBb.out.cells
  clear h h' hW hs
  unfold poV
  unfold tyV at HS
  simp only at a0 a1 a2 a3 b0 b1 b2 b3 Hl Hm
  go_enter Tryz.func12, Tryz.ntmps12
  go_upto_region 1 with fail
  rw [HW.out]
  go_wp2_with fail
  refine HS.out.mono ?_
  rintro e w2 ⟨rfl, hx⟩
  have X2 := hide hx
  clear hx a0 a1 a2 a3 b0 b1 b2 b3
  go_wp2
  go_loopw [5] (fun i wr => ∃ j : Nat, j ≤ vs.length ∧ i = .int .i64 j ∧ Hid (Ext W wr)) (fun i _ => vs.length - (intOf i).toNat)
  case atStart => exact ⟨0, Nat.zero_le _, rfl, X2⟩
  case round =>
    obtain ⟨j, hj, rfl, HX⟩ := hrel
    obtain ⟨a0, -⟩ := (HBa.out.ext HX.out).cells
    obtain ⟨b0, -⟩ := (HBb.out.ext HX.out).cells
    by_cases hlt : j < vs.length
    · have EX := XW.out.trans HX.out
      obtain ⟨b, o, hA, hb, hc⟩ := (Hl.out _ EX).at_ hlt
      obtain ⟨b', o', hB, hb', hc'⟩ := (Hm.out _ EX).at_ hlt
      have hlt' : (j : Int) < (vs.length : Int) := by omega
      have hj0 : (0 : Int) ≤ (j : Int) := by omega
      generalize vs[j]'hlt = y at *
      simp only at a0 b0
      rw [hA] at a0
      rw [hB] at b0
      clear hA hB EX
      go_wp2
      go_quiet (fail)
      go_wp2
      go_roundw
      case rel => exact ⟨j + 1, hlt, by go_num, hide (HX.out.trans (by repeat (first | exact Ext.refl _ | exact Ext.pre (by simp) | exact Ext.alloc (by assumption) _ | refine Ext.alloc ?_ _ |  refine Ext.more ?_ _ _ | refine Ext.drew ?_ | refine Ext.drewN ?_ _)))⟩
      case measure => simp [intOf]; omega
    · have hge : (vs.length : Int) ≤ (j : Int) := by omega
      simp only at a0 b0
      go_wp2
      go_ret
      exact ⟨rfl, XW.out.trans HX.out⟩

end Go.Proofs.YtifbkknijialgaaGreat

/- Contract: a scheme's type; of the reference. -/
namespace Go.Proofs.YtifbkknijialgaaGreat
open Go.RowKit

set_option maxRecDepth 10000 in
set_option maxHeartbeats 1000000 in
theorem r_row31 (m : Nat) (w : World) (hm : m ≤ 5000) : Calls Tryz.prog 46 #[.int .i64 0, .int .i64 (m : Int)] w fun e w' => (∃ v, e = .returned v ∧ w'.ownsRow w.heap.size 3 1 v (rangeI m).length ((rangeI m).map (Value.int .i64))) ∧ Ext w w' := by
  obtain ⟨i0, hi, hz0, hz1, hz2⟩ := info_parts int64_info
  go_enter Tryz.func46, Tryz.ntmps46
  go_wp2
  go_loopw [5, 6] (fun u i wr => ∃ k : Nat, k ≤ m ∧ i = .int .i64 k ∧ Hid (Ext w wr) ∧ Hid (wr.ownsRow w.heap.size 3 1 u k ((rangeI k).map (Value.int .i64)))) (fun _ i _ => m - (intOf i).toNat)
  case atStart => exact ⟨0, Nat.zero_le _, rfl, hide (Ext.refl _), hide (World.ownsRow_nil _ _ _ _)⟩
  case round =>
    obtain ⟨k, hk, rfl, HX, HO⟩ := hrel
    by_cases hlt : k < m
    · have hlt' : (k : Int) < (m : Int) := by omega
      have hk0 : (0 : Int) ≤ (k : Int) := by omega
      have Hrk := hide (rangeI_succ k)
      generalize rangeI k = L at *
      go_wp2_with (at_builtin; refine wpList_append_row _ rfl _ _ 30 rfl w.heap.size 3 i0 _ 1 8 Tryz.underlying30 hi hz0 hz1 hz2 rfl (by decide) u5 k (L.map (Value.int .i64)) rfl (HO.out.alloc _) _ 1 1 [.int .i64 (k : Int)] rfl ?c2 ?c3 ?c4 ?c5 ?c6 ?_)
      case c2 => exact Row.boxI _ (at_newB _ _ _ (by simp))
      case c3 => first | rfl | (intro y hy; simp at hy; subst hy; rfl)
      case c4 => unfold maxLen; omega
      case c5 => omega
      case c6 => have := HX.out.size; simp; omega
      intro v4 w4 hown4 hg4 _
      have X4 := hide (Ext.app (HX.out.alloc _) hg4 (HO.out.alloc _) (Nat.le_refl _))
      have O4 : Hid (w4.ownsRow w.heap.size 3 1 v4 (k + 1) ((rangeI (k + 1)).map (Value.int .i64))) := hide (by rw [Hrk.out, List.map_append]; exact hown4)
      clear hown4 hg4
      go_wp2
      go_roundw
      case rel => exact ⟨k + 1, hlt, by go_num, X4, O4⟩
      case measure => simp [intOf]; omega
    · have hge : ¬ (k : Int) < (m : Int) := by omega
      have hkm : k = m := by omega
      have HO2 : Hid (wr.ownsRow w.heap.size 3 1 u5 (rangeI m).length ((rangeI m).map (Value.int .i64))) := hide (by have := HO.out; rw [hkm] at this; rwa [rangeI_len])
      clear hkm HO
      go_wp2
      go_ret
      exact ⟨⟨_, rfl, HO2.out⟩, HX.out⟩

set_option maxRecDepth 10000 in
set_option maxHeartbeats 4000000 in
theorem r_of31 (s : Sc) (w : World) (h : ScIn w s) (hl : s.preds.length ≤ 1000) (hsz : s.ty.size + psz s.preds ≤ 50000) (hcl : ∀ p ∈ s.preds, p.cls.length ≤ 1000000000000000000) :
    Calls Tryz.prog 11 #[scV s] w fun e w' => (∃ p, e = .returned (poV p) ∧ OfOk w w' s p) ∧ Ext w w' := by
  obtain ⟨i1, hj, hy0, hy1, hy2⟩ := info_parts ty_info3
  obtain ⟨W, hW⟩ : ∃ W, W = (w.alloc (.cells #[.int .i64 s.n, .slice s.A s.preds.length s.cap, encStr s.ty.con, .int .i64 s.ty.var, .slice s.ty.A s.ty.args.length s.ty.cap] 27)).alloc (.cells #[.slice none 0 0, .string ⟨#[]⟩, .int .i64 0, .slice none 0 0] 32) := ⟨_, rfl⟩
  have HW := hide hW.symm
  have X0 : Hid (Ext w W) := hide (by rw [hW]; exact ((Ext.refl _).alloc _).alloc _)
  have B1 : Hid (ScBox W w.heap.size s) := hide (by rw [hW]; exact (ScBox.new w s).ext ((Ext.refl _).alloc _))
  have B2 : Hid (W.heap[w.heap.size + 1]? = some (.cells zeroPo 32 (0, 0))) := hide (by rw [hW]; exact at_newB _ _ _ (by simp))
  have HL := hide (r_legal21 s W (h.ext X0.out) (by omega) hsz)
  have H := hide h
  have Hcl := hide hcl
  have HV : Hid (ofVs s = if scB s then rangeI s.n.toNat else []) := hide rfl
  have HTy : Hid (ofTyP s = if scB s then funPP (s.preds.map fun p => dictP p.cls p.ty.pure) s.ty.pure else Ty.zero.pure) := hide rfl
  have hn : Hid (scB s = true → 0 ≤ s.n ∧ s.n ≤ 4096) := hide (fun e => by unfold scB at e; simp only [Bool.and_eq_true, decide_eq_true_eq] at e; exact ⟨e.1.1.2, e.1.2⟩)
  obtain ⟨c0, c1, c2, c3, c4⟩ := B1.out.cells
  have hle := h.le
  have hmx := h.max
  clear h hW hcl
  unfold scV poV at *
  cases hb : scB s
  · rw [hb] at HL HV HTy
    have XF : ∀ w2, Ext W w2 → Hid (Ext w ((((w2.setCell ⟨w.heap.size + 1, 0, none⟩ (.slice none 0 0)).setCell ⟨w.heap.size + 1, 1, none⟩ (.string ⟨#[]⟩)).setCell ⟨w.heap.size + 1, 2, none⟩ (.int .i64 0)).setCell ⟨w.heap.size + 1, 3, none⟩ (.slice none 0 0))) := fun w2 e => hide ((((((X0.out.trans e).setCell (by simp) _).setCell (by simp) _).setCell (by simp) _).setCell (by simp) _))
    go_enter Tryz.func11, Tryz.ntmps11
    go_upto_region 1 with fail
    rw [HW.out]
    go_wp2_with fail
    refine HL.out.mono ?_
    rintro e w2 ⟨rfl, hx⟩
    have B2' := hide ((hx.heap (lt_of_obj B2.out)).trans B2.out)
    have f0 := free_block B2'.out 0
    have f1 := free_block B2'.out 1
    have f2 := free_block B2'.out 2
    have f3 := free_block B2'.out 3
    have k0 := bytes_block B2'.out 0
    have k1 := bytes_block B2'.out 1
    have k2 := bytes_block B2'.out 2
    have k3 := bytes_block B2'.out 3
    simp only [zeroPo, List.getElem?_toArray, List.getElem?_cons_zero, List.getElem?_cons_succ] at k0 k1 k2 k3
    go_wp2
    refine bodyPost_ret (v := .agg #[.slice none 0 0, .string ⟨#[]⟩, .int .i64 0, .slice none 0 0]) ?_ rfl ⟨⟨⟨[], none, 0, Ty.zero⟩, rfl, ⟨⟨Nat.le_refl _, Nat.zero_le _, RowOf.nil _ _ _, TyIn.zero _⟩, by rw [HV.out]; rfl, by rw [HTy.out]; rfl, fun h => absurd rfl h, fun c _ _ _ => away_zero c⟩⟩, (XF w2 hx).out⟩
    simp [results, Tryz.f11, go_sem, k0, k1, k2, k3]
  · rw [hb] at HL HV HTy
    obtain ⟨hn0, hn1⟩ := hn.out hb
    obtain ⟨m, hm⟩ : ∃ m : Nat, s.n = (m : Int) := ⟨s.n.toNat, by omega⟩
    have HMn := hide hm
    have hm4 : m ≤ 4096 := by omega
    have HV2 : Hid (ofVs s = rangeI m) := hide (by rw [HV.out, hm]; rfl)
    clear hm HV
    go_enter Tryz.func11, Tryz.ntmps11
    go_upto_region 1 with fail
    rw [HW.out]
    go_wp2_with fail
    refine HL.out.mono ?_
    rintro e wB ⟨rfl, hx⟩
    have X2 := hide hx
    have B12 := hide (B1.out.ext hx)
    have B22 := hide ((hx.heap (lt_of_obj B2.out)).trans B2.out)
    clear hx c0 c1 c2 c3 c4
    have hs2 : w.heap.size + 1 < wB.heap.size := lt_of_obj B22.out
    go_wp2
    go_loopw [3, 4] (fun u i wr => ∃ (k : Nat) (ds : List Ty), k ≤ s.preds.length ∧ i = .int .i64 k ∧ Hid (Ext wB wr) ∧ Hid (wr.ownsRow wB.heap.size 25 3 u ds.length (ds.flatMap tyC.f)) ∧ Hid (DsOk w wB wr u.ownBlock (s.preds.take k) ds)) (fun _ i _ => s.preds.length - (intOf i).toNat)
    case atStart => exact ⟨0, [], Nat.zero_le _, rfl, hide (Ext.refl _), hide (World.ownsRow_nil _ _ _ _), hide (DsOk.nil _ _ _ _)⟩
    case round =>
      obtain ⟨k, ds, hk, rfl, HX, HO, HD⟩ := hrel
      have hdl : ds.length ≤ s.preds.length := by have := HD.out.len; rw [List.length_take] at this; omega
      have Bsc := hide (B12.out.ext HX.out)
      obtain ⟨c0, c1, c2, c3, c4⟩ := Bsc.out.cells
      have XR := hide (X0.out.trans (X2.out.trans HX.out))
      have hszB := HX.out.size
      by_cases hlt : k < s.preds.length
      · have hlt' : (k : Int) < (s.preds.length : Int) := by omega
        have hk0 : (0 : Int) ≤ (k : Int) := by omega
        obtain ⟨b, o, hA, hb, q0, q1, q2, q3⟩ := H.out.row.at_ hlt
        have hmem := List.getElem_mem hlt
        have HC := hide (fun w' (e : Ext w w') => hide (r_dict31 (s.preds[k]'hlt).cls (s.preds[k]'hlt).ty w' ((H.out.row.all _ hmem).ty.ext e) (Hcl.out _ hmem)))
        have Hpt := hide (H.out.row.all _ hmem).ty
        have Htk : Hid (s.preds.take (k + 1) = s.preds.take k ++ [s.preds[k]'hlt]) := hide (List.take_succ_eq_append_getElem hlt)
        generalize s.preds[k]'hlt = x at *
        obtain ⟨A6, c6, rfl, -, -, -, -⟩ := RowOf.own tyC (l := ds) HO.out
        unfold tyV at HC
        have HSB := hide (fun w' (e : Ext wB w') => by
          have g := (B12.out.ext e).cells.2.1
          rw [hA] at g
          have e2 := X0.out.trans (X2.out.trans e)
          exact And.intro g (And.intro (e2.cell q0) (And.intro (e2.cell q1) (And.intro (e2.cell q2) (e2.cell q3)))))
        clear hmem hA q0 q1 q2 q3
        have hS0 := HSB.out wr.drew HX.out.drew
        go_wp2
        refine but_startN 99 17 #[false, false, false, false, false, false, false, false, false, false, false, false, false, false, false, false, false] (fun w' => w'.cell? ⟨w.heap.size, 1, none⟩ = some (.slice (some ⟨b, o, none⟩) s.preds.length s.cap) ∧ w'.cell? ⟨b, o + k * 4, none⟩ = some (.string ⟨x.cls.toArray⟩) ∧ w'.cell? ⟨b, o + k * 4 + 1, none⟩ = some (.string ⟨x.ty.con.toArray⟩) ∧ w'.cell? ⟨b, o + k * 4 + 2, none⟩ = some (.int .i64 x.ty.var) ∧ w'.cell? ⟨b, o + k * 4 + 3, none⟩ = some (.slice x.ty.A x.ty.args.length x.ty.cap)) (by kernel_rfl) (by kernel_rfl) (by kernel_rfl) ?_
        (refine but_takeL (i := 0) (v := ?_) rfl (by kernel_rfl) (by kernel_rfl) (by kernel_rfl) (by kernel_rfl) (fun _ _ _ h => h) (Or.inl ⟨by kernel_rfl, ?_⟩) (by assumption) ?_; rotate_left 1; (focus (intro w hSw; (try dsimp only at hSw); (try obtain ⟨g1, g2, g3⟩ := hSw); (try obtain ⟨g1, g2⟩ := hSw); go_simp; try with_reducible rfl)); simp only [Act.put, List.setIfInBounds_toArray, List.set_cons_zero, List.set_cons_succ])
        (refine but_takeL (i := 1) (v := ?_) rfl (by kernel_rfl) (by kernel_rfl) (by kernel_rfl) (by kernel_rfl) (fun _ _ _ h => h) (Or.inl ⟨by kernel_rfl, ?_⟩) (by assumption) ?_; rotate_left 1; (focus (intro w hSw; (try dsimp only at hSw); (try obtain ⟨g1, g2, g3⟩ := hSw); (try obtain ⟨g1, g2⟩ := hSw); go_simp; try with_reducible rfl)); simp only [Act.put, List.setIfInBounds_toArray, List.set_cons_zero, List.set_cons_succ])
        (refine but_takeL (i := 2) (v := ?_) rfl (by kernel_rfl) (by kernel_rfl) (by kernel_rfl) (by kernel_rfl) (fun _ _ _ h => h) (Or.inl ⟨by kernel_rfl, ?_⟩) (by assumption) ?_; rotate_left 1; (focus (intro w hSw; (try dsimp only at hSw); (try obtain ⟨g1, g2, g3⟩ := hSw); (try obtain ⟨g1, g2⟩ := hSw); go_simp; try with_reducible rfl)); simp only [Act.put, List.setIfInBounds_toArray, List.set_cons_zero, List.set_cons_succ])
        (refine but_takeL (i := 3) (v := ?_) rfl (by kernel_rfl) (by kernel_rfl) (by kernel_rfl) (by kernel_rfl) (fun _ _ _ h => h) (Or.inl ⟨by kernel_rfl, ?_⟩) (by assumption) ?_; rotate_left 1; (focus (intro w hSw; (try dsimp only at hSw); (try obtain ⟨g1, g2, g3⟩ := hSw); (try obtain ⟨g1, g2⟩ := hSw); go_simp; try with_reducible rfl)); simp only [Act.put, List.setIfInBounds_toArray, List.set_cons_zero, List.set_cons_succ])
        (refine but_takeL (i := 4) (v := ?_) rfl (by kernel_rfl) (by kernel_rfl) (by kernel_rfl) (by kernel_rfl) (fun _ _ _ h => h) (Or.inl ⟨by kernel_rfl, ?_⟩) (by assumption) ?_; rotate_left 1; (focus (intro w hSw; (try dsimp only at hSw); (try obtain ⟨g1, g2, g3⟩ := hSw); (try obtain ⟨g1, g2⟩ := hSw); go_simp; try with_reducible rfl)); simp only [Act.put, List.setIfInBounds_toArray, List.set_cons_zero, List.set_cons_succ])
        (refine but_takeL (i := 5) (v := ?_) rfl (by kernel_rfl) (by kernel_rfl) (by kernel_rfl) (by kernel_rfl) (fun _ _ _ h => h) (Or.inl ⟨by kernel_rfl, ?_⟩) (by assumption) ?_; rotate_left 1; (focus (intro w hSw; (try dsimp only at hSw); (try obtain ⟨g1, g2, g3⟩ := hSw); (try obtain ⟨g1, g2⟩ := hSw); go_simp; try with_reducible rfl)); simp only [Act.put, List.setIfInBounds_toArray, List.set_cons_zero, List.set_cons_succ])
        (refine but_takeL (i := 6) (v := ?_) rfl (by kernel_rfl) (by kernel_rfl) (by kernel_rfl) (by kernel_rfl) (fun _ _ _ h => h) (Or.inl ⟨by kernel_rfl, ?_⟩) (by assumption) ?_; rotate_left 1; (focus (intro w hSw; (try dsimp only at hSw); (try obtain ⟨g1, g2, g3⟩ := hSw); (try obtain ⟨g1, g2⟩ := hSw); go_simp; try with_reducible rfl)); simp only [Act.put, List.setIfInBounds_toArray, List.set_cons_zero, List.set_cons_succ])
        (refine but_takeL (i := 7) (v := ?_) rfl (by kernel_rfl) (by kernel_rfl) (by kernel_rfl) (by kernel_rfl) (fun _ _ _ h => h) (Or.inl ⟨by kernel_rfl, ?_⟩) (by assumption) ?_; rotate_left 1; (focus (intro w hSw; (try dsimp only at hSw); (try obtain ⟨g1, g2, g3⟩ := hSw); (try obtain ⟨g1, g2⟩ := hSw); go_simp; try with_reducible rfl)); simp only [Act.put, List.setIfInBounds_toArray, List.set_cons_zero, List.set_cons_succ])
        (refine but_takeL (i := 8) (v := ?_) rfl (by kernel_rfl) (by kernel_rfl) (by kernel_rfl) (by kernel_rfl) (fun _ _ _ h => h) (Or.inl ⟨by kernel_rfl, ?_⟩) (by assumption) ?_; rotate_left 1; (focus (intro w hSw; (try dsimp only at hSw); (try obtain ⟨g1, g2, g3⟩ := hSw); (try obtain ⟨g1, g2⟩ := hSw); go_simp; try with_reducible rfl)); simp only [Act.put, List.setIfInBounds_toArray, List.set_cons_zero, List.set_cons_succ])
        (refine but_takeL (i := 9) (v := ?_) rfl (by kernel_rfl) (by kernel_rfl) (by kernel_rfl) (by kernel_rfl) (fun _ _ _ h => h) (Or.inl ⟨by kernel_rfl, ?_⟩) (by assumption) ?_; rotate_left 1; (focus (intro w hSw; (try dsimp only at hSw); (try obtain ⟨g1, g2, g3⟩ := hSw); (try obtain ⟨g1, g2⟩ := hSw); go_simp; try with_reducible rfl)); simp only [Act.put, List.setIfInBounds_toArray, List.set_cons_zero, List.set_cons_succ])
        (refine but_takeL (i := 10) (v := ?_) rfl (by kernel_rfl) (by kernel_rfl) (by kernel_rfl) (by kernel_rfl) (fun _ _ _ h => h) (Or.inl ⟨by kernel_rfl, ?_⟩) (by assumption) ?_; rotate_left 1; (focus (intro w hSw; (try dsimp only at hSw); (try obtain ⟨g1, g2, g3⟩ := hSw); (try obtain ⟨g1, g2⟩ := hSw); go_simp; try with_reducible rfl)); simp only [Act.put, List.setIfInBounds_toArray, List.set_cons_zero, List.set_cons_succ])
        (refine but_takeL (i := 11) (v := ?_) rfl (by kernel_rfl) (by kernel_rfl) (by kernel_rfl) (by kernel_rfl) (fun _ _ _ h => h) (Or.inl ⟨by kernel_rfl, ?_⟩) (by assumption) ?_; rotate_left 1; (focus (intro w hSw; (try dsimp only at hSw); (try obtain ⟨g1, g2, g3⟩ := hSw); (try obtain ⟨g1, g2⟩ := hSw); go_simp; try with_reducible rfl)); simp only [Act.put, List.setIfInBounds_toArray, List.set_cons_zero, List.set_cons_succ])
        (refine but_takeL (i := 12) (v := ?_) rfl (by kernel_rfl) (by kernel_rfl) (by kernel_rfl) (by kernel_rfl) (fun _ _ _ h => h) (Or.inl ⟨by kernel_rfl, ?_⟩) (by assumption) ?_; rotate_left 1; (focus (intro w hSw; (try dsimp only at hSw); (try obtain ⟨g1, g2, g3⟩ := hSw); (try obtain ⟨g1, g2⟩ := hSw); go_simp; try with_reducible rfl)); simp only [Act.put, List.setIfInBounds_toArray, List.set_cons_zero, List.set_cons_succ])
        refine but_step (i := 13) (by kernel_rfl) rfl (fun KK hK => ?_)
        go_simp
        refine Calls.mono (HC.out _ (XR.out.trans (Ext.refl _).drew)).out ?_
        rintro e w5 ⟨⟨g, rfl, hd, hgs⟩, hx5⟩
        have X5 := hide (((Ext.refl wr).drew).trans hx5)
        have hgs' : wr.heap.size ≤ g := hgs
        have hS5 := HSB.out _ (HX.out.trans X5.out)
        refine hK.out _ _ (fun _ => hS5) ?_
        clear hK KK hS0
        simp only [List.setIfInBounds_toArray, List.set_cons_zero, List.set_cons_succ]
        have O5 := hide (own_extB HO.out X5.out)
        have Hd := hide hd
        have hs5 := (HX.out.trans X5.out).size
        obtain ⟨D, hD⟩ : ∃ D, D = dictT x.cls x.ty g := ⟨_, rfl⟩
        rw [← hD]
        have HDe := hide hD
        clear hx5 hd hgs hD
        refine but_step (i := 14) (by kernel_rfl) rfl (fun KK hK => ?_)
        go_simp
        have hS6 := HSB.out _ ((HX.out.trans X5.out).alloc (.cells #[encStr D.con, .int .i64 D.var, .slice D.A D.args.length D.cap] 25))
        refine hK.out _ _ (fun _ => hS6) ?_
        clear hK KK hS5
        simp only [List.setIfInBounds_toArray, List.set_cons_zero, List.set_cons_succ]
        refine but_step (i := 15) (by kernel_rfl) rfl (fun KK hK => ?_)
        refine step_append_rowB _ rfl (.tmp 16) (.tmp 30) 23 rfl wB.heap.size 25 i1 _ 3 48 Tryz.underlying23 hj hy0 hy1 hy2 rfl (by decide) (.slice A6 ds.length c6) ds.length (ds.flatMap tyC.f) rfl (O5.out.alloc _) (some ⟨w5.heap.size, 0, none⟩) 1 1 [encStr D.con, .int .i64 D.var, .slice D.A D.args.length D.cap] rfl (Row.ty3 _ _ _ (at_newB _ _ _ rfl)) ?_ (by unfold maxLen; omega) (by omega) (by simp; omega) ?_
        · intro y hy
          simp at hy
          rcases hy with rfl | rfl | rfl <;> rfl
        intro v4 w4 hown4 hg4 hat4
        have X4 := hide (Ext.app ((HX.out.trans X5.out).alloc _) hg4 (O5.out.alloc _) (Nat.le_refl _))
        have O4 : Hid (w4.ownsRow wB.heap.size 25 3 v4 (ds ++ [D]).length ((ds ++ [D]).flatMap tyC.f)) := hide (by rw [flat_snoc, List.length_append]; exact hown4)
        have D4 : Hid (DsOk w wB w4 v4.ownBlock (s.preds.take (k + 1)) (ds ++ [D])) := hide (by
          rw [Htk.out, HDe.out]
          refine HD.out.snoc (w' := w5.alloc (.cells #[encStr D.con, .int .i64 D.var, .slice D.A D.args.length D.cap] 25)) (X5.out.alloc _) (Hd.out.ext ((Ext.refl _).alloc _)) hgs' Hpt.out (by omega) hszB (fun c e => HO.out.lt c e) hg4 ?_
          rcases hat4 with e | e
          · exact .inl e
          · exact .inr (fun c hc => by rw [e] at hc; injection hc with hc; simp at hc ⊢; omega))
        have hS7 := HSB.out _ X4.out
        refine hK.out _ _ (fun _ => hS7) ?_
        clear hK KK hS6 hown4 hg4 hat4
        simp only [Act.put, List.setIfInBounds_toArray, List.set_cons_zero, List.set_cons_succ]
        (refine but_takeL (i := 16) (v := ?_) rfl (by kernel_rfl) (by kernel_rfl) (by kernel_rfl) (by kernel_rfl) (fun _ _ _ h => h) (Or.inl ⟨by kernel_rfl, ?_⟩) (by assumption) ?_; rotate_left 1; (focus (intro w hSw; (try dsimp only at hSw); (try obtain ⟨g1, g2, g3⟩ := hSw); (try obtain ⟨g1, g2⟩ := hSw); go_simp; try with_reducible rfl)); simp only [Act.put, List.setIfInBounds_toArray, List.set_cons_zero, List.set_cons_succ])
        refine but_done (by kernel_rfl) ?_ _
        clear hS7
        go_wp2
        go_roundw
        case rel => exact ⟨k + 1, ds ++ [D], hlt, by go_num, X4, O4, D4⟩
        case measure => simp [intOf]; omega
      · have hge : ¬ (k : Int) < (s.preds.length : Int) := by omega
        have HD2 : Hid (DsOk w wB wr u3.ownBlock s.preds ds) := hide (by have := HD.out; rwa [List.take_of_length_le (by omega)] at this)
        obtain ⟨A6, c6, rfl, d1, d2, d3, -⟩ := RowOf.own tyC (l := ds) HO.out
        have D3 := hide d3
        have HRow := hide (fun w' => r_row31 m w' (by omega))
        have HT := hide (fun w' (e : Ext wr w') => hide (r_fun16 A6 c6 ds s.ty w' ⟨RowOf.ext tyC D3.out e, fun d hd => (HD2.out.ty d hd).ext e⟩ (H.out.ty.ext (XR.out.trans e)) (by omega)))
        have Brb := hide ((HX.out.heap (lt_of_obj B22.out)).trans B22.out)
        have HSB := hide (fun w' (e : Ext wB w') => And.intro (B12.out.ext e).cells.1 (And.intro (B12.out.ext e).cells.2.2.1 (And.intro (B12.out.ext e).cells.2.2.2.1 (B12.out.ext e).cells.2.2.2.2)))
        rw [HMn.out] at HSB
        unfold tyV at HT
        have hS0 := HSB.out wr.drew HX.out.drew
        clear HD HO d3
        go_wp2
        clear c0 c1 c2 c3 c4
        refine but_startN 8 9 #[false, false, false, false, false, false, false, false, false] (fun w' => w'.cell? ⟨w.heap.size, 0, none⟩ = some (.int .i64 (m : Int)) ∧ w'.cell? ⟨w.heap.size, 2, none⟩ = some (encStr s.ty.con) ∧ w'.cell? ⟨w.heap.size, 3, none⟩ = some (.int .i64 s.ty.var) ∧ w'.cell? ⟨w.heap.size, 4, none⟩ = some (.slice s.ty.A s.ty.args.length s.ty.cap)) (by kernel_rfl) (by kernel_rfl) (by kernel_rfl) ?_
        (refine but_takeL (i := 0) (v := ?_) rfl (by kernel_rfl) (by kernel_rfl) (by kernel_rfl) (by kernel_rfl) (fun _ _ _ h => h) (Or.inl ⟨by kernel_rfl, ?_⟩) (by assumption) ?_; rotate_left 1; (focus (intro w hSw; (try dsimp only at hSw); (try obtain ⟨g1, g2, g3⟩ := hSw); (try obtain ⟨g1, g2⟩ := hSw); go_simp; try with_reducible rfl)); simp only [Act.put, List.setIfInBounds_toArray, List.set_cons_zero, List.set_cons_succ])
        (refine but_takeL (i := 1) (v := ?_) rfl (by kernel_rfl) (by kernel_rfl) (by kernel_rfl) (by kernel_rfl) (fun _ _ _ h => h) (Or.inl ⟨by kernel_rfl, ?_⟩) (by assumption) ?_; rotate_left 1; (focus (intro w hSw; (try dsimp only at hSw); (try obtain ⟨g1, g2, g3⟩ := hSw); (try obtain ⟨g1, g2⟩ := hSw); go_simp; try with_reducible rfl)); simp only [Act.put, List.setIfInBounds_toArray, List.set_cons_zero, List.set_cons_succ])
        (refine but_takeL (i := 3) (v := ?_) rfl (by kernel_rfl) (by kernel_rfl) (by kernel_rfl) (by kernel_rfl) (fun _ _ _ h => h) (Or.inl ⟨by kernel_rfl, ?_⟩) (by assumption) ?_; rotate_left 1; (focus (intro w hSw; (try dsimp only at hSw); (try obtain ⟨g1, g2, g3⟩ := hSw); (try obtain ⟨g1, g2⟩ := hSw); go_simp; try with_reducible rfl)); simp only [Act.put, List.setIfInBounds_toArray, List.set_cons_zero, List.set_cons_succ])
        (refine but_takeL (i := 4) (v := ?_) rfl (by kernel_rfl) (by kernel_rfl) (by kernel_rfl) (by kernel_rfl) (fun _ _ _ h => h) (Or.inl ⟨by kernel_rfl, ?_⟩) (by assumption) ?_; rotate_left 1; (focus (intro w hSw; (try dsimp only at hSw); (try obtain ⟨g1, g2, g3⟩ := hSw); (try obtain ⟨g1, g2⟩ := hSw); go_simp; try with_reducible rfl)); simp only [Act.put, List.setIfInBounds_toArray, List.set_cons_zero, List.set_cons_succ])
        (refine but_takeL (i := 5) (v := ?_) rfl (by kernel_rfl) (by kernel_rfl) (by kernel_rfl) (by kernel_rfl) (fun _ _ _ h => h) (Or.inl ⟨by kernel_rfl, ?_⟩) (by assumption) ?_; rotate_left 1; (focus (intro w hSw; (try dsimp only at hSw); (try obtain ⟨g1, g2, g3⟩ := hSw); (try obtain ⟨g1, g2⟩ := hSw); go_simp; try with_reducible rfl)); simp only [Act.put, List.setIfInBounds_toArray, List.set_cons_zero, List.set_cons_succ])
        refine but_step (i := 2) (by kernel_rfl) rfl (fun KK hK => ?_)
        go_simp
        refine Calls.mono (HRow.out _) ?_
        rintro e w5 ⟨⟨v5, rfl, ho5⟩, hx5⟩
        have X5 := hide (((Ext.refl wr).drew).trans hx5)
        have hS5 := HSB.out _ (HX.out.trans X5.out)
        refine hK.out _ _ (fun _ => hS5) ?_
        clear hK KK hS0
        simp only [List.setIfInBounds_toArray, List.set_cons_zero, List.set_cons_succ]
        obtain ⟨A5, c5, hv5, p1, p2', p3, p4⟩ := Ints.own ho5
        have PA : Hid (∀ a, A5 = some a → w.heap.size + 2 ≤ a.block) := hide (fun a e => by
          subst e
          rcases own_some ho5 with ⟨h1, -⟩ | ⟨g, cp, h1, h2, -⟩
          · rw [h1] at hv5; cases hv5
          · rw [h1] at hv5; injection hv5 with h1; injection h1 with h1; subst h1
            have h2' : wr.heap.size ≤ g := h2
            show _ ≤ g
            omega)
        subst hv5
        have P1 := hide p1
        have P3 := hide p3
        clear p1 p3 p4 ho5 hx5
        refine but_step (i := 6) (by kernel_rfl) rfl (fun KK hK => ?_)
        go_simp
        refine Calls.mono (HT.out _ X5.out).out ?_
        rintro e w7 ⟨⟨u, rfl, hu, hup, hua⟩, hx7⟩
        have X57 := hide (X5.out.trans hx7)
        have hS7 := HSB.out _ (HX.out.trans X57.out)
        refine hK.out _ _ (fun _ => hS7) ?_
        clear hK KK hS5
        simp only [List.setIfInBounds_toArray, List.set_cons_zero, List.set_cons_succ]
        have hs5 := X5.out.size
        have X7 := hide (XR.out.trans X57.out)
        have Brb7 := hide ((X57.out.heap (lt_of_obj Brb.out)).trans Brb.out)
        have HP7 := hide (RowOf.ext intC P3.out hx7)
        have Hup : Hid (u.pure = ofTyP s) := hide (by rw [hup, funP_eq, HD2.out.is, HTy.out]; rfl)
        have Hua : Hid (awayB (w.heap.size + 1) u = true) := hide (hua _ ⟨by omega, away_new H.out.ty (by omega), fun a ha => HD2.out.away a ha _ (by omega) (fun x hx => away_new (H.out.row.all x hx).ty (by omega))⟩)
        have Haw : Hid (∀ c, c < w.heap.size → awayB c s.ty = true → (∀ x ∈ s.preds, awayB c x.ty = true) → awayB c u = true) := hide (fun c h1 h2 h3 => hua _ ⟨by omega, h2, fun a ha => HD2.out.away a ha _ (by omega) h3⟩)
        have Hu := hide hu
        clear hx7 hu hup hua
        have k0 := bytes_block Brb7.out 0
        have k1 := bytes_block Brb7.out 1
        have k2 := bytes_block Brb7.out 2
        have k3 := bytes_block Brb7.out 3
        have f0 := free_block Brb7.out 0
        have f1 := free_block Brb7.out 1
        have f2 := free_block Brb7.out 2
        have f3 := free_block Brb7.out 3
        simp only [zeroPo, List.getElem?_toArray, List.getElem?_cons_zero, List.getElem?_cons_succ] at k0 k1 k2 k3
        rw [rangeI_len]
        obtain ⟨WF, hWF⟩ : ∃ WF, WF = ((((w7.setCell ⟨w.heap.size + 1, 0, none⟩ (.slice A5 m c5)).setCell ⟨w.heap.size + 1, 1, none⟩ (.string ⟨u.con.toArray⟩)).setCell ⟨w.heap.size + 1, 2, none⟩ (.int .i64 u.var)).setCell ⟨w.heap.size + 1, 3, none⟩ (.slice u.A u.args.length u.cap)) := ⟨_, rfl⟩
        have XF : Hid (Ext w WF) := hide (by
          rw [hWF]
          exact (((X7.out.setCell (by simp) _).setCell (by simp) _).setCell (by simp) _).setCell (by simp) _)
        have HF : Hid (TyIn WF u ∧ Ints WF A5 (rangeI m)) := hide (by
          have g2 : w7.grownBy WF (some (w.heap.size + 1)) := by rw [hWF]; exact grown2 (grown_cell _ _ _ _) (put3_grown _ _ _ _ _ _ _ _)
          exact ⟨Hu.out.grown g2 (fun c e => by injection e with e; subst e; exact Hua.out), row_grown HP7.out g2 (fun _ a e e2 => by have := PA.out a e; injection e2 with e2; omega)⟩)
        have hb8 : WF.heap[w.heap.size + 1]? = some (.cells #[.slice A5 m c5, .string ⟨u.con.toArray⟩, .int .i64 u.var, .slice u.A u.args.length u.cap] 32 (0, 0)) := by
          have := blk_setCell (blk_setCell (blk_setCell (blk_setCell Brb7.out 0 (.slice A5 m c5)) 1 (.string ⟨u.con.toArray⟩)) 2 (.int .i64 u.var)) 3 (.slice u.A u.args.length u.cap)
          rw [hWF]
          simpa [zeroPo] using this
        have m0 := bytes_block hb8 0
        have m1 := bytes_block hb8 1
        have m2 := bytes_block hb8 2
        have m3 := bytes_block hb8 3
        simp only [List.getElem?_toArray, List.getElem?_cons_zero, List.getElem?_cons_succ] at m0 m1 m2 m3
        (refine but_takeL (i := 7) (v := ?_) rfl (by kernel_rfl) (by kernel_rfl) (by kernel_rfl) (by kernel_rfl) (fun _ _ _ h => h) (Or.inl ⟨by kernel_rfl, ?_⟩) (by assumption) ?_; rotate_left 1; (focus (intro w hSw; (try dsimp only at hSw); (try obtain ⟨g1, g2, g3⟩ := hSw); (try obtain ⟨g1, g2⟩ := hSw); go_simp; try with_reducible rfl)); simp only [Act.put, List.setIfInBounds_toArray, List.set_cons_zero, List.set_cons_succ])
        refine but_step (i := 8) (by kernel_rfl) rfl (fun KK hK => ?_)
        go_simp
        rw [← hWF]
        refine hK.out _ _ (fun h => absurd rfl h) ?_
        clear hK KK
        try simp only [Act.put]
        refine but_done (by kernel_rfl) ?_ _
        go_wp2
        refine bodyPost_ret (v := .agg #[.slice A5 m c5, encStr u.con, .int .i64 u.var, .slice u.A u.args.length u.cap]) ?_ rfl ⟨⟨⟨rangeI m, A5, c5, u⟩, ?_, ⟨⟨P1.out, p2', HF.out.2, HF.out.1⟩, HV2.out.symm, Hup.out, fun _ a ha => by have := PA.out a ha; omega, Haw.out⟩⟩, XF.out⟩
        · simp [results, Tryz.f11, go_sem, m0, m1, m2, m3]
        · show _ = Ending.returned (Value.agg #[.slice A5 (rangeI m).length c5, _, _, _])
          rw [rangeI_len]

end Go.Proofs.YtifbkknijialgaaGreat

/- A scheme's type is alike itself. No program in sight. -/
namespace Go.Proofs.YtifbkknijialgaaGreat
open Go.RowKit

/-- How great is what a type says? -/
noncomputable def szP (p : Ty.Pure) : Nat :=
  Ty.Pure.rec (motive_1 := fun _ => Nat) (motive_2 := fun _ => Nat) (fun _ _ _ r => r + 1) 0 (fun _ _ a b => a + b) p
theorem szP_eq (c : Str) (v : Int) (l : List Ty.Pure) : szP (.mk c v l) = (l.map szP).sum + 1 := by
  show Ty.Pure.rec_1 (motive_1 := fun _ => Nat) (motive_2 := fun _ => Nat) _ _ _ l + 1 = _
  congr 1
  induction l with
  | nil => rfl
  | cons x l ih => rw [List.map_cons, List.sum_cons, ← ih]; rfl
theorem size_pure (t : Ty) : t.size = szP t.pure := by
  induction t using Ty.ind with
  | h t ih =>
    rw [Ty.size_eq, Ty.pure_eq, szP_eq, List.map_map]
    congr 2
    exact List.map_congr_left ih
/-- Has no variable args? -/
inductive POk : Ty.Pure → Prop where
  | mk {c : Str} {v : Int} {l : List Ty.Pure} (h : c = [] → l = []) (h2 : ∀ x ∈ l, POk x) : POk (.mk c v l)
theorem pok_shape (t : Ty) (h : shapeT t = true) : POk t.pure := by
  induction t using Ty.ind with
  | h t ih =>
    unfold shapeT at h ih
    rw [allB_eq, Bool.and_eq_true, List.all_eq_true] at h
    rw [Ty.pure_eq]
    refine .mk (fun hc => ?_) (fun x hx => ?_)
    · have h1 := h.1
      rw [hc] at h1
      unfold headOk at h1
      simp at h1
      simp [h1]
    · obtain ⟨k, hk, rfl⟩ := List.mem_map.1 hx
      exact ih k hk (h.2 k hk)
theorem put_self (vars : List Int) (t : Ty) (h : POk t.pure) : putP vars (vars.map varT) t = t.pure := by
  induction t using Ty.ind with
  | h t ih =>
    rw [Ty.pure_eq] at h
    cases h with
    | mk h1 h2 =>
      rw [putP_eq]
      split
      · rename_i hc
        have hl : t.args = [] := by have := h1 hc; simpa using this
        unfold putAt
        split
        · rename_i hi
          have hany : vars.any (· == t.var) = true := by rw [← idxI_ge vars t.var]; exact decide_eq_true hi
          have e : idxI vars t.var = ((vars.findIdx (· == t.var) : Nat) : Int) := by unfold idxI; rw [if_pos hany]
          obtain ⟨x, hx, hxe⟩ := List.any_eq_true.1 hany
          have hlt : vars.findIdx (· == t.var) < vars.length := List.findIdx_lt_length_of_exists ⟨x, hx, hxe⟩
          have hat := List.findIdx_getElem (w := hlt)
          rw [e]
          have hat2 : vars[vars.findIdx (· == t.var)]'hlt = t.var := by simpa using hat
          rw [Int.toNat_natCast, List.getElem?_map, List.getElem?_eq_getElem hlt, hat2]
          show (varT t.var).pure = _
          rw [Ty.pure_eq, Ty.pure_eq t, hl, hc]
          rfl
        · rfl
      · rw [Ty.pure_eq t]
        congr 1
        exact List.map_congr_left (fun k hk => ih k hk (h2 _ (List.mem_map.2 ⟨k, hk, rfl⟩)))
theorem range_nodup (m : Nat) : (rangeI m).Nodup := by
  unfold rangeI
  exact List.pairwise_map.2 (List.nodup_range.imp (fun h e => h (by omega)))
theorem alike_self (p : Po) (hv : p.vars.Nodup) (ht : POk p.ty.pure) : alikeP p p = true := by
  have hm : meetsI p.vars (freeL p) = false := by
    unfold meetsI freeL
    rw [List.any_eq_false]
    intro v hv
    have h2 := (List.mem_filter.1 hv).2
    simp at h2 ⊢
    exact fun hh => h2 v hh rfl
  unfold alikeP eqP
  rw [hm, put_self p.vars p.ty ht]
  simp [hv]
theorem pok_fun (l : List Ty.Pure) (q : Ty.Pure) (hl : ∀ x ∈ l, POk x) (hq : POk q) : POk (funPP l q) := by
  induction l with
  | nil => exact hq
  | cons x l ih =>
    refine .mk (fun h => by cases h) (fun y hy => ?_)
    simp at hy
    rcases hy with rfl | rfl
    · exact hl y (by simp)
    · exact ih (fun z hz => hl z (by simp [hz]))
theorem pok_of (s : Sc) : POk (ofTyP s) := by
  unfold ofTyP
  split
  · rename_i h
    unfold scB legalT at h
    simp only [Bool.and_eq_true, List.all_eq_true, decide_eq_true_eq] at h
    refine pok_fun _ _ (fun x hx => ?_) (pok_shape _ h.1.1.1.1.2)
    obtain ⟨p, hp, rfl⟩ := List.mem_map.1 hx
    have hp2 := h.1.1.1.2 p hp
    unfold pdB legalT at hp2
    simp only [Bool.and_eq_true, decide_eq_true_eq] at hp2
    refine .mk (fun e => by simp at e) (fun y hy => ?_)
    simp at hy
    subst hy
    exact pok_shape _ hp2.2.2
  · rw [zero_pure]
    exact .mk (fun _ => rfl) (by simp)
theorem sz_fun (l : List Pd) (q : Ty.Pure) : szP (funPP (l.map fun p => dictP p.cls p.ty.pure) q) = szP q + psz l + 2 * l.length := by
  induction l with
  | nil => simp [funPP, psz]
  | cons p l ih =>
    show szP (arrP (dictP p.cls p.ty.pure) (funPP (l.map fun p => dictP p.cls p.ty.pure) q)) = _
    unfold arrP dictP
    rw [szP_eq, List.map_cons, List.map_cons, szP_eq]
    simp only [List.map_cons, List.map_nil, List.sum_cons, List.sum_nil, Nat.add_zero]
    have h2 : psz (p :: l) = p.ty.size + psz l := by unfold psz; simp
    unfold dictP at ih
    rw [ih, h2, size_pure p.ty, List.length_cons]
    omega
theorem sz_of (s : Sc) : szP (ofTyP s) ≤ s.ty.size + psz s.preds + 2 * s.preds.length + 1 := by
  unfold ofTyP
  split
  · rw [sz_fun, size_pure s.ty]; omega
  · rw [zero_pure, szP_eq]; simp
theorem ofVs_nodup (s : Sc) : (ofVs s).Nodup := by
  unfold ofVs
  split
  · exact range_nodup _
  · simp
theorem ofVs_len (s : Sc) : (ofVs s).length ≤ 4096 := by
  unfold ofVs
  split
  · rename_i h
    unfold scB at h
    simp only [Bool.and_eq_true, decide_eq_true_eq] at h
    rw [rangeI_len]
    have := h.1.2
    omega
  · simp

end Go.Proofs.YtifbkknijialgaaGreat
