/- Contract on the reference: the names that a tree uses, in which some are bound: anything else. -/
import Derived.Test.YtnbnhchgkbbiiaaGreatJUsesUses22
import Derived.WalkSpells
import Derived.WalkLawsBesides
import Derived.Deep.QuietTactic
import Derived.BigQuiet
import Derived.Deep.RegionLaw
/- Contract on the reference: the names that a tree uses, in which some are bound: anything else. -/
namespace Go.Proofs.YtnbnhchgkbbiiaaGreat
open Go.RowKit Go.Sort

set_option maxRecDepth 10000 in
set_option maxHeartbeats 4000000 in
theorem within_else (t : Tree) (IH : Hid (∀ k ∈ t.kids, WithinAt k)) (h21 : (t.kind == 21) = false) (h25 : (t.kind == 25) = false) (h26 : (t.kind == 26) = false) (h15 : (t.kind == 15) = false) (h32 : (t.kind == 32) = false) : WithinAt t := by
  intro w AB cB bl h hok hB hBl hBm hsz
  obtain ⟨i0, hi, hz0, hz1, hz2⟩ := info_parts use_info
  obtain ⟨i1, hj, hy0, hy1, hy2⟩ := info_parts str_infoU
  have hle := h.le
  have hmx := h.max
  have htx := h.txt
  have Hk := hide h.nodes
  have HB0w := hide (NBox.new w t)
  have HSz := hide (fun k (hk : k ∈ t.kids) => Tree.size_kid hk)
  have HS : Hid (t.size = sizes t.kids + 1) := hide (Tree.size_eq t)
  have hkl := Tree.kids_len t
  obtain ⟨W, hW⟩ : ∃ W, W = w.alloc (.cells #[.int .i64 t.kind, .int .i64 t.pos, .int .i64 t.n, encStr t.text, .slice t.A t.kids.length t.cap] 24) := ⟨_, rfl⟩
  have X0 : Hid (Ext w W) := hide (by rw [hW]; exact (Ext.refl w).alloc _)
  have hsW : W.heap.size = w.heap.size + 1 := by rw [hW]; simp
  rw [← hW] at HB0w
  have HB0 := HB0w
  clear HB0w
  have HS0 := hide (hB.ext X0.out)
  have HH := hide (ref_has AB cB bl t.text W HS0.out (by omega))
  have HRo := hide hok
  have hBle := hBl
  have hBmx := hBm
  clear hB
  have hR : usesL t (inL bl) = usesesL t.kids (inL bl) := uses_else1 _ h21 h25 h26 h15 h32
  obtain ⟨pre, hpre⟩ : ∃ pre : List Use, pre = [] := ⟨_, rfl⟩
  have hp0 : pre.length = 0 := by rw [hpre]; rfl
  have HU : Hid (pre ++ usesesL t.kids (inL bl) = usesL t (inL bl)) := hide (by rw [hpre, hR]; rfl)
  have HKo : Hid (∀ k ∈ t.kids, refOk k) := hide (by have := (refOk_sh HRo.out h32).2; rwa [inner_else h15] at this)
  have HSt : Hid (∀ k (h : k < t.kids.length), pre ++ usesesL (t.kids.take (k + 1)) (inL bl) = (pre ++ usesesL (t.kids.take k) (inL bl)) ++ usesL (t.kids[k]'h) (inL bl)) := hide (fun k hk => by rw [usesesL_take t.kids _ hk, List.append_assoc])
  have HSk : Hid (∀ k (h : k < t.kids.length), (usesesL (t.kids.take k) (inL bl)).length + (t.kids[k]'h).size ≤ sizes t.kids) := hide (fun k hk => usesesL_room t.kids _ hk)
  have HLn : Hid (∀ c : Tree, (usesL c (inL bl)).length ≤ c.size) := hide (fun c => usesL_len c _)
  have O1 : Hid (W.ownsRow W.heap.size 39 2 (.slice none 0 0) (pre ++ usesesL (t.kids.take 0) (inL bl)).length ((pre ++ usesesL (t.kids.take 0) (inL bl)).flatMap useC.f)) := hide (by rw [hpre]; exact World.ownsRow_nil _ _ _ _)
  have X1 : Hid (Ext W W) := hide (Ext.refl _)
  have Hpre := hide hpre
  clear hpre hR
  generalize usesL t (inL bl) = R at *
  unfold treeV at *
  have HN := hide h
  clear h
  generalize hA0 : t.A = A0 at *
  have HA0 := hide hA0
  clear hA0
  go_enter Tryz.func23, Tryz.ntmps23
  go_wp2
  rw [← hW]
  go_loopw [5, 6] (fun v i wr => ∃ k : Nat, k ≤ t.kids.length ∧ i = .int .i64 k ∧ Hid (Ext W wr) ∧ Hid (wr.ownsRow W.heap.size 39 2 v (pre ++ usesesL (t.kids.take k) (inL bl)).length ((pre ++ usesesL (t.kids.take k) (inL bl)).flatMap useC.f))) (fun _ i _ => t.kids.length - (intOf i).toNat)
  case atStart => exact ⟨0, Nat.zero_le _, rfl, X1, O1⟩
  case round =>
    obtain ⟨k, hk, rfl, HX, HO⟩ := hrel
    have HBr := hide (HB0.out.ext HX.out)
    have c0_r := HBr.out.c0
    have c1_r := HBr.out.c1
    have c2_r := HBr.out.c2
    have c3_r := HBr.out.c3
    have c4_r := HBr.out.c4
    rw [HA0.out] at c4_r
    have XR := hide (X0.out.trans HX.out)
    by_cases hlt : k < t.kids.length
    · have hlt' : (k : Int) < (t.kids.length : Int) := by omega
      have hk0 : (0 : Int) ≤ (k : Int) := by omega
      obtain ⟨b, o, rfl, hb, q0, q1, q2, q3, q4⟩ := (Hk.out.ext XR.out).at_ hlt
      have hck := List.getElem_mem hlt
      have hcs := HSz.out _ hck
      have Hst := hide (HSt.out k hlt)
      have hrm := HSk.out k hlt
      have hon := HLn.out (t.kids[k]'hlt)
      have hss := HS.out
      have HKc := hide ((Hk.out.kids _ hck).ext XR.out)
      have HC := hide (IH.out _ hck wr AB cB bl HKc.out (HKo.out _ hck) (HS0.out.ext HX.out) hBle hBmx (by omega))
      have hpl : (pre ++ usesesL (t.kids.take k) (inL bl)).length ≤ pre.length + sizes t.kids := by rw [List.length_append]; omega
      clear hck
      generalize pre ++ usesesL (t.kids.take k) (inL bl) = L at *
      generalize usesL (t.kids[k]'hlt) (inL bl) = M at *
      generalize t.kids[k]'hlt = c at *
      go_wp2_with fail
      refine HC.out.mono ?_
      rintro e w4 ⟨⟨v4, rfl, hO4⟩, hx4⟩
      obtain ⟨A4, c4, rfl, l4, m4, hR4, -⟩ := RowOf.own useC hO4
      have R4 := hide hR4
      have X4 := hide (HX.out.trans hx4)
      have O4 := hide (own_extB HO.out hx4)
      clear hO4 hx4 hR4
      go_wp2_with (at_builtin; refine wpList_append_row _ rfl _ _ 28 rfl W.heap.size 39 i0 _ 2 24 Tryz.underlying28 hi hz0 hz1 hz2 rfl (by decide) u5 L.length (L.flatMap useC.f) rfl O4.out A4 M.length c4 (M.flatMap useC.f) rfl R4.out (one_uses M) ?c4 ?c5 ?c6 ?_)
      case c4 => unfold maxLen; omega
      case c5 => omega
      case c6 => exact X4.out.size
      intro v5 w5 hown5 hg5 _
      have X5 := hide (Ext.appU X4.out hg5 O4.out (Nat.le_refl _))
      have O5 := hide hown5
      clear hown5 hg5
      go_wp2
      go_roundw
      case rel => exact ⟨k + 1, hlt, by go_num, X5, hide (by rw [Hst.out, List.flatMap_append, List.length_append]; first | exact O5.out | (rw [hsW]; exact O5.out))⟩
      case measure => simp [intOf]; omega
    · have hge : ¬ (k : Int) < (t.kids.length : Int) := by omega
      have HF : Hid (pre ++ usesesL (t.kids.take k) (inL bl) = R) := hide (by rw [List.take_of_length_le (by omega)]; exact HU.out)
      rw [HF.out] at HO
      go_wp2
      go_ret
      exact ⟨⟨_, rfl, own_mono HO.out (by omega)⟩, XR.out⟩

end Go.Proofs.YtnbnhchgkbbiiaaGreat

/- Contract on the reference: the names that a tree uses, in which some are bound: bindings. -/
namespace Go.Proofs.YtnbnhchgkbbiiaaGreat
open Go.RowKit Go.Sort

set_option maxRecDepth 10000 in
set_option maxHeartbeats 4000000 in
theorem within_let (t : Tree) (IH : Hid (∀ k ∈ t.kids, WithinAt k)) (h21 : (t.kind == 21) = false) (h25 : (t.kind == 25) = false) (h26 : (t.kind == 26) = true) : WithinAt t := by
  intro w AB cB bl h hok hB hBl hBm hsz
  obtain ⟨i0, hi, hz0, hz1, hz2⟩ := info_parts use_info
  obtain ⟨i1, hj, hy0, hy1, hy2⟩ := info_parts str_infoU
  have hle := h.le
  have hmx := h.max
  have htx := h.txt
  have Hk := hide h.nodes
  have HB0w := hide (NBox.new w t)
  have HSz := hide (fun k (hk : k ∈ t.kids) => Tree.size_kid hk)
  have HS : Hid (t.size = sizes t.kids + 1) := hide (Tree.size_eq t)
  have hkl := Tree.kids_len t
  obtain ⟨W, hW⟩ : ∃ W, W = w.alloc (.cells #[.int .i64 t.kind, .int .i64 t.pos, .int .i64 t.n, encStr t.text, .slice t.A t.kids.length t.cap] 24) := ⟨_, rfl⟩
  have X0 : Hid (Ext w W) := hide (by rw [hW]; exact (Ext.refl w).alloc _)
  have hsW : W.heap.size = w.heap.size + 1 := by rw [hW]; simp
  rw [← hW] at HB0w
  have HB0 := HB0w
  clear HB0w
  have HS0 := hide (hB.ext X0.out)
  have HH := hide (ref_has AB cB bl t.text W HS0.out (by omega))
  have HRo := hide hok
  have hBle := hBl
  have hBmx := hBm
  clear hB
  obtain ⟨BL, hBL⟩ : ∃ BL, BL = bindsL t.kids ++ bl := ⟨_, rfl⟩
  have hR : usesL t (inL bl) = usesesL t.kids (inL BL) := by rw [hBL]; exact uses_let1 h26
  obtain ⟨pre, hpre⟩ : ∃ pre : List Use, pre = [] := ⟨_, rfl⟩
  have hp0 : pre.length = 0 := by rw [hpre]; rfl
  have HU : Hid (pre ++ usesesL t.kids (inL BL) = usesL t (inL bl)) := hide (by rw [hpre, hR]; rfl)
  have HKo : Hid (∀ k ∈ t.kids, refOk k) := hide (by have := (refOk_sh HRo.out (by rw [kind_eq h26]; rfl)).2; rwa [inner_else (by rw [kind_eq h26]; rfl)] at this)
  have HKr : Hid (∀ k ∈ t.kids, k.size + t.kids.length ≤ t.size) := hide (fun k hk => kid_room hk)
  have hbn := bindsL_len t.kids
  have hBLl : BL.length = (bindsL t.kids).length + bl.length := by rw [hBL, List.length_append]
  have HBLm : Hid (BL.map encStr = (bindsL t.kids).map encStr ++ bl.map encStr) := hide (by rw [hBL, List.map_append])
  have HBi := hide (fun w' (e : Ext W w') => hide (r_binds14o t.A t.cap t.kids w' (Hk.out.ext (X0.out.trans e)) (by omega)))
  have HSt : Hid (∀ k (h : k < t.kids.length), pre ++ usesesL (t.kids.take (k + 1)) (inL BL) = (pre ++ usesesL (t.kids.take k) (inL BL)) ++ usesL (t.kids[k]'h) (inL BL)) := hide (fun k hk => by rw [usesesL_take t.kids _ hk, List.append_assoc])
  have HSk : Hid (∀ k (h : k < t.kids.length), (usesesL (t.kids.take k) (inL BL)).length + (t.kids[k]'h).size ≤ sizes t.kids) := hide (fun k hk => usesesL_room t.kids _ hk)
  have HLn : Hid (∀ c : Tree, (usesL c (inL BL)).length ≤ c.size) := hide (fun c => usesL_len c _)
  have Hpre := hide hpre
  clear hR hBL
  generalize usesL t (inL bl) = R at *
  generalize bindsL t.kids = V at *
  unfold treeV at *
  have HN := hide h
  clear h
  generalize hA0 : t.A = A0 at *
  have HA0 := hide hA0
  clear hA0
  clear hsW
  have HBLl := hide hBLl
  clear hBLl
  go_enter Tryz.func23, Tryz.ntmps23
  go_wp2_with fail
  rw [← hW]
  clear hW
  have HBiw := HBi.out _ (Ext.refl W)
  refine HBiw.out.mono ?_
  rintro e w2 ⟨⟨v2, rfl, hO2⟩, hx2⟩
  have O2 := hide hO2
  have X2 := hide hx2
  clear hO2 hx2 HBi HBiw
  go_wp2_with (at_builtin; refine wpList_append_row _ rfl _ _ 31 rfl W.heap.size 9 i1 _ 1 16 Tryz.underlying31 hj hy0 hy1 hy2 rfl (by decide) v2 V.length (V.map encStr) rfl O2.out AB bl.length cB (bl.map encStr) rfl (HS0.out.ext X2.out) (one_strs bl) ?c4 ?c5 ?c6 ?_)
  case c4 => unfold maxLen; omega
  case c5 => omega
  case c6 => exact X2.out.size
  intro v3 w3 hown3 hg3 _
  have X3 := hide (Ext.app X2.out hg3 O2.out (Nat.le_refl _))
  have O3 : Hid (w3.ownsRow W.heap.size 9 1 v3 BL.length (BL.map encStr)) := hide (by rw [HBLm.out, HBLl.out]; exact hown3)
  obtain ⟨A5, c5, rfl, p1, p2, p3, -⟩ := Strs.of_own O3.out
  have P3 := hide p3
  clear hown3 hg3 p3
  have HB3 := hide (HB0.out.ext X3.out)
  clear HB0
  have HB0 := HB3
  have Xw := hide (X0.out.trans X3.out)
  have hle3 := Xw.out.size
  clear HB3 X0 O3 X2
  have X0 := Xw
  clear Xw
  have O1 : Hid (w3.ownsRow w3.heap.size 39 2 (.slice none 0 0) (pre ++ usesesL (t.kids.take 0) (inL BL)).length ((pre ++ usesesL (t.kids.take 0) (inL BL)).flatMap useC.f)) := hide (by rw [hpre]; exact World.ownsRow_nil _ _ _ _)
  have X1 : Hid (Ext w3 w3) := hide (Ext.refl _)
  clear hpre
  go_wp2
  go_loopw [5, 6] (fun v i wr => ∃ k : Nat, k ≤ t.kids.length ∧ i = .int .i64 k ∧ Hid (Ext w3 wr) ∧ Hid (wr.ownsRow w3.heap.size 39 2 v (pre ++ usesesL (t.kids.take k) (inL BL)).length ((pre ++ usesesL (t.kids.take k) (inL BL)).flatMap useC.f))) (fun _ i _ => t.kids.length - (intOf i).toNat)
  case atStart => exact ⟨0, Nat.zero_le _, rfl, X1, O1⟩
  case round =>
    obtain ⟨k, hk, rfl, HX, HO⟩ := hrel
    have HBr := hide (HB0.out.ext HX.out)
    have c0_r := HBr.out.c0
    have c1_r := HBr.out.c1
    have c2_r := HBr.out.c2
    have c3_r := HBr.out.c3
    have c4_r := HBr.out.c4
    rw [HA0.out] at c4_r
    have XR := hide (X0.out.trans HX.out)
    by_cases hlt : k < t.kids.length
    · have hlt' : (k : Int) < (t.kids.length : Int) := by omega
      have hk0 : (0 : Int) ≤ (k : Int) := by omega
      obtain ⟨b, o, rfl, hb, q0, q1, q2, q3, q4⟩ := (Hk.out.ext XR.out).at_ hlt
      have hck := List.getElem_mem hlt
      have hcs := HSz.out _ hck
      have Hst := hide (HSt.out k hlt)
      have hrm := HSk.out k hlt
      have hon := HLn.out (t.kids[k]'hlt)
      have hss := HS.out
      have HKc := hide ((Hk.out.kids _ hck).ext XR.out)
      have HC := hide (IH.out _ hck wr A5 c5 BL HKc.out (HKo.out _ hck) (P3.out.ext HX.out) p1 p2 (by have := HKr.out _ hck; have := HBLl.out; omega))
      have hpl : (pre ++ usesesL (t.kids.take k) (inL BL)).length ≤ pre.length + sizes t.kids := by rw [List.length_append]; omega
      clear hck
      generalize pre ++ usesesL (t.kids.take k) (inL BL) = L at *
      generalize usesL (t.kids[k]'hlt) (inL BL) = M at *
      generalize t.kids[k]'hlt = c at *
      go_wp2_with fail
      refine HC.out.mono ?_
      rintro e w4 ⟨⟨v4, rfl, hO4⟩, hx4⟩
      obtain ⟨A4, c4, rfl, l4, m4, hR4, -⟩ := RowOf.own useC hO4
      have R4 := hide hR4
      have X4 := hide (HX.out.trans hx4)
      have O4 := hide (own_extB HO.out hx4)
      clear hO4 hx4 hR4
      go_wp2_with (at_builtin; refine wpList_append_row _ rfl _ _ 28 rfl w3.heap.size 39 i0 _ 2 24 Tryz.underlying28 hi hz0 hz1 hz2 rfl (by decide) u5 L.length (L.flatMap useC.f) rfl O4.out A4 M.length c4 (M.flatMap useC.f) rfl R4.out (one_uses M) ?c4 ?c5 ?c6 ?_)
      case c4 => unfold maxLen; omega
      case c5 => omega
      case c6 => exact X4.out.size
      intro v5 w5 hown5 hg5 _
      have X5 := hide (Ext.appU X4.out hg5 O4.out (Nat.le_refl _))
      have O5 := hide hown5
      clear hown5 hg5
      go_wp2
      go_roundw
      case rel => exact ⟨k + 1, hlt, by go_num, X5, hide (by rw [Hst.out, List.flatMap_append, List.length_append]; exact O5.out)⟩
      case measure => simp [intOf]; omega
    · have hge : ¬ (k : Int) < (t.kids.length : Int) := by omega
      have HF : Hid (pre ++ usesesL (t.kids.take k) (inL BL) = R) := hide (by rw [List.take_of_length_le (by omega)]; exact HU.out)
      rw [HF.out] at HO
      go_wp2
      go_ret
      exact ⟨⟨_, rfl, own_mono HO.out (by omega)⟩, XR.out⟩

end Go.Proofs.YtnbnhchgkbbiiaaGreat

/- Contract on the reference: the names that a tree uses, in which some are bound: an alternative. -/
namespace Go.Proofs.YtnbnhchgkbbiiaaGreat
open Go.RowKit Go.Sort

set_option maxRecDepth 10000 in
set_option maxHeartbeats 4000000 in
theorem within_alt (t : Tree) (IH : Hid (∀ k ∈ t.kids, WithinAt k)) (h21 : (t.kind == 21) = false) (h25 : (t.kind == 25) = false) (h26 : (t.kind == 26) = false) (h15 : (t.kind == 15) = true) : WithinAt t := by
  intro w AB cB bl h hok hB hBl hBm hsz
  obtain ⟨i0, hi, hz0, hz1, hz2⟩ := info_parts use_info
  obtain ⟨i1, hj, hy0, hy1, hy2⟩ := info_parts str_infoU
  have hle := h.le
  have hmx := h.max
  have htx := h.txt
  have Hk := hide h.nodes
  have HB0w := hide (NBox.new w t)
  have HSz := hide (fun k (hk : k ∈ t.kids) => Tree.size_kid hk)
  have HS : Hid (t.size = sizes t.kids + 1) := hide (Tree.size_eq t)
  have hkl := Tree.kids_len t
  obtain ⟨W, hW⟩ : ∃ W, W = w.alloc (.cells #[.int .i64 t.kind, .int .i64 t.pos, .int .i64 t.n, encStr t.text, .slice t.A t.kids.length t.cap] 24) := ⟨_, rfl⟩
  have X0 : Hid (Ext w W) := hide (by rw [hW]; exact (Ext.refl w).alloc _)
  have hsW : W.heap.size = w.heap.size + 1 := by rw [hW]; simp
  rw [← hW] at HB0w
  have HB0 := HB0w
  clear HB0w
  have HS0 := hide (hB.ext X0.out)
  have HH := hide (ref_has AB cB bl t.text W HS0.out (by omega))
  have HRo := hide hok
  have hBle := hBl
  have hBmx := hBm
  clear hB
  have hl2 : t.kids.length = 2 := (refOk_sh HRo.out (by rw [kind_eq h15]; rfl)).1.2.2 (kind_eq h15)
  have hl0 : 0 < t.kids.length := by omega
  have hl1 : 1 < t.kids.length := by omega
  have hp0 : (0 : Int) < (t.kids.length : Int) := by omega
  have hp1 : (1 : Int) < (t.kids.length : Int) := by omega
  obtain ⟨BL, hBL⟩ : ∃ BL, BL = varsN (t.kids[0]'hl0) ++ bl := ⟨_, rfl⟩
  have hR : usesL t (inL bl) = usesL (t.kids[1]'hl1) (inL BL) := by rw [hBL]; exact uses_alt1 h15 hl1 hl0 hl2
  have hm0 := List.getElem_mem hl0
  have hm1 := List.getElem_mem hl1
  have ht2 : (t.kids[0]'hl0).size + (t.kids[1]'hl1).size ≤ sizes t.kids := by
    have e : t.kids = [t.kids[0]'hl0, t.kids[1]'hl1] := by
      refine List.ext_getElem (by simp [hl2]) (fun i a b => ?_)
      have : i = 0 ∨ i = 1 := by simp at b; omega
      rcases this with rfl | rfl <;> rfl
    have : sizes t.kids = sizes [t.kids[0]'hl0, t.kids[1]'hl1] := congrArg sizes e
    rw [this]
    simp [sizes]
  have hs0 := Hk.out.kids _ hm0
  have hs1 := Hk.out.kids _ hm1
  have hok1 : refOk (t.kids[1]'hl1) := (refOk_sh HRo.out (by rw [kind_eq h15]; rfl)).2 _ (by
    unfold inner
    rw [if_pos (kind_eq h15), List.mem_drop_iff_getElem]
    exact ⟨0, by omega, rfl⟩)
  have hvl : (varsN (t.kids[0]'hl0)).length ≤ (t.kids[0]'hl0).size := by unfold varsN; rw [List.length_map]; exact varsL_len _
  have hBLl : BL.length = (varsN (t.kids[0]'hl0)).length + bl.length := by rw [hBL, List.length_append]
  have HBLm : Hid (BL.map encStr = (varsN (t.kids[0]'hl0)).map encStr ++ bl.map encStr) := hide (by rw [hBL, List.map_append])
  have HIv := hide (fun w' (e : Ext W w') => hide (r_vars08 _ w' (hs0.ext (X0.out.trans e)) (by have := HS.out; omega)))
  have HIk := hide (fun w' (e : Ext W w') A5 c5 (hS : Strs w' A5 BL) (h1 : BL.length ≤ c5) (h2 : c5 ≤ 9223372036854775807) => hide (IH.out _ hm1 w' A5 c5 BL (hs1.ext (X0.out.trans e)) hok1 hS h1 h2 (by have := HS.out; omega)))
  rw [hR]
  clear hBL hR hs0 hs1 hok1 hm0 hm1
  unfold treeV at *
  generalize hA0 : t.A = A0 at *
  have HA0 := hide hA0
  clear hA0
  obtain ⟨b, o, hAe, hb⟩ := Hk.out.some_ (by omega)
  subst hAe
  have HQ0 : Hid (∀ w', Ext w w' → w'.cell? ⟨b, o, none⟩ = some (.int .i64 (t.kids[0]'hl0).kind) ∧ w'.cell? ⟨b, o + 1, none⟩ = some (.int .i64 (t.kids[0]'hl0).pos) ∧ w'.cell? ⟨b, o + 2, none⟩ = some (.int .i64 (t.kids[0]'hl0).n) ∧ w'.cell? ⟨b, o + 3, none⟩ = some (.string ⟨(t.kids[0]'hl0).text.toArray⟩) ∧ w'.cell? ⟨b, o + 4, none⟩ = some (.slice (t.kids[0]'hl0).A (t.kids[0]'hl0).kids.length (t.kids[0]'hl0).cap)) := hide (fun w' e => by have := (Hk.out.ext e).cells hl0; simpa using this)
  have HQ1 : Hid (∀ w', Ext w w' → w'.cell? ⟨b, o + 5, none⟩ = some (.int .i64 (t.kids[1]'hl1).kind) ∧ w'.cell? ⟨b, o + 5 + 1, none⟩ = some (.int .i64 (t.kids[1]'hl1).pos) ∧ w'.cell? ⟨b, o + 5 + 2, none⟩ = some (.int .i64 (t.kids[1]'hl1).n) ∧ w'.cell? ⟨b, o + 5 + 3, none⟩ = some (.string ⟨(t.kids[1]'hl1).text.toArray⟩) ∧ w'.cell? ⟨b, o + 5 + 4, none⟩ = some (.slice (t.kids[1]'hl1).A (t.kids[1]'hl1).kids.length (t.kids[1]'hl1).cap)) := hide (fun w' e => by have := (Hk.out.ext e).cells hl1; simpa using this)
  have hss := HS.out
  generalize usesL (t.kids[1]'hl1) (inL BL) = R at *
  generalize varsN (t.kids[0]'hl0) = V at *
  generalize t.kids[0]'hl0 = c at *
  generalize t.kids[1]'hl1 = d at *
  have HSa : Hid (∀ w', Ext W w' → w'.cell? ⟨w.heap.size, 3, none⟩ = some (encStr t.text) ∧ w'.cell? ⟨w.heap.size, 4, none⟩ = some (.slice (some ⟨b, o, none⟩) t.kids.length t.cap) ∧ w'.cell? ⟨b, o, none⟩ = some (.int .i64 c.kind) ∧ w'.cell? ⟨b, o + 1, none⟩ = some (.int .i64 c.pos) ∧ w'.cell? ⟨b, o + 2, none⟩ = some (.int .i64 c.n) ∧ w'.cell? ⟨b, o + 3, none⟩ = some (.string ⟨c.text.toArray⟩) ∧ w'.cell? ⟨b, o + 4, none⟩ = some (.slice c.A c.kids.length c.cap) ∧ w'.cell? ⟨b, o + 5, none⟩ = some (.int .i64 d.kind) ∧ w'.cell? ⟨b, o + 5 + 1, none⟩ = some (.int .i64 d.pos) ∧ w'.cell? ⟨b, o + 5 + 2, none⟩ = some (.int .i64 d.n) ∧ w'.cell? ⟨b, o + 5 + 3, none⟩ = some (.string ⟨d.text.toArray⟩) ∧ w'.cell? ⟨b, o + 5 + 4, none⟩ = some (.slice d.A d.kids.length d.cap)) := hide (by
    intro w' e
    have Hb := HB0.out.ext e
    have e3 := Hb.c3
    have e4 := Hb.c4
    rw [HA0.out] at e4
    obtain ⟨q0, q1, q2, q3, q4⟩ := HQ0.out _ (X0.out.trans e)
    obtain ⟨r0, r1, r2, r3, r4⟩ := HQ1.out _ (X0.out.trans e)
    exact ⟨e3, e4, q0, q1, q2, q3, q4, r0, r1, r2, r3, r4⟩)
  clear HQ0 HQ1
  have hroom : V.length + bl.length ≤ 100000 := by omega
  clear hle hmx htx hkl hss hl2
  have HBLl := hide hBLl
  clear hBLl
  go_enter Tryz.func23, Tryz.ntmps23
  go_wp2
  rw [← hW]
  clear hW hsW
  obtain ⟨e3, e4, q0, q1, q2, q3, q4, r0, r1, r2, r3, r4⟩ := HSa.out _ (Ext.refl W)
  go_region_held3 (fun w' => w'.cell? ⟨w.heap.size, 3, none⟩ = some (encStr t.text) ∧ w'.cell? ⟨w.heap.size, 4, none⟩ = some (.slice (some ⟨b, o, none⟩) t.kids.length t.cap) ∧ w'.cell? ⟨b, o, none⟩ = some (.int .i64 c.kind) ∧ w'.cell? ⟨b, o + 1, none⟩ = some (.int .i64 c.pos) ∧ w'.cell? ⟨b, o + 2, none⟩ = some (.int .i64 c.n) ∧ w'.cell? ⟨b, o + 3, none⟩ = some (.string ⟨c.text.toArray⟩) ∧ w'.cell? ⟨b, o + 4, none⟩ = some (.slice c.A c.kids.length c.cap) ∧ w'.cell? ⟨b, o + 5, none⟩ = some (.int .i64 d.kind) ∧ w'.cell? ⟨b, o + 5 + 1, none⟩ = some (.int .i64 d.pos) ∧ w'.cell? ⟨b, o + 5 + 2, none⟩ = some (.int .i64 d.n) ∧ w'.cell? ⟨b, o + 5 + 3, none⟩ = some (.string ⟨d.text.toArray⟩) ∧ w'.cell? ⟨b, o + 5 + 4, none⟩ = some (.slice d.A d.kids.length d.cap)) (first | assumption | go_keep) (first
    | (go_at_call 40
       refine Calls.mono (HIv.out _ ((Ext.refl _).drew)).out ?_
       rintro e w2 ⟨⟨v2, rfl, hO2⟩, hx2⟩
       have O2 := hide hO2
       have X2 := hide (((Ext.refl W).drew).trans hx2)
       have hS2 := HSa.out _ X2.out
       clear hO2 hx2)
    | (refine step_append_rowB _ rfl (.tmp 50) (.tmp 51) 31 rfl W.heap.size 9 i1 _ 1 16 Tryz.underlying31 hj hy0 hy1 hy2 rfl (by decide) v2 V.length (V.map encStr) rfl O2.out AB bl.length cB (bl.map encStr) rfl (HS0.out.ext X2.out) (one_strs bl) (by unfold maxLen; omega) (by omega) X2.out.size ?_
       intro v3 w3 hown3 hg3 _
       have X3 := hide (Ext.app X2.out hg3 O2.out (Nat.le_refl _))
       have hS3 := HSa.out _ X3.out
       have O3 : Hid (w3.ownsRow W.heap.size 9 1 v3 BL.length (BL.map encStr)) := hide (by rw [HBLm.out, HBLl.out]; exact hown3)
       obtain ⟨A5, c5, rfl, p1, p2, p3, -⟩ := Strs.of_own O3.out
       have P3 := hide p3
       clear hown3 hg3 p3)
    | (go_at_call 23
       refine Calls.mono (HIk.out _ X3.out A5 c5 P3.out p1 p2).out ?_
       rintro e w4 ⟨⟨v4, rfl, hO4⟩, hx4⟩
       have O4 := hide (own_mono hO4 (Nat.le_trans X0.out.size X3.out.size))
       have X4 := hide (X3.out.trans hx4)
       have hS4 := HSa.out _ X4.out
       clear hO4 hx4))
  clear hS2 hS3 hS4
  go_wp2
  go_ret
  exact ⟨⟨_, rfl, O4.out⟩, X0.out.trans X4.out⟩

end Go.Proofs.YtnbnhchgkbbiiaaGreat

/- Contract on the reference: the names that a tree uses, in which some are bound: a lambda. -/
namespace Go.Proofs.YtnbnhchgkbbiiaaGreat
open Go.RowKit Go.Sort

set_option maxRecDepth 10000 in
set_option maxHeartbeats 4000000 in
theorem within_lam (t : Tree) (IH : Hid (∀ k ∈ t.kids, WithinAt k)) (h21 : (t.kind == 21) = false) (h25 : (t.kind == 25) = true) : WithinAt t := by
  intro w AB cB bl h hok hB hBl hBm hsz
  obtain ⟨i0, hi, hz0, hz1, hz2⟩ := info_parts use_info
  obtain ⟨i1, hj, hy0, hy1, hy2⟩ := info_parts str_infoU
  have hle := h.le
  have hmx := h.max
  have htx := h.txt
  have Hk := hide h.nodes
  have HB0w := hide (NBox.new w t)
  have HSz := hide (fun k (hk : k ∈ t.kids) => Tree.size_kid hk)
  have HS : Hid (t.size = sizes t.kids + 1) := hide (Tree.size_eq t)
  have hkl := Tree.kids_len t
  obtain ⟨W, hW⟩ : ∃ W, W = w.alloc (.cells #[.int .i64 t.kind, .int .i64 t.pos, .int .i64 t.n, encStr t.text, .slice t.A t.kids.length t.cap] 24) := ⟨_, rfl⟩
  have X0 : Hid (Ext w W) := hide (by rw [hW]; exact (Ext.refl w).alloc _)
  have hsW : W.heap.size = w.heap.size + 1 := by rw [hW]; simp
  rw [← hW] at HB0w
  have HB0 := HB0w
  clear HB0w
  have HS0 := hide (hB.ext X0.out)
  have HH := hide (ref_has AB cB bl t.text W HS0.out (by omega))
  have HRo := hide hok
  have hBle := hBl
  have hBmx := hBm
  clear hB
  have hl2 : t.kids.length = 1 := (refOk_sh HRo.out (by rw [kind_eq h25]; rfl)).1.2.1 (kind_eq h25)
  have hl0 : 0 < t.kids.length := by omega
  have hp0 : (0 : Int) < (t.kids.length : Int) := by omega
  obtain ⟨BL, hBL⟩ : ∃ BL, BL = [t.text] ++ bl := ⟨_, rfl⟩
  have hR : usesL t (inL bl) = usesL (t.kids[0]'hl0) (inL BL) := by rw [hBL]; exact uses_lam1 h25 hl0 hl2
  have hm0 := List.getElem_mem hl0
  have hs0 := Hk.out.kids _ hm0
  have hz0 := HSz.out _ hm0
  have hok1 : refOk (t.kids[0]'hl0) := (refOk_sh HRo.out (by rw [kind_eq h25]; rfl)).2 _ (by
    unfold inner
    rw [if_neg (by rw [kind_eq h25]; decide)]
    exact hm0)
  have hBLl : BL.length = 1 + bl.length := by rw [hBL, List.length_append]; rfl
  have HBLm : Hid (BL.map encStr = [encStr t.text] ++ bl.map encStr) := hide (by rw [hBL, List.map_append]; rfl)
  have HIk := hide (fun w' (e : Ext W w') A5 c5 (hS : Strs w' A5 BL) (h1 : BL.length ≤ c5) (h2 : c5 ≤ 9223372036854775807) => hide (IH.out _ hm0 w' A5 c5 BL (hs0.ext (X0.out.trans e)) hok1 hS h1 h2 (by omega)))
  rw [hR]
  clear hBL hR hs0 hok1 hm0
  unfold treeV at *
  generalize hA0 : t.A = A0 at *
  have HA0 := hide hA0
  clear hA0
  obtain ⟨b, o, hAe, hb⟩ := Hk.out.some_ (by omega)
  subst hAe
  have HQ0 : Hid (∀ w', Ext w w' → w'.cell? ⟨b, o, none⟩ = some (.int .i64 (t.kids[0]'hl0).kind) ∧ w'.cell? ⟨b, o + 1, none⟩ = some (.int .i64 (t.kids[0]'hl0).pos) ∧ w'.cell? ⟨b, o + 2, none⟩ = some (.int .i64 (t.kids[0]'hl0).n) ∧ w'.cell? ⟨b, o + 3, none⟩ = some (.string ⟨(t.kids[0]'hl0).text.toArray⟩) ∧ w'.cell? ⟨b, o + 4, none⟩ = some (.slice (t.kids[0]'hl0).A (t.kids[0]'hl0).kids.length (t.kids[0]'hl0).cap)) := hide (fun w' e => by have := (Hk.out.ext e).cells hl0; simpa using this)
  generalize usesL (t.kids[0]'hl0) (inL BL) = R at *
  generalize t.kids[0]'hl0 = c at *
  have HSa : Hid (∀ w', Ext W w' → w'.cell? ⟨w.heap.size, 3, none⟩ = some (encStr t.text) ∧ w'.cell? ⟨w.heap.size, 4, none⟩ = some (.slice (some ⟨b, o, none⟩) t.kids.length t.cap) ∧ w'.cell? ⟨b, o, none⟩ = some (.int .i64 c.kind) ∧ w'.cell? ⟨b, o + 1, none⟩ = some (.int .i64 c.pos) ∧ w'.cell? ⟨b, o + 2, none⟩ = some (.int .i64 c.n) ∧ w'.cell? ⟨b, o + 3, none⟩ = some (.string ⟨c.text.toArray⟩) ∧ w'.cell? ⟨b, o + 4, none⟩ = some (.slice c.A c.kids.length c.cap)) := hide (by
    intro w' e
    have Hb := HB0.out.ext e
    have e3 := Hb.c3
    have e4 := Hb.c4
    rw [HA0.out] at e4
    obtain ⟨q0, q1, q2, q3, q4⟩ := HQ0.out _ (X0.out.trans e)
    exact ⟨e3, e4, q0, q1, q2, q3, q4⟩)
  have O2 : Hid ((W.drew.alloc (.cells #[encStr t.text] 9)).ownsRow W.heap.size 9 1 (.slice (some ⟨W.heap.size, 0, none⟩) 1 1) 1 [encStr t.text]) := hide (World.ownsRow_lit (base := W.heap.size) (e := 9) (size := 1) W.drew #[encStr t.text] 1 (Nat.le_refl _) (by unfold maxLen; omega) rfl)
  have X2 : Hid (Ext W (W.drew.alloc (.cells #[encStr t.text] 9))) := hide (((Ext.refl W).drew).alloc _)
  clear HQ0
  clear hle hmx htx hkl hl2
  have HBLl := hide hBLl
  clear hBLl
  go_enter Tryz.func23, Tryz.ntmps23
  go_wp2
  rw [← hW]
  clear hW
  clear hsW
  obtain ⟨e3, e4, q0, q1, q2, q3, q4⟩ := HSa.out _ (Ext.refl W)
  go_region_held3 (fun w' => w'.cell? ⟨w.heap.size, 3, none⟩ = some (encStr t.text) ∧ w'.cell? ⟨w.heap.size, 4, none⟩ = some (.slice (some ⟨b, o, none⟩) t.kids.length t.cap) ∧ w'.cell? ⟨b, o, none⟩ = some (.int .i64 c.kind) ∧ w'.cell? ⟨b, o + 1, none⟩ = some (.int .i64 c.pos) ∧ w'.cell? ⟨b, o + 2, none⟩ = some (.int .i64 c.n) ∧ w'.cell? ⟨b, o + 3, none⟩ = some (.string ⟨c.text.toArray⟩) ∧ w'.cell? ⟨b, o + 4, none⟩ = some (.slice c.A c.kids.length c.cap)) (first | assumption | go_keep) (first
    | (refine step_append_rowB _ rfl (.tmp 29) (.tmp 30) 31 rfl W.heap.size 9 i1 _ 1 16 Tryz.underlying31 hj hy0 hy1 hy2 rfl (by decide) (.slice (some ⟨W.heap.size, 0, none⟩) 1 1) 1 [encStr t.text] rfl O2.out AB bl.length cB (bl.map encStr) rfl (HS0.out.ext X2.out) (one_strs bl) (by unfold maxLen; omega) (by omega) X2.out.size ?_
       intro v3 w3 hown3 hg3 _
       have X3 := hide (Ext.app X2.out hg3 O2.out (Nat.le_refl _))
       have hS3 := HSa.out _ X3.out
       have O3 : Hid (w3.ownsRow W.heap.size 9 1 v3 BL.length (BL.map encStr)) := hide (by rw [HBLm.out, HBLl.out]; exact hown3)
       obtain ⟨A5, c5, rfl, p1, p2, p3, -⟩ := Strs.of_own O3.out
       have P3 := hide p3
       clear hown3 hg3 p3)
    | (go_at_call 23
       refine Calls.mono (HIk.out _ X3.out A5 c5 P3.out p1 p2).out ?_
       rintro e w4 ⟨⟨v4, rfl, hO4⟩, hx4⟩
       have O4 := hide (own_mono hO4 (Nat.le_trans X0.out.size X3.out.size))
       have X4 := hide (X3.out.trans hx4)
       have hS4 := HSa.out _ X4.out
       clear hO4 hx4))
  clear hS3 hS4
  go_wp2
  go_ret
  exact ⟨⟨_, rfl, O4.out⟩, X0.out.trans X4.out⟩

end Go.Proofs.YtnbnhchgkbbiiaaGreat

/- Contract on the reference: the names that a tree uses, in which some are bound: joined. -/
namespace Go.Proofs.YtnbnhchgkbbiiaaGreat
open Go.RowKit Go.Sort

theorem r_within (t : Tree) : WithinAt t := by
  induction t using Tree.ind with
  | h t ih =>
  have IH := hide ih
  cases h21 : (t.kind == 21)
  · cases h25 : (t.kind == 25)
    · cases h26 : (t.kind == 26)
      · cases h15 : (t.kind == 15)
        · cases h32 : (t.kind == 32)
          · exact within_else t IH h21 h25 h26 h15 h32
          · exact within_sig t h21 h25 h26 h15 h32
        · exact within_alt t IH h21 h25 h26 h15
      · exact within_let t IH h21 h25 h26
    · exact within_lam t IH h21 h25
  · exact within_var t h21

end Go.Proofs.YtnbnhchgkbbiiaaGreat

/- The reference's sets: sorted lists. Finding a place. (The plain words lie in StPl.) -/
namespace Go.Proofs.YtnbnhchgkbbiiaaGreat
open Go.RowKit Go.Sort

set_option maxHeartbeats 1000000 in
theorem ref_find (A : Option Addr) (cap : Nat) (l : List Str) (x : Str) (w : World) (h : Strs w A l) (hle : l.length ≤ 9223372036854775807) :
    Calls Tryz.prog 69 #[.slice A l.length cap, encStr x] w fun e w' => e = .returned (.tuple #[.int .i64 (findN l x), .bool (findB l x)]) ∧ Ext w w' := by
  have Hr := hide h
  have Hat := hide (findN_at l x)
  have HB : Hid (findB l x = (decide (findN l x < l.length) && (l.getD (findN l x) [] == x))) := hide rfl
  clear h
  generalize findB l x = B at *
  generalize findN l x = N at *
  go_enter Tryz.func69, Tryz.ntmps69
  go_wp2
  go_loop [6] (fun i => ∃ j : Nat, j ≤ l.length ∧ i = .int .i64 j ∧ Hid (∀ i, i < j → lessB (l.getD i []) x = true)) (fun i => l.length - (intOf i).toNat)
  case atStart => exact ⟨0, Nat.zero_le _, rfl, hide (fun i hi => absurd hi (by omega))⟩
  case round =>
    obtain ⟨j, hj, rfl, Hj⟩ := hrel
    by_cases hlt : j < l.length
    · obtain ⟨b, o, rfl, hb, hc⟩ := Hr.out.at_ hlt
      have hlt' : (j : Int) < (l.length : Int) := by omega
      have hj0 : (0 : Int) ≤ (j : Int) := by omega
      generalize hy : l.getD j [] = y at hc
      have Hy := hide hy
      clear hy
      cases hs : (Op.bytesLess y x)
      · have hN := Hat.out j hj Hj.out (fun _ => by rw [Hy.out]; exact hs)
        subst hN
        cases he : (y == x)
        · have hB : B = false := by rw [HB.out, Hy.out]; simp only [hlt, he]; rfl
          subst hB
          go_wp2
          go_quiet (fail)
          go_wp2
          go_ret2
          exact ⟨rfl, (by repeat (first | exact Ext.refl _ | exact Ext.pre (by simp) | exact Ext.alloc (by assumption) _ | refine Ext.alloc ?_ _ |  refine Ext.more ?_ _ _ | refine Ext.drew ?_ | refine Ext.drewN ?_ _))⟩
        · have hB : B = true := by rw [HB.out, Hy.out]; simp only [hlt, he]; rfl
          subst hB
          go_wp2
          go_quiet (fail)
          go_wp2
          go_ret2
          exact ⟨rfl, (by repeat (first | exact Ext.refl _ | exact Ext.pre (by simp) | exact Ext.alloc (by assumption) _ | refine Ext.alloc ?_ _ |  refine Ext.more ?_ _ _ | refine Ext.drew ?_ | refine Ext.drewN ?_ _))⟩
      · go_wp2
        go_round
        case rel =>
          refine ⟨j + 1, hlt, by go_num, hide (fun i hi => ?_)⟩
          by_cases hij : i = j
          · rw [hij, Hy.out]; exact hs
          · exact Hj.out i (by omega)
        case measure => simp [intOf]; omega
    · have hge : (l.length : Int) ≤ (j : Int) := by omega
      have hd : decide ((j : Int) < (l.length : Int)) = false := by simp; omega
      have hN := Hat.out j hj Hj.out (fun hh => absurd hh hlt)
      subst hN
      have hB : B = false := by rw [HB.out]; simp [hlt]
      subst hB
      go_wp2
      go_quiet (fail)
      go_wp2
      go_ret2
      exact ⟨rfl, (by repeat (first | exact Ext.refl _ | exact Ext.pre (by simp) | exact Ext.alloc (by assumption) _ | refine Ext.alloc ?_ _ |  refine Ext.more ?_ _ _ | refine Ext.drew ?_ | refine Ext.drewN ?_ _))⟩

end Go.Proofs.YtnbnhchgkbbiiaaGreat

/- The reference's sets: with a text, without one. -/
namespace Go.Proofs.YtnbnhchgkbbiiaaGreat
open Go.RowKit Go.Sort

section
variable {P : Program} (w : World)
theorem step_append_row {ops : Array Oper} {o : Oper} {a : Act} {K : Act → World → Prop} {Q : Exit → Act → World → Prop} {E : Prop} (hgd : o.guard = none) (s x : Operand) (t : TypeId)
    (ho : o.op = .call { callee := .builtin .append, args := #[s, x], argTypes := #[t, t] })
    (base : Nat) (e : TypeId) (i : TypeInfo) (z : Value) (size bytes : Nat) (ht : P.underlying t = some (.slice e)) (hi : P.info? e = some i) (hz : i.zero = some z)
    (hsize : i.size = size) (hby : i.bytes = bytes) (hzs : z.cells.size = size) (hsz : 0 < size)
    (v : Value) (n : Nat) (xs : List Value) (hs : a.eval s = v) (hown : w.ownsRow base e size v n xs)
    (A : Option Addr) (m c : Nat) (news : List Value) (hx : a.eval x = .slice A m c) (hr : Row w A size m news) (h1 : ∀ u ∈ news, u.oneCell' = true)
    (h63 : n + m ≤ maxLen) (hbytes : (n + m) * bytes ≤ 140737488355328) (hbase : base ≤ w.heap.size)
    (h : ∀ v' w', w'.ownsRow base e size v' (n + m) (xs ++ news) → w.grownBy w' v.ownBlock → (v'.ownBlock = v.ownBlock ∨ v'.ownBlock = some w.heap.size) → K (a.put o.dst v') w') :
    if Region.wanted o (yielded ops a.tmps) = true then Oper.wp P o a w K Q else E := by
  have hw : Region.wanted o (yielded ops a.tmps) = true := by simp [Region.wanted, hgd]
  rw [if_pos hw]
  exact wp_append_row w s x t ho base e i z size bytes ht hi hz hsize hby hzs hsz v n xs hs hown A m c news hx hr h1 h63 hbytes hbase h
end

theorem str_info : (Tryz.prog.info? 9).map (fun i => (i.zero, i.size, i.bytes)) = some (some (.string ⟨#[]⟩), 1, 16) := by kernel_rfl

theorem Strs.takeR {w : World} {A : Option Addr} {l : List Str} (h : Strs w A l) {k : Nat} (hk : k ≤ l.length) : Row w A 1 k ((l.take k).map encStr) := by
  have := h.take hk
  unfold Strs at this
  rwa [List.length_take, Nat.min_eq_left hk] at this
theorem Strs.cutR {w : World} {A : Option Addr} {l : List Str} (h : Strs w A l) {k cap : Nat} (hk : k ≤ l.length) (hc : l.length ≤ cap) (hne : ¬ cap = k) : Row w (A.map (·.add k)) 1 (l.length - k) ((l.drop k).map encStr) := by
  have := h.cut hk hc
  unfold Strs at this
  rw [if_neg hne] at this
  rwa [List.length_drop, Nat.mul_one] at this
theorem Row.box {w : World} {b : Nat} {t : TypeId} {fr : Nat × Nat} (v : Value) (h : w.heap[b]? = some (.cells #[v] t fr)) : Row w (some ⟨b, 0, none⟩) 1 1 [v] := by
  refine ⟨rfl, fun _ => ⟨b, 0, rfl, lt_of_obj h, fun j u hu => ?_⟩⟩
  match j with
  | 0 => simp at hu; subst hu; simp [World.cell?, h]
  | j + 1 => simp at hu

theorem at_new (w : World) (o : Obj) (n : Nat) (h : n = w.heap.size) : (w.alloc o).heap[n]? = some o := by subst h; exact heap_alloc_new w o

set_option maxRecDepth 10000 in
set_option maxHeartbeats 4000000 in
theorem ref_add_in (A : Option Addr) (cap : Nat) (l L : List Str) (x : Str) (w : World) (N : Nat) (h : Strs w A l) (hl : l.length ≤ 100000) (hle : l.length ≤ cap) (hcap : cap ≤ 9223372036854775807) (hN : N ≤ l.length)
    (hck : ¬ cap = N) (he : L = l.take N ++ [x] ++ l.drop N) (hf : Calls Tryz.prog 69 #[.slice A l.length cap, encStr x] w fun e w' => e = .returned (.tuple #[.int .i64 N, .bool false]) ∧ Ext w w') :
    Calls Tryz.prog 45 #[.slice A l.length cap, encStr x] w fun e w' => (∃ A' cap', e = .returned (.tuple #[.slice A' L.length cap', .bool true]) ∧ L.length ≤ cap' ∧ cap' ≤ 9223372036854775807 ∧ Strs w' A' L) ∧ Ext w w' := by
  have hN1 : (N : Int) ≤ (l.length : Int) := by omega
  have hN2 : (N : Int) ≤ (cap : Int) := by omega
  have hN3 : (l.length : Int) ≤ (cap : Int) := by omega
  have hlen : L.length = l.length + 1 := by rw [he]; simp; omega
  have Hlen := hide hlen
  obtain ⟨i0, hi, hz0, hz1, hz2⟩ := info_parts str_info
  have HE := hide he
  have Hf := hide hf
  have Hcut := hide (h.cutR hN hle hck)
  have Htake := hide (h.takeR hN)
  clear h he hf hlen
  go_enter Tryz.func45, Tryz.ntmps45
  go_wp2_with fail
  refine Hf.out.mono ?_
  rintro e w1 ⟨rfl, l1, d1, rfl⟩
  go_wp2
  go_region_law (first
    | (refine step_append_row _ rfl (.const (.slice none 0 0)) (.tmp 18) 31 rfl w.heap.size 9 i0 _ 1 16 Tryz.underlying31 hi hz0 hz1 hz2 rfl (by decide) (.slice none 0 0) 0 [] rfl (World.ownsRow_nil _ _ _ _) A N cap ((l.take N).map encStr) rfl (Htake.out.ext (by repeat (first | exact Ext.refl _ | exact Ext.pre (by simp) | exact Ext.alloc (by assumption) _ | refine Ext.alloc ?_ _ |  refine Ext.more ?_ _ _ | refine Ext.drew ?_ | refine Ext.drewN ?_ _))) (one_strs _) (by unfold maxLen; omega) (by omega) (Ext.size (by repeat (first | exact Ext.refl _ | exact Ext.pre (by simp) | exact Ext.alloc (by assumption) _ | refine Ext.alloc ?_ _ |  refine Ext.more ?_ _ _ | refine Ext.drew ?_ | refine Ext.drewN ?_ _))) ?_
       intro v1 w2 hown1 hg1 hat1
       have He1 := hide (Ext.app (by repeat (first | exact Ext.refl _ | exact Ext.pre (by simp) | exact Ext.alloc (by assumption) _ | refine Ext.alloc ?_ _ |  refine Ext.more ?_ _ _ | refine Ext.drew ?_ | refine Ext.drewN ?_ _)) hg1 (World.ownsRow_nil _ w.heap.size 9 1) (Nat.le_refl _))
       have Hg1 := hide hg1
       rw [Nat.zero_add, List.nil_append] at hown1
       have Hown1 := hide hown1
       clear hown1 hg1 hat1)
    | (refine step_append_row _ rfl (.tmp 22) (.tmp 25) 31 rfl w.heap.size 9 i0 _ 1 16 Tryz.underlying31 hi hz0 hz1 hz2 rfl (by decide) v2 (N + 1) ((l.take N).map encStr ++ [encStr x]) rfl Hown2.out (A.map (·.add N)) (l.length - N) (cap - N) ((l.drop N).map encStr) rfl (Hcut.out.ext He2.out) (one_strs _) (by unfold maxLen; omega) (by omega) (by have := He2.out.size; omega) ?_
       intro v3 w4 hown3 hg3 hat3
       have He3 := hide (Ext.app He2.out hg3 Hown2.out (Nat.le_refl _))
       have Hown3 := hide hown3
       clear hown3 hg3 hat3)
    | (refine step_append_row _ rfl (.tmp 19) (.tmp 21) 31 rfl w.heap.size 9 i0 _ 1 16 Tryz.underlying31 hi hz0 hz1 hz2 rfl (by decide) v1 N ((l.take N).map encStr) rfl (by first | exact Hown1.out.alloc _ | exact Hown1.out) (some ⟨_, 0, none⟩) 1 1 [encStr x] rfl
         (by first | exact Row.box _ (heap_alloc_new _ _) | exact Row.box _ ((Hg1.out.block _ (by simp) (by simp [Value.ownBlock])).trans (at_new _ _ _ (by simp))))
         (by intro u hu; simp at hu; subst hu; rfl) (by unfold maxLen; omega) (by omega) (Ext.size (by first | exact He1.out.alloc _ | exact He1.out)) ?_
       intro v2 w3 hown2 hg2 hat2
       have He2 := hide (Ext.app (by first | exact He1.out.alloc _ | exact He1.out) hg2 (by first | exact Hown1.out.alloc _ | exact Hown1.out) (Nat.le_refl _))
       have Hown2 := hide hown2
       clear hown2 hg2 hat2))
  all_goals
    have h3 := Hown3.out
    rw [show N + 1 + (l.length - N) = L.length by have := Hlen.out; omega, show List.map encStr (List.take N l) ++ [encStr x] ++ List.map encStr (List.drop N l) = L.map encStr by rw [HE.out]; simp] at h3
    obtain ⟨A', cap', rfl, hc1, hc2, hs, _⟩ := Strs.of_own h3
    have Hs := hide hs
    clear h3 hs Hown3
    go_wp2
    exact bodyPost_ret (v := .tuple #[.slice A' L.length cap', .bool true]) (by simp [results, Tryz.results45, go_sem]) rfl ⟨⟨A', cap', rfl, hc1, hc2, Hs.out⟩, He3.out⟩


end Go.Proofs.YtnbnhchgkbbiiaaGreat

/- The reference's sets: with a text, at the very end. -/
namespace Go.Proofs.YtnbnhchgkbbiiaaGreat
open Go.RowKit Go.Sort

set_option maxRecDepth 10000 in
set_option maxHeartbeats 4000000 in
theorem ref_add_end (A : Option Addr) (cap : Nat) (l L : List Str) (x : Str) (w : World) (N : Nat) (h : Strs w A l) (hl : l.length ≤ 100000) (hcap : cap ≤ 9223372036854775807) (hN : N = l.length)
    (hck : cap = l.length) (he : L = l ++ [x]) (hf : Calls Tryz.prog 69 #[.slice A l.length cap, encStr x] w fun e w' => e = .returned (.tuple #[.int .i64 N, .bool false]) ∧ Ext w w') :
    Calls Tryz.prog 45 #[.slice A l.length cap, encStr x] w fun e w' => (∃ A' cap', e = .returned (.tuple #[.slice A' L.length cap', .bool true]) ∧ L.length ≤ cap' ∧ cap' ≤ 9223372036854775807 ∧ Strs w' A' L) ∧ Ext w w' := by
  subst hN
  subst hck
  have hlen : L.length = l.length + 1 := by rw [he]; simp
  have Hlen := hide hlen
  obtain ⟨i0, hi, hz0, hz1, hz2⟩ := info_parts str_info
  have HE := hide he
  have Hf := hide hf
  have Htake : Hid (Row w A 1 l.length (l.map encStr)) := hide h
  clear h he hf hlen
  generalize l.length = M at *
  go_enter Tryz.func45, Tryz.ntmps45
  go_wp2_with fail
  refine Hf.out.mono ?_
  rintro e w1 ⟨rfl, l1, d1, rfl⟩
  go_wp2
  go_region_law (first
    | (refine step_append_row _ rfl (.const (.slice none 0 0)) (.tmp 18) 31 rfl w.heap.size 9 i0 _ 1 16 Tryz.underlying31 hi hz0 hz1 hz2 rfl (by decide) (.slice none 0 0) 0 [] rfl (World.ownsRow_nil _ _ _ _) A M M (l.map encStr) rfl (Htake.out.ext (by repeat (first | exact Ext.refl _ | exact Ext.pre (by simp) | exact Ext.alloc (by assumption) _ | refine Ext.alloc ?_ _ |  refine Ext.more ?_ _ _ | refine Ext.drew ?_ | refine Ext.drewN ?_ _))) (one_strs _) (by unfold maxLen; omega) (by omega) (Ext.size (by repeat (first | exact Ext.refl _ | exact Ext.pre (by simp) | exact Ext.alloc (by assumption) _ | refine Ext.alloc ?_ _ |  refine Ext.more ?_ _ _ | refine Ext.drew ?_ | refine Ext.drewN ?_ _))) ?_
       intro v1 w2 hown1 hg1 hat1
       have He1 := hide (Ext.app (by repeat (first | exact Ext.refl _ | exact Ext.pre (by simp) | exact Ext.alloc (by assumption) _ | refine Ext.alloc ?_ _ |  refine Ext.more ?_ _ _ | refine Ext.drew ?_ | refine Ext.drewN ?_ _)) hg1 (World.ownsRow_nil _ w.heap.size 9 1) (Nat.le_refl _))
       have Hg1 := hide hg1
       rw [Nat.zero_add, List.nil_append] at hown1
       have Hown1 := hide hown1
       clear hown1 hg1 hat1)
    | (refine step_append_row _ rfl (.tmp 22) (.tmp 25) 31 rfl w.heap.size 9 i0 _ 1 16 Tryz.underlying31 hi hz0 hz1 hz2 rfl (by decide) v2 (M + 1) (l.map encStr ++ [encStr x]) rfl Hown2.out A 0 0 [] rfl (Row.nil A 1) (by simp) (by unfold maxLen; omega) (by omega) (by have := He2.out.size; omega) ?_
       intro v3 w4 hown3 hg3 hat3
       have He3 := hide (Ext.app He2.out hg3 Hown2.out (Nat.le_refl _))
       have Hown3 := hide hown3
       clear hown3 hg3 hat3)
    | (refine step_append_row _ rfl (.tmp 19) (.tmp 21) 31 rfl w.heap.size 9 i0 _ 1 16 Tryz.underlying31 hi hz0 hz1 hz2 rfl (by decide) v1 M (l.map encStr) rfl (by first | exact Hown1.out.alloc _ | exact Hown1.out) (some ⟨_, 0, none⟩) 1 1 [encStr x] rfl
         (by first | exact Row.box _ (heap_alloc_new _ _) | exact Row.box _ ((Hg1.out.block _ (by simp) (by simp [Value.ownBlock])).trans (at_new _ _ _ (by simp))))
         (by intro u hu; simp at hu; subst hu; rfl) (by unfold maxLen; omega) (by omega) (Ext.size (by first | exact He1.out.alloc _ | exact He1.out)) ?_
       intro v2 w3 hown2 hg2 hat2
       have He2 := hide (Ext.app (by first | exact He1.out.alloc _ | exact He1.out) hg2 (by first | exact Hown1.out.alloc _ | exact Hown1.out) (Nat.le_refl _))
       have Hown2 := hide hown2
       clear hown2 hg2 hat2))
  all_goals
    have h3 := Hown3.out
    rw [show M + 1 + 0 = L.length by have := Hlen.out; omega, show List.map encStr l ++ [encStr x] ++ [] = L.map encStr by rw [HE.out]; simp] at h3
    obtain ⟨A', cap', rfl, hc1, hc2, hs, _⟩ := Strs.of_own h3
    have Hs := hide hs
    clear h3 hs Hown3
    go_wp2
    exact bodyPost_ret (v := .tuple #[.slice A' L.length cap', .bool true]) (by simp [results, Tryz.results45, go_sem]) rfl ⟨⟨A', cap', rfl, hc1, hc2, Hs.out⟩, He3.out⟩


end Go.Proofs.YtnbnhchgkbbiiaaGreat
