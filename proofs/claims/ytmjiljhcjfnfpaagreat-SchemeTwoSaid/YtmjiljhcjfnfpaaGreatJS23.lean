/- Contract: the scheme for all variables but some (scheme's Close). -/
import Derived.Test.YtmjiljhcjfnfpaaGreatJS22
import Derived.Test.YtmjiljhcjfnfpaaGreatBsI
/- Contract: the scheme for all variables but some (scheme's Close). -/
namespace Go.Proofs.YtmjiljhcjfnfpaaGreat
open Go.RowKit Go.Shelf Go.Sort

/-- What is kept, sorted; how many new variables there are. -/
structure ClSt (bk bn g n : Nat) (ks : List Int) (c : Int) (w : World) : Prop where
  box : w.heap[bk]? = some (.cells #[.slice (some ⟨g, 0, none⟩) n n] 31 (0, 0))
  row : ∀ j, j < ks.length → w.cell? ⟨g, 0 + j, none⟩ = some (.int .i64 (ks.getD j 0))
  cnt : w.heap[bn]? = some (.cells #[.int .i64 c] 3 (0, 0))
  gl : g < w.heap.size

set_option maxRecDepth 10000 in
set_option maxHeartbeats 4000000 in
theorem sc_close1 (x c : Int) (bk bn g n : Nat) (ks : List Int) (w : World) (h : ClSt bk bn g n ks c w) (hn : ks.length = n) (hs : ks.Pairwise (· ≤ ·)) (hx : ks.contains x = true → -9223372036854775808 ≤ x ∧ x ≤ 9223372036854775807) (hc0 : 0 ≤ c) (hc : c ≤ 1000000) (hnl : n ≤ 1000000) (hbb : bk ≠ bn) (hgb : g ≠ bn) :
    Calls Tryz.prog 40 #[.int .i64 x, .pointer (some ⟨bk, 0, none⟩), .pointer (some ⟨bn, 0, none⟩)] w fun e w' => e = .returned (.int .i64 (if ks.contains x = true then min x (-1 - x) else c)) ∧ ClSt bk bn g n ks (if ks.contains x = true then c else c + 1) w' ∧ w.grownBy w' (some bn) := by
  have HB := hide (fun w' (q : Nat) (e : w' = w.drewN q) => (show Calls Tryz.prog 41 #[.slice (some ⟨g, 0, none⟩) n n, .int .i64 x] w' _ from AnyG.slices_BinarySearch_int (P := Tryz.prog) (ρ := Tryz.lBs_ren) Tryz.lBs g 0 n n ks x w' (by omega) (by omega) (fun j hj => by subst e; exact h.row j hj) (by rw [← hn, List.take_length]; exact hs)))
  have b0 : w.cell? ⟨bk, 0, none⟩ = some (.slice (some ⟨g, 0, none⟩) n n) := bytes_block h.box 0
  have n0 : w.cell? ⟨bn, 0, none⟩ = some (.int .i64 c) := bytes_block h.cnt 0
  have nf : w.frozen? ⟨bn, 0, none⟩ = false := free_block h.cnt 0
  have hbl := lt_of_obj h.box
  have hnlt := lt_of_obj h.cnt
  have H := hide h
  have htk : ks.take n = ks := by rw [← hn, List.take_length]
  rw [htk] at HB
  clear h htk
  obtain ⟨r1, hr1⟩ : ∃ r1, r1 = (if ks.contains x = true then min x (-1 - x) else c) := ⟨_, rfl⟩
  obtain ⟨r2, hr2⟩ : ∃ r2, r2 = (if ks.contains x = true then c else c + 1) := ⟨_, rfl⟩
  rw [← hr1, ← hr2]
  cases hcn : ks.contains x
  · rw [hcn, if_neg (by simp)] at hr1 hr2
    rw [hcn] at HB
    have HB0 := hide (HB.out w 0 rfl)
    clear HB hcn hx
    subst hr1 hr2
    go_enter Tryz.func40, Tryz.ntmps40
    go_wp2_with fail
    refine HB0.out.mono ?_
    rintro e w2 ⟨rfl, q, rfl⟩
    go_wp2
    go_ret
    exact ⟨rfl, ⟨(Below.heap_setCell (w.drewN q) ⟨bn, 0, none⟩ _ bk hbb).trans H.out.box, fun j hj => (World.cell?_of_block (Below.heap_setCell (w.drewN q) ⟨bn, 0, none⟩ _ g hgb)).trans (H.out.row j hj), blk_setCell (w := w.drewN q) H.out.cnt 0 _, by simpa [World.setCell, World.drewN] using H.out.gl⟩, grown_trans (ext_grown ((Ext.refl w).drewN q) _) (grown_cell _ _ _ _)⟩
  · rw [hcn, if_pos rfl] at hr1 hr2
    have hxb := hx hcn
    rw [hcn] at HB
    have HB0 := hide (HB.out w 0 rfl)
    have hw1 : IntKind.i64.wrap (-1 - x) = -1 - x := by rw [IntKind.wrap_i64]; omega
    have HR1 := hide hr1
    clear HB hcn hx hr1
    subst hr2
    go_enter Tryz.func40, Tryz.ntmps40
    go_wp2_with fail
    refine HB0.out.mono ?_
    rintro e w2 ⟨rfl, q, rfl⟩
    go_wp2
    all_goals go_ret
    all_goals exact ⟨by rw [HR1.out]; first | rfl | (congr 2; omega), ⟨H.out.box, H.out.row, H.out.cnt, H.out.gl⟩, ext_grown ((Ext.refl w).drewN q) _⟩

/-- What Close tells. -/
structure CloseIs (keep : List Int) (t : Ty) (l : List Pd) (sc : Sc) : Prop where
  no : (legalT t && l.all pdB) = false → sc.n = 0 ∧ sc.preds = [] ∧ sc.ty.pure = .mk [] 0 []
  n : (legalT t && l.all pdB) = true → sc.n = closeN keep (sVars t l)
  ty : (legalT t && l.all pdB) = true → sc.ty.pure = renP (rOf (sVars t l) (closeGo keep 0 (sVars t l))) t
  ps : (legalT t && l.all pdB) = true → sc.preds.map (fun d => (d.cls, d.ty.pure)) = l.map fun x => (x.cls, renP (rOf (sVars t l) (closeGo keep 0 (sVars t l))) x.ty)
/-- Where what is told lies not. -/
structure ScOff (w : World) (t : Ty) (l : List Pd) (sc : Sc) : Prop where
  ty : ∀ c, c < w.heap.size → awayB c t = true → awayB c sc.ty = true
  ps : ∀ d ∈ sc.preds, ∀ c, c < w.heap.size → (∀ x ∈ l, awayB c x.ty = true) → awayB c d.ty = true
  row : sc.preds ≠ [] → ∀ a, sc.A = some a → w.heap.size ≤ a.block
theorem ScIn.grown {w w' : World} {sc : Sc} {b : Nat} (h : ScIn w sc) (g : w.grownBy w' (some b)) (h1 : awayB b sc.ty = true) (h2 : ∀ d ∈ sc.preds, awayB b d.ty = true) (h3 : sc.preds ≠ [] → ∀ a, sc.A = some a → a.block ≠ b) : ScIn w' sc :=
  ⟨h.le, h.max, ⟨row_grown h.row.row g (fun hn a ha e => by injection e with e; exact h3 (fun e2 => hn (by rw [e2]; rfl)) a ha e.symm), fun d hd => ⟨(h.row.all d hd).cls, (h.row.all d hd).ty.grown g (fun c e => by injection e with e; subst e; exact h2 d hd)⟩⟩, h.ty.grown g (fun c e => by injection e with e; subst e; exact h1)⟩
theorem own_blocks {w : World} {base : Nat} {e : TypeId} {size : Nat} {A : Option Addr} {n c : Nat} {xs : List Value} (h : w.ownsRow base e size (.slice A n c) n xs) : ∀ a, A = some a → base ≤ a.block := by
  intro a ha
  subst ha
  rcases h.2 with ⟨hv, -⟩ | ⟨g, cp, cur, hv, hb, -⟩
  · injection hv with e1; cases e1
  · injection hv with e1
    injection e1 with e1
    subst e1
    exact hb
theorem make_ints (m : Nat) (hm : m ≤ 100000) (W : World) : ∃ cur : List Value, cur.length = m ∧ (Instr.makeSlice 31 (.int .i64 m) (.int .i64 m)).run Tryz.prog W = .ok (.slice (some ⟨W.heap.size, 0, none⟩) m m) (W.alloc (.cells cur.toArray 3)) := by
  obtain ⟨i1, hj, hy0, hy1, hy2⟩ := info_parts int64_info
  have hmk := run_make (P := Tryz.prog) W 31 3 i1 _ Tryz.underlying31 hj hy0 .i64 .i64 m m (by omega) (Int.le_refl _) (by rw [hy2]; omega) (by omega)
  refine ⟨(madeCells (Value.int .i64 0).cells m).toList, by simp [madeCells, Value.cells], ?_⟩
  rw [hy1] at hmk
  simpa using hmk
theorem int_size : (Tryz.prog.info? 3).map (·.size) = some 1 := by kernel_rfl
theorem own_of_cells {w : World} {g n : Nat} {l : List Int} (h : w.heap[g]? = some (.cells (l.map (Value.int .i64)).toArray 3 (0, 0))) (hn : l.length = n) (hm : n ≤ 100000) : w.ownsRow g 3 1 (.slice (some ⟨g, 0, none⟩) n n) n (l.map (Value.int .i64)) :=
  ⟨by simp [hn], .inr ⟨g, n, _, rfl, Nat.le_refl _, h, Nat.le_refl _, by unfold maxLen; omega, by simp [hn], by rw [List.take_of_length_le (by simp [hn])]⟩⟩
theorem contains_sort (keep : List Int) (x : Int) : (keep.mergeSort fun x y => decide (x ≤ y)).contains x = keep.contains x := by
  rw [Bool.eq_iff_iff, List.contains_iff_mem, List.contains_iff_mem]
  exact (List.mergeSort_perm _ _).mem_iff
theorem sort_le (keep : List Int) : (keep.mergeSort fun x y => decide (x ≤ y)).Pairwise (· ≤ ·) := by
  have hs : (keep.mergeSort fun x y => decide (x ≤ y)).Pairwise fun x y => decide (x ≤ y) = true := List.pairwise_mergeSort (fun a b c h1 h2 => by simp at *; omega) (fun a b => by simp; omega) keep
  exact hs.imp (fun h => by simpa using h)
theorem close1_opens : Opens 40 := enters_of Tryz.func40 (by kernel_rfl) rfl
/-- Close's function value tells what is to be told. -/
theorem close_tells (bk bn g N0 : Nat) (keep L : List Int) (hb : ∀ v ∈ keep, -9223372036854775808 ≤ v ∧ v ≤ 9223372036854775807) (hkl : keep.length ≤ 1000000) (hL : L.length ≤ 1000000) (h1 : bk < N0) (h2 : bn < N0) (h3 : g < N0) (hbb : bk ≠ bn) (hgb : g ≠ bn) :
    TellsR 40 #[.pointer (some ⟨bk, 0, none⟩), .pointer (some ⟨bn, 0, none⟩)] L (closeGo keep 0 L) (fun k w => ClSt bk bn g keep.length (keep.mergeSort fun x y => decide (x ≤ y)) (closeN keep (L.take k) : Nat) w) bn N0 where
  op := close1_opens
  step k hk w hS := by
    have hc := closeN_le keep (L.take k)
    rw [List.length_take] at hc
    refine (sc_close1 (L[k]'hk) (closeN keep (L.take k) : Nat) bk bn g keep.length _ w hS (List.length_mergeSort _) (sort_le keep) (fun h => hb _ (by rw [contains_sort, List.contains_iff_mem] at h; exact h)) (by omega) (by omega) hkl hbb hgb).mono ?_
    rintro e w' ⟨rfl, hS', hg⟩
    rw [contains_sort] at hS' ⊢
    refine ⟨?_, ?_, hg⟩
    · rw [closeGo_at keep L 0 hk]
      split <;> simp
    · rw [closeN_take keep L hk]
      split at hS'
      · rename_i h; rw [if_pos h]; simpa using hS'
      · rename_i h; rw [if_neg h]; simpa using hS'
  keep k w w' hS hB := ⟨(hB.block bk h1).trans hS.box, fun j hj => (World.cell?_of_block (hB.block g h3)).trans (hS.row j hj), (hB.block bn h2).trans hS.cnt, by have := hB.size; have := hS.gl; omega⟩
  lt := h2

set_option maxRecDepth 10000 in
set_option maxHeartbeats 8000000 in
theorem sc_close (t : Ty) (A : Option Addr) (cap : Nat) (l : List Pd) (K : Option Addr) (kc : Nat) (keep : List Int) (w : World) (ht : TyIn w t) (hl : PdsIn w A l) (hk : Ints w K keep) (hkb : ∀ v ∈ keep, -9223372036854775808 ≤ v ∧ v ≤ 9223372036854775807) (hkl : keep.length ≤ 50000) (hlen : l.length ≤ 40000) (hsz : t.size + psz l ≤ 50000) :
    Calls Tryz.prog 14 #[tyV t, .slice A l.length cap, .slice K keep.length kc] w fun e w' => (∃ sc : Sc, e = .returned (scV sc) ∧ ScIn w' sc ∧ CloseIs keep t l sc ∧ ScOff w t l sc) ∧ Ext w w' := by
  obtain ⟨W, hW⟩ : ∃ W, W = (w.alloc (.cells #[encStr t.con, .int .i64 t.var, .slice t.A t.args.length t.cap] 25)).alloc (.cells #[.int .i64 0, .slice none 0 0, .string ⟨#[]⟩, .int .i64 0, .slice none 0 0] 27) := ⟨_, rfl⟩
  have HW := hide hW.symm
  have X0 : Hid (Ext w W) := hide (by rw [hW]; exact ((Ext.refl _).alloc _).alloc _)
  have B1 : Hid (TBox W w.heap.size t) := hide (by rw [hW]; exact (TBox.new w t).ext ((Ext.refl _).alloc _))
  have B2 : Hid (W.heap[w.heap.size + 1]? = some (.cells #[.int .i64 0, .slice none 0 0, .string ⟨#[]⟩, .int .i64 0, .slice none 0 0] 27 (0, 0))) := hide (by rw [hW]; exact at_newB _ _ _ (by simp))
  have HMay := hide (s_may t A cap l W (ht.ext X0.out) (by omega) (hl.ext X0.out) (by omega) (fun p hp => by have := psz_mem hp; omega))
  have H := hide ht
  have HL := hide hl
  have HK := hide hk
  obtain ⟨a0, a1, a2⟩ := And.intro B1.out.c0 (And.intro B1.out.c1 B1.out.c2)
  have hltb := B1.out.lt
  clear hW ht hl hk
  unfold tyV at *
  cases hm : (legalT t && l.all pdB)
  · rw [hm] at HMay
    have Hm := hide hm
    clear hm
    go_enter Tryz.func14, Tryz.ntmps14
    go_upto_region 1 with fail
    rw [HW.out]
    go_wp2_with fail
    refine HMay.out.mono ?_
    rintro e w2 ⟨rfl, hx2⟩
    have X2 := hide (X0.out.trans hx2)
    have BZ := hide ((hx2.heap (lt_of_obj B2.out)).trans B2.out)
    have f0 := free_block BZ.out 0
    have f1 := free_block BZ.out 1
    have f2 := free_block BZ.out 2
    have f3 := free_block BZ.out 3
    have f4 := free_block BZ.out 4
    have k0 := bytes_block BZ.out 0
    have k1 := bytes_block BZ.out 1
    have k2 := bytes_block BZ.out 2
    have k3 := bytes_block BZ.out 3
    have k4 := bytes_block BZ.out 4
    simp only [List.getElem?_toArray, List.getElem?_cons_zero, List.getElem?_cons_succ] at k0 k1 k2 k3 k4
    clear hx2 a0 a1 a2
    go_wp2
    refine bodyPost_ret (v := .agg #[.int .i64 0, .slice none 0 0, .string ⟨#[]⟩, .int .i64 0, .slice none 0 0]) ?_ rfl ⟨⟨⟨0, none, 0, [], .mk [] 0 none 0 []⟩, rfl, ⟨Nat.le_refl _, by decide, ⟨RowOf.nil _ _ _, by simp⟩, zeroT_in _⟩, ⟨(fun _ => ⟨rfl, rfl, by rw [Ty.pure_eq]; rfl⟩), (fun h => by rw [Hm.out] at h; cases h), (fun h => by rw [Hm.out] at h; cases h), (fun h => by rw [Hm.out] at h; cases h)⟩, ⟨fun c _ _ => zeroT_away c, by simp, fun h => absurd rfl h⟩⟩, ?_⟩
    · simp [results, Tryz.f14, go_sem, k0, k1, k2, k3, k4]
    · exact ((((X2.out.setCell (by simp) _).setCell (by simp) _).setCell (by simp) _).setCell (by simp) _).setCell (by simp) _
  rw [hm] at HMay
  have Hm := hide hm
  obtain ⟨htl, hall⟩ : legalT t = true ∧ ∀ x ∈ l, legalT x.ty = true := by
    rw [Bool.and_eq_true, List.all_eq_true] at hm
    refine ⟨hm.1, fun x hx => ?_⟩
    have := hm.2 x hx
    unfold pdB at this
    rw [Bool.and_eq_true] at this
    exact this.2
  have Htl := hide htl
  have Hall := hide hall
  clear hm htl hall
  go_enter Tryz.func14, Tryz.ntmps14
  go_upto_region 1 with fail
  rw [HW.out]
  go_wp2_with fail
  refine HMay.out.mono ?_
  rintro e w2 ⟨rfl, hx2⟩
  have X2 := hide hx2
  obtain ⟨cur, hcur, hmk⟩ := make_ints keep.length (by omega) w2
  obtain ⟨W4, hW4⟩ : ∃ W4, W4 = (w2.alloc (.cells cur.toArray 3)).alloc (.cells #[.slice (some ⟨w2.heap.size, 0, none⟩) keep.length keep.length] 31) := ⟨_, rfl⟩
  have HW4 := hide hW4.symm
  have X24 : Hid (Ext w2 W4) := hide (by rw [hW4]; exact ((Ext.refl _).alloc _).alloc _)
  have BG : Hid (W4.heap[w2.heap.size]? = some (.cells cur.toArray 3 (0, 0))) := hide (by rw [hW4]; exact (((Ext.refl _).alloc _).heap (by simp)).trans (at_newB _ _ _ rfl))
  have BK : Hid (W4.heap[w2.heap.size + 1]? = some (.cells #[.slice (some ⟨w2.heap.size, 0, none⟩) keep.length keep.length] 31 (0, 0))) := hide (by rw [hW4]; exact at_newB _ _ _ (by simp))
  have hs4 : W4.heap.size = w2.heap.size + 2 := by rw [hW4]; simp
  have Hs4 := hide hs4
  have hcK : W4.cell? ⟨w2.heap.size + 1, 0, none⟩ = some (.slice (some ⟨w2.heap.size, 0, none⟩) keep.length keep.length) := bytes_block BK.out 0
  have hlK : w2.heap.size + 1 < W4.heap.size := by omega
  have HK4 := hide (RowOf.ext intC HK.out (X0.out.trans (X2.out.trans X24.out)))
  clear hx2 hW4 a0 a1 a2 HMay hs4
  go_upto_region 4 with fail
  rw [HW4.out]
  go_cut [21] (fun _ wx => Hid (wx.heap[w2.heap.size]? = some (.cells (keep.map (Value.int .i64)).toArray 3 (0, 0))) ∧ Hid (W4.grownBy wx (some w2.heap.size)) ∧ wx.heap.size = W4.heap.size)
  case first =>
    by_cases h0 : keep.length = 0
    · have hk0 : keep = [] := List.eq_nil_of_length_eq_zero h0
      have hc0 : cur = [] := List.eq_nil_of_length_eq_zero (by omega)
      have HE : Hid (W4.heap[w2.heap.size]? = some (.cells (keep.map (Value.int .i64)).toArray 3 (0, 0))) := hide (by rw [hk0]; have := BG.out; rw [hc0] at this; exact this)
      clear hk0 hc0
      go_wp2_with (refine wpList_copy_nothing rfl _ _ 31 31 rfl 3 Tryz.underlying31 int_size _ _ _ _ _ _ rfl rfl ?hn ?_)
      case hn => simp [h0]
      go_wp2_with fail
      go_meet
      exact ⟨HE.out, hide (World.grownBy.refl _ _), rfl⟩
    · obtain ⟨b, o, rfl, hb, hc⟩ := HK4.out.2 (by omega)
      have HSrc : Hid (∀ j v, (keep.map (Value.int .i64))[j]? = some v → W4.cell? ((⟨b, o, none⟩ : Addr).add j) = some v) := hide (fun j v hj => by
        have e : (⟨b, o, none⟩ : Addr).add j = ⟨b, o + j, none⟩ := by unfold Addr.add; split <;> simp_all
        rw [e]
        refine hc j v ?_
        rw [show keep.flatMap intC.f = keep.map (Value.int .i64) from flat_one _ _]
        exact hj)
      clear hc
      go_wp2_with (refine wpList_copy_k rfl _ _ 31 31 rfl 3 Tryz.underlying31 1 int_size w2.heap.size 0 _ _ ⟨b, o, none⟩ _ _ rfl rfl cur 3 BG.out (keep.map (Value.int .i64)) keep.length ?n1 ?l1 HSrc.out ?f1 (one_ints keep) ?_)
      case n1 => simp
      case l1 => simp
      case f1 => simp; omega
      intro w' hG hB hz
      have HE : Hid (w'.heap[w2.heap.size]? = some (.cells (keep.map (Value.int .i64)).toArray 3 (0, 0))) := hide (by
        have e : splice cur 0 (keep.map (Value.int .i64)) = keep.map (Value.int .i64) := by
          unfold splice
          rw [List.take_zero, List.nil_append, List.drop_eq_nil_of_le (by simp; omega), List.append_nil]
        have := hG.out
        rw [e] at this
        exact this)
      clear hG
      go_wp2_with fail
      go_meet
      exact ⟨HE.out, hB, hz⟩
  case rest =>
    obtain ⟨HG, HB, hzc⟩ := hcut
    have hn10 : keep.length ≤ 100000 := by omega
    have hsz2 : w.heap.size + 1 < w2.heap.size := by have := (X2.out.heap (lt_of_obj B2.out)).trans B2.out; have := lt_of_obj this; omega
    have HOw := hide (own_of_cells HG.out rfl hn10)
    have HSo := hide (sort_i w2.heap.size _ keep wc HOw.out (by omega))
    have BKc : Hid (wc.heap[w2.heap.size + 1]? = some (.cells #[.slice (some ⟨w2.heap.size, 0, none⟩) keep.length keep.length] 31 (0, 0))) := hide ((HB.out.block _ (by rw [Hs4.out]; omega) (fun e => by injection e with e; omega)).trans BK.out)
    have c0 : wc.cell? ⟨w2.heap.size + 1, 0, none⟩ = some (.slice (some ⟨w2.heap.size, 0, none⟩) keep.length keep.length) := bytes_block BKc.out 0
    have hlc := lt_of_obj BKc.out
    have Xc : Hid (Ext w wc) := hide ((X0.out.trans (X2.out.trans X24.out)).grown HB.out (fun k e => by injection e with e; omega))
    have hcB1 := hide ((HB.out.block w.heap.size (by have := X24.out.size; omega) (fun e => by injection e with e; omega)).trans (((X2.out.trans X24.out).heap B1.out.lt).trans B1.out))
    have hcB2 := hide ((HB.out.block (w.heap.size + 1) (by have := X24.out.size; omega) (fun e => by injection e with e; omega)).trans (((X2.out.trans X24.out).heap (lt_of_obj B2.out)).trans B2.out))
    clear hcK hlK
    go_wp2_with fail
    refine HSo.out.mono ?_
    rintro e w6 ⟨rfl, hg6, hH6⟩
    have HH6 := hide (hH6 _ _ rfl)
    have hg6' : wc.grownBy w6 (some w2.heap.size) := hg6
    have hs6 := hg6'.size
    have X6 : Hid (Ext w w6) := hide (Xc.out.grown hg6' (fun k e => by injection e with e; omega))
    have BK6 := hide ((hg6'.block _ hlc (fun e => by injection e with e; omega)).trans BKc.out)
    have B16 := hide ((hg6'.block w.heap.size (by omega) (fun e => by injection e with e; omega)).trans hcB1.out)
    have B26 := hide ((hg6'.block (w.heap.size + 1) (by omega) (fun e => by injection e with e; omega)).trans hcB2.out)
    obtain ⟨W7, hW7⟩ : ∃ W7, W7 = w6.alloc (.cells #[.int .i64 0] 3) := ⟨_, rfl⟩
    have HW7 := hide hW7.symm
    have X67 : Hid (Ext w6 W7) := hide (by rw [hW7]; exact (Ext.refl _).alloc _)
    have BN : Hid (W7.heap[w6.heap.size]? = some (.cells #[.int .i64 0] 3 (0, 0))) := hide (by rw [hW7]; exact at_newB _ _ _ rfl)
    have hs7 : W7.heap.size = w6.heap.size + 1 := by rw [hW7]; simp
    have B17 : Hid (TBox W7 w.heap.size t) := hide ((X67.out.heap (lt_of_obj B16.out)).trans B16.out)
    have B27 := hide ((X67.out.heap (lt_of_obj B26.out)).trans B26.out)
    have hl6 := lt_of_obj BK6.out
    have X7 := hide (X6.out.trans X67.out)
    have HSt0 : Hid (ClSt (w2.heap.size + 1) w6.heap.size w2.heap.size keep.length (keep.mergeSort fun x y => decide (x ≤ y)) (closeN keep ((sVars t l).take 0) : Nat) W7) := hide
      ⟨(X67.out.heap hl6).trans BK6.out, fun j hj => by
        have h1 := (HH6.out j (by simpa using hj)).1
        rw [getElem!_pos _ _ (by simpa using hj)] at h1
        refine (World.cell?_of_block (X67.out.heap (by show w2.heap.size < _; omega))).trans ?_
        rw [h1]
        simp [List.getD_eq_getElem?_getD, List.getElem?_eq_getElem hj], BN.out, by omega⟩
    have hVl : (sVars t l).length ≤ 50000 := Nat.le_trans (sVars_len t l) hsz
    have HRen := hide (sc_renamed 40 #[.pointer (some ⟨w2.heap.size + 1, 0, none⟩), .pointer (some ⟨w6.heap.size, 0, none⟩)] w6.heap.size (closeGo keep 0 (sVars t l)) _ t A cap l W7
      (close_tells (w2.heap.size + 1) w6.heap.size w2.heap.size W7.heap.size keep (sVars t l) hkb (by omega) (by omega) (by omega) (by omega) (by omega) (by omega) (by omega)) HSt0.out (H.out.ext X7.out) (HL.out.ext X7.out) hlen hsz Htl.out Hall.out (away_new H.out (by omega)) (fun x hx => away_new (HL.out.all x hx).ty (by omega)) (fun hn a ha => by
        obtain ⟨b, o, e, hb, -⟩ := HL.out.row.2 (Nat.pos_of_ne_zero hn)
        rw [e] at ha
        injection ha with ha
        subst ha
        show b ≠ _
        omega))
    obtain ⟨a0, a1, a2⟩ := And.intro B17.out.c0 (And.intro B17.out.c1 B17.out.c2)
    have hlt7 := B17.out.lt
    clear hg6 hH6 hg6' hW7 c0 HSo
    unfold tyV at HRen
    go_upto_region 7 with fail
    rw [HW7.out]
    go_wp2_with fail
    refine HRen.out.mono ?_
    rintro e w8 ⟨u, v8, ds, rfl, hR, hS, hg8⟩
    obtain ⟨A8, c8, rfl, d1, d2, -, -⟩ := RowOf.own pdC hR.own
    have HR := hide hR
    rw [List.take_length] at hS
    have HS8 := hide hS
    have HG8 := hide hg8
    obtain ⟨W9, hW9⟩ : ∃ W9, W9 = w8.alloc (.cells #[encStr u.con, .int .i64 u.var, .slice u.A u.args.length u.cap] 25) := ⟨_, rfl⟩
    have HW9 := hide hW9.symm
    have X89 : Hid (Ext w8 W9) := hide (by rw [hW9]; exact (Ext.refl _).alloc _)
    have B9 : Hid (TBox W9 w8.heap.size u) := hide (by rw [hW9]; exact TBox.new w8 u)
    have BN9 := hide ((X89.out.heap (lt_of_obj HS8.out.cnt)).trans HS8.out.cnt)
    have hs8 := HG8.out.size
    have BZ := hide ((X89.out.heap (by omega)).trans ((HG8.out.block (w.heap.size + 1) (by omega) (fun e => by injection e with e; omega)).trans B27.out))
    have n0 : W9.cell? ⟨w6.heap.size, 0, none⟩ = some (.int .i64 (closeN keep (sVars t l) : Nat)) := bytes_block BN9.out 0
    obtain ⟨b0, b1, b2⟩ := And.intro B9.out.c0 (And.intro B9.out.c1 B9.out.c2)
    have hl9 := B9.out.lt
    have hln := lt_of_obj BN9.out
    have f0 := free_block BZ.out 0
    have f1 := free_block BZ.out 1
    have f2 := free_block BZ.out 2
    have f3 := free_block BZ.out 3
    have f4 := free_block BZ.out 4
    have k0 := bytes_block BZ.out 0
    have k1 := bytes_block BZ.out 1
    have k2 := bytes_block BZ.out 2
    have k3 := bytes_block BZ.out 3
    have k4 := bytes_block BZ.out 4
    simp only [List.getElem?_toArray, List.getElem?_cons_zero, List.getElem?_cons_succ] at k0 k1 k2 k3 k4
    have X9 : Hid (Ext w W9) := hide ((X7.out.grown HG8.out (fun k e => by injection e with e; omega)).trans X89.out)
    obtain ⟨WF, hWF⟩ : ∃ WF, WF = ((((W9.setCell ⟨w.heap.size + 1, 0, none⟩ (.int .i64 (closeN keep (sVars t l) : Nat))).setCell ⟨w.heap.size + 1, 1, none⟩ (.slice A8 ds.length c8)).setCell ⟨w.heap.size + 1, 2, none⟩ (encStr u.con)).setCell ⟨w.heap.size + 1, 3, none⟩ (.int .i64 u.var)).setCell ⟨w.heap.size + 1, 4, none⟩ (.slice u.A u.args.length u.cap) := ⟨_, rfl⟩
    have hgF : W9.grownBy WF (some (w.heap.size + 1)) := by
      rw [hWF]
      exact grown_trans (grown_trans (grown_cell _ _ _ _) (grown_cell _ _ _ _)) (put3_grown _ _ _ _ _ _ _ _)
    have XF : Hid (Ext w WF) := hide (X9.out.grown hgF (fun k e => by injection e with e; omega))
    have hoF := ((own_extB HR.out.own X89.out).kept hgF (.inr (fun e => by have := (HR.out.own.lt _ e).1; omega)))
    have HSc : Hid (ScIn WF ⟨(closeN keep (sVars t l) : Nat), A8, c8, ds, u⟩) := hide (by
      obtain ⟨A', c', e1, _, _, e4, _⟩ := RowOf.own pdC hoF
      injection e1 with e1 _ e3
      subst e1
      refine ⟨d1, d2, ⟨e4, fun d hd => ⟨?_, (((HR.out.dty d hd).ext X89.out).grown hgF (fun c e => by injection e with e; subst e; exact HR.out.daway d hd _ (by omega) (fun x hx => away_new (HL.out.all x hx).ty (by omega))))⟩⟩, ((HR.out.ty.ext X89.out).grown hgF (fun c e => by injection e with e; subst e; exact HR.out.away _ (by omega) (away_new H.out (by omega))))⟩
      have hmem : (d.cls, d.ty.pure) ∈ l.map fun x => (x.cls, renP (rOf (sVars t l) (closeGo keep 0 (sVars t l))) x.ty) := by rw [← HR.out.dis]; exact List.mem_map.2 ⟨d, hd, rfl⟩
      obtain ⟨x, hx, e⟩ := List.mem_map.1 hmem
      have := (HL.out.all x hx).cls
      rw [show d.cls = x.cls from (congrArg Prod.fst e).symm]
      exact this)
    clear hR hS hg8 hgF hoF hW9
    go_upto_region 8 with fail
    rw [HW9.out]
    go_wp2
    rw [← hWF]
    refine bodyPost_ret (v := .agg #[.int .i64 (closeN keep (sVars t l) : Nat), .slice A8 ds.length c8, encStr u.con, .int .i64 u.var, .slice u.A u.args.length u.cap]) ?_ rfl ⟨⟨⟨(closeN keep (sVars t l) : Nat), A8, c8, ds, u⟩, rfl, HSc.out, ⟨(fun h => by rw [Hm.out] at h; cases h), fun _ => rfl, fun _ => HR.out.is, fun _ => HR.out.dis⟩, ⟨fun c hc h => HR.out.away c (by omega) h, fun d hd c hc h => HR.out.daway d hd c (by omega) h, fun _ a ha => by have := own_blocks HR.out.own a ha; omega⟩⟩, XF.out⟩
    rw [hWF]
    simp [results, Tryz.f14, go_sem, k0, k1, k2, k3, k4]

end Go.Proofs.YtmjiljhcjfnfpaaGreat

/- Schemes: the same but for names; opened and closed again; one above another one. Plain. -/
namespace Go.Proofs.YtmjiljhcjfnfpaaGreat
open Go.RowKit

theorem idx_filter (p : Int → Bool) (L : List Int) (hn : L.Nodup) {k : Nat} (hk : k < L.length) (hp : p (L[k]'hk) = true) : (L.filter p).idxOf (L[k]'hk) = ((L.take k).filter p).length := by
  have e : L = L.take k ++ (L[k]'hk) :: L.drop (k + 1) := by rw [← List.drop_eq_getElem_cons hk, List.take_append_drop]
  have hnot : (L[k]'hk) ∉ L.take k := by
    intro h
    obtain ⟨i, hi, e2⟩ := List.mem_iff_getElem.1 h
    rw [List.getElem_take] at e2
    rw [List.length_take] at hi
    have a1 := hn.idxOf_getElem i (by omega)
    have a2 := hn.idxOf_getElem k hk
    rw [e2] at a1
    omega
  have ef : L.filter p = (L.take k).filter p ++ (L[k]'hk) :: (L.drop (k + 1)).filter p := by
    conv => lhs; rw [e]
    rw [List.filter_append, List.filter_cons, if_pos hp]
  rw [ef, List.idxOf_append, if_neg (fun h => hnot (List.mem_filter.1 h).1), List.idxOf_cons]
  simp
theorem once_flat (l : List (List Int)) : ∀ out, onceGo out (l.map onceI).flatten = onceGo out l.flatten := by
  induction l with
  | nil => intro out; rfl
  | cons a l ih =>
    intro out
    rw [List.map_cons, List.flatten_cons, List.flatten_cons, onceGo_app, onceGo_app, ih]
    unfold onceI
    rw [onceGo_twice]
    rfl
noncomputable def tyS (s : Sc) : List Ty := s.ty :: s.preds.map Pd.ty
noncomputable def SV (s : Sc) : List Int := allV (tyS s)
theorem sVars_allV (t : Ty) (l : List Pd) : sVars t l = onceI (allV (t :: l.map Pd.ty)) := by
  have h := once_flat ((t :: l.map Pd.ty).map Ty.vars) []
  have e : ((t :: l.map Pd.ty).map Ty.vars).map onceI = (⟨[], t⟩ :: l : List Pd).map fun p => onceI p.ty.vars := by simp [Function.comp_def]
  rw [e] at h
  exact h
theorem sVars_SV (s : Sc) : sVars s.ty s.preds = onceI (SV s) := sVars_allV _ _
/-- The numbers of own variables, by their first places. -/
noncomputable def numS (s : Sc) : Int → Int := numV s.n (SV s)
theorem rOf_map (L : List Int) (hn : L.Nodup) (g : Int → Int) {v : Int} (hv : v ∈ L) : rOf L (L.map g) v = g v := by
  obtain ⟨k, hk, rfl⟩ := List.mem_iff_getElem.1 hv
  rw [rOf_at hn hk]
  simp [List.getD, hk]
theorem tyS_mem {s : Sc} {t : Ty} (h : t ∈ tyS s) : ∀ v ∈ t.vars, v ∈ SV s := fun _ hv => List.mem_flatten.2 ⟨_, List.mem_map.2 ⟨t, h, rfl⟩, hv⟩
theorem allV_mem {l : List Ty} {t : Ty} (h : t ∈ l) : ∀ v ∈ t.vars, v ∈ allV l := fun _ hv => List.mem_flatten.2 ⟨_, List.mem_map.2 ⟨t, h, rfl⟩, hv⟩
/-- What a legal scheme has. -/
structure ScLeg (s : Sc) : Prop where
  ty : legalT s.ty = true
  ps : ∀ p ∈ s.preds, pdB p = true
  n0 : 0 ≤ s.n
  n1 : s.n ≤ 4096
  own : ((owns s.n (SV s)).length : Int) = s.n
theorem scB_leg {s : Sc} (h : scB s = true) : ScLeg s := by
  unfold scB at h
  simp only [Bool.and_eq_true, decide_eq_true_eq] at h
  obtain ⟨⟨⟨⟨h1, h2⟩, h3⟩, h4⟩, h5⟩ := h
  refine ⟨h1, List.all_eq_true.1 h2, h3, h4, ?_⟩
  have hn : ((s.n.toNat : Nat) : Int) = s.n := by omega
  rw [sVars_SV, ← own_all (onceI (SV s)) (onceI_nodup _), beq_iff_eq, hn] at h5
  exact h5
theorem leg_scB {s : Sc} (h : ScLeg s) : scB s = true := by
  unfold scB
  simp only [Bool.and_eq_true, decide_eq_true_eq]
  refine ⟨⟨⟨⟨h.ty, List.all_eq_true.2 h.ps⟩, h.n0⟩, h.n1⟩, ?_⟩
  have hn : ((s.n.toNat : Nat) : Int) = s.n := by have := h.n0; omega
  rw [sVars_SV, ← own_all (onceI (SV s)) (onceI_nodup _), beq_iff_eq, hn]
  exact h.own
theorem pdB_ty {p : Pd} (h : pdB p = true) : legalT p.ty = true := by unfold pdB at h; rw [Bool.and_eq_true] at h; exact h.2
theorem ScLeg.all {s : Sc} (h : ScLeg s) : ∀ t ∈ tyS s, legalT t = true := fun t ht => by
  rcases List.mem_cons.1 ht with rfl | ht
  · exact h.ty
  · obtain ⟨p, hp, rfl⟩ := List.mem_map.1 ht
    exact pdB_ty (h.ps p hp)
/-- Are two schemes the same, but for names? -/
noncomputable def sameS (a b : Sc) : Bool := scB a && scB b && decide (a.n = b.n) && decide (a.preds.map Pd.cls = b.preds.map Pd.cls) && @decide ((tyS a).map (renP (numS a)) = (tyS b).map (renP (numS b))) (Classical.propDecidable _)
theorem sameS_iff {a b : Sc} : sameS a b = true ↔ scB a = true ∧ scB b = true ∧ a.n = b.n ∧ a.preds.map Pd.cls = b.preds.map Pd.cls ∧ (tyS a).map (renP (numS a)) = (tyS b).map (renP (numS b)) := by
  unfold sameS
  rw [Bool.and_eq_true, Bool.and_eq_true, Bool.and_eq_true, Bool.and_eq_true, decide_eq_true_eq, decide_eq_true_eq, @decide_eq_true_iff _ (Classical.propDecidable _)]
  constructor
  · rintro ⟨⟨⟨⟨h1, h2⟩, h3⟩, h4⟩, h5⟩; exact ⟨h1, h2, h3, h4, h5⟩
  · rintro ⟨h1, h2, h3, h4, h5⟩; exact ⟨⟨⟨⟨h1, h2⟩, h3⟩, h4⟩, h5⟩
theorem same_self (a : Sc) : sameS a a = scB a := by
  rw [Bool.eq_iff_iff, sameS_iff]
  exact ⟨fun h => h.1, fun h => ⟨h, h, rfl, rfl, rfl⟩⟩
theorem same_comm (a b : Sc) : sameS a b = sameS b a := by
  rw [Bool.eq_iff_iff, sameS_iff, sameS_iff]
  constructor <;> (rintro ⟨h1, h2, h3, h4, h5⟩; exact ⟨h2, h1, h3.symm, h4.symm, h5.symm⟩)
/-- The numbered types are the same just if the types are, with other names. -/
theorem types_iff {a b : Sc} (ha : ScLeg a) (hb : ScLeg b) (hn : a.n = b.n) : (tyS a).map (renP (numS a)) = (tyS b).map (renP (numS b)) ↔ (tyS a).map skT = (tyS b).map skT ∧ ∃ f, Iso a.n (SV a) f ∧ SV b = (SV a).map f := by
  rw [(rens_iff (tyS a) (fun t ht => ren_iff t (flatB_legal (ha.all t ht))) (tyS b) (fun u hu => flatB_legal (hb.all u hu))).1]
  refine and_congr_right fun _ => ?_
  show (SV a).map (numV a.n (SV a)) = (SV b).map (numV b.n (SV b)) ↔ _
  rw [← hn]
  exact num_iff (by rw [ha.own]; exact Int.le_refl _) (by have := hb.own; rw [← hn] at this; omega)
/-- The reference's way. -/
theorem types_ref {a b : Sc} (ha : ScLeg a) (hb : ScLeg b) (hn : a.n = b.n) (hl : a.preds.length = b.preds.length) : (alkFs ((tyS a).map (alkT a.n)) (tyS b) []).isSome = true ↔ (tyS a).map (renP (numS a)) = (tyS b).map (renP (numS b)) := by
  rw [types_iff ha hb hn]
  obtain ⟨h1, h2⟩ := alks_is a.n (tyS a) (fun t ht => ren_iff t (flatB_legal (ha.all t ht))) (fun t ht => alk_is a.n t (flatB_legal (ha.all t ht)) (zeroB_legal (ha.all t ht))) (tyS b) (by simp [tyS, hl]) (fun u hu => ⟨flatB_legal (hb.all u hu), zeroB_legal (hb.all u hu)⟩) []
  constructor
  · intro h
    by_cases e : (tyS a).map skT = (tyS b).map skT
    · rw [h1 e] at h
      exact ⟨e, (alk_iff _ _).1 h⟩
    · rw [h2 e] at h; cases h
  · rintro ⟨e, h⟩
    rw [h1 e]
    exact (alk_iff _ _).2 h
theorem pure_id (t : Ty) : flatB t = true → renP id t = t.pure := by
  induction t using Ty.ind with
  | h t ih =>
  intro hf
  rw [Ty.pure_eq]
  by_cases hc : t.con = []
  · rw [ren_var _ hc, hc, flatB_var hf hc]; rfl
  · rw [ren_con _ hc, List.map_congr_left (fun k hk => ih k hk (flatB_arg hf hk))]
/-- What is the same is so by other names. -/
theorem same_names {a b : Sc} (h : sameS a b = true) : ∃ f, Iso a.n (SV a) f ∧ (tyS a).map (renP f) = (tyS b).map Ty.pure := by
  obtain ⟨h1, h2, h3, h4, h5⟩ := sameS_iff.1 h
  have ha := scB_leg h1
  have hb := scB_leg h2
  obtain ⟨e, f, hf, hV⟩ := (types_iff ha hb h3).1 h5
  refine ⟨f, hf, ?_⟩
  have := ((rens_iff (tyS a) (fun t ht => ren_iff t (flatB_legal (ha.all t ht))) (tyS b) (fun u hu => flatB_legal (hb.all u hu))).1 f id).2 ⟨e, by rw [List.map_id]; exact hV.symm⟩
  rw [this]
  exact List.map_congr_left fun u hu => pure_id u (flatB_legal (hb.all u hu))

/-! ### Opened, and closed again -/
/-- The variables that are not own ones. -/
noncomputable def frS (s : Sc) : List Int := (sVars s.ty s.preds).filter fun v => !ownB s.n v
theorem frS_mem {s : Sc} {v : Int} : v ∈ frS s ↔ v ∈ SV s ∧ ownB s.n v = false := by
  unfold frS
  rw [sVars_SV, List.mem_filter, onceI_mem]
  simp
/-- What an own variable becomes. -/
def openF (n first v : Int) : Int := if ownB n v = true then first + v else v
theorem map_ty {l' l : List Pd} {g : Int → Int} (h : l'.map (fun d => (d.cls, d.ty.pure)) = l.map fun x => (x.cls, renP g x.ty)) : (l'.map Pd.ty).map Ty.pure = (l.map Pd.ty).map (renP g) ∧ l'.map Pd.cls = l.map Pd.cls := by
  have h1 := congrArg (List.map Prod.snd) h
  have h2 := congrArg (List.map Prod.fst) h
  simp only [List.map_map] at h1 h2
  exact ⟨by simpa [Function.comp_def] using h1, by simpa [Function.comp_def] using h2⟩
theorem map_iff {l m : List Pd} {g h : Int → Int} : (l.map fun x => (x.cls, renP g x.ty)) = (m.map fun x => (x.cls, renP h x.ty)) ↔ l.map Pd.cls = m.map Pd.cls ∧ (l.map Pd.ty).map (renP g) = (m.map Pd.ty).map (renP h) := by
  induction l generalizing m with
  | nil => cases m <;> simp
  | cons x l ih =>
    cases m with
    | nil => simp
    | cons y m =>
      simp only [List.map_cons, List.cons.injEq, Prod.mk.injEq]
      rw [ih]
      constructor
      · rintro ⟨⟨a, b⟩, c, d⟩; exact ⟨⟨a, c⟩, b, d⟩
      · rintro ⟨⟨a, c⟩, b, d⟩; exact ⟨⟨a, b⟩, c, d⟩
/-- Types that are others with other names: variables, shapes. -/
theorem rens_vars (g : Int → Int) (l : List Ty) (hl : ∀ t ∈ l, legalT t = true) : ∀ m : List Ty, m.map Ty.pure = l.map (renP g) → allV m = (allV l).map g ∧ m.map skT = l.map skT ∧ ∀ u ∈ m, legalT u = true := by
  induction l with
  | nil => intro m h; have : m = [] := by simpa using h
           subst this; exact ⟨rfl, rfl, by simp⟩
  | cons t l ih =>
    intro m h
    cases m with
    | nil => simp at h
    | cons u m =>
      rw [List.map_cons, List.map_cons, List.cons.injEq] at h
      obtain ⟨h1, h2, -⟩ := ren_vars g t (flatB_legal (hl t (by simp))) u h.1
      obtain ⟨k1, k2, k3⟩ := ih (fun t ht => hl t (by simp [ht])) m h.2
      refine ⟨by rw [allV_cons, allV_cons, List.map_append, h1, k1], by rw [List.map_cons, List.map_cons, h2, k2], fun x hx => ?_⟩
      rcases List.mem_cons.1 hx with rfl | hx
      · exact legal_ren (hl t (by simp)) h.1
      · exact k3 x hx
theorem pds_legal {l' l : List Pd} (hc : l'.map Pd.cls = l.map Pd.cls) (hl : ∀ p ∈ l, pdB p = true) (ht : ∀ u ∈ l'.map Pd.ty, legalT u = true) : ∀ p ∈ l', pdB p = true := by
  intro p hp
  obtain ⟨i, hi, rfl⟩ := List.mem_iff_getElem.1 hp
  have hlen : l'.length = l.length := by simpa using congrArg List.length hc
  have h1 := hl _ (List.getElem_mem (show i < l.length by omega))
  have h2 : (l'[i]'hi).cls = (l[i]'(by omega)).cls := by
    have : (l'.map Pd.cls)[i]? = (l.map Pd.cls)[i]? := by rw [hc]
    rw [List.getElem?_map, List.getElem?_map, List.getElem?_eq_getElem hi, List.getElem?_eq_getElem (show i < l.length by omega)] at this
    simpa using this
  unfold pdB at h1 ⊢
  rw [Bool.and_eq_true] at h1 ⊢
  exact ⟨by rw [h2]; exact h1.1, ht _ (List.mem_map.2 ⟨_, hp, rfl⟩)⟩
theorem back_same {s c : Sc} {t' : Ty} {l' : List Pd} {first : Int} (hs : scB s = true) (hf : 0 ≤ first) (hneg : ∀ v ∈ frS s, v < 0) (ht : t'.pure = renP (openF s.n first) s.ty) (hl : l'.map (fun d => (d.cls, d.ty.pure)) = s.preds.map fun x => (x.cls, renP (openF s.n first) x.ty))
    (hc : CloseIs (frS s) t' l' c) : c.n = s.n ∧ sameS c s = true := by
  have hg := scB_leg hs
  obtain ⟨g, hgd⟩ : ∃ g, g = openF s.n first := ⟨_, rfl⟩
  rw [← hgd] at ht hl
  have hown : ∀ v, ownB s.n v = true → g v = first + v ∧ 0 ≤ g v := fun v ho => by
    have h1 : g v = first + v := by rw [hgd]; unfold openF; rw [if_pos ho]
    have := (ownB_iff.1 ho).1
    exact ⟨h1, by omega⟩
  have hfree : ∀ v, ownB s.n v = false → g v = v := fun v ho => by rw [hgd]; unfold openF; rw [if_neg (by rw [ho]; simp)]
  have hnf : ∀ v ∈ SV s, ownB s.n v = false → v < 0 := fun v hv ho => hneg v (frS_mem.2 ⟨hv, ho⟩)
  have hinj : ∀ u ∈ SV s, ∀ v ∈ SV s, g u = g v → u = v := fun u hu v hv e => by
    cases ou : ownB s.n u <;> cases ov : ownB s.n v
    · rw [hfree u ou, hfree v ov] at e; exact e
    · have := hnf u hu ou; rw [hfree u ou] at e; have := (hown v ov).2; omega
    · have := hnf v hv ov; rw [hfree v ov] at e; have := (hown u ou).2; omega
    · rw [(hown u ou).1, (hown v ov).1] at e; omega
  obtain ⟨ht2, hcl⟩ := map_ty hl
  have hT : (t' :: l'.map Pd.ty).map Ty.pure = (tyS s).map (renP g) := by unfold tyS; rw [List.map_cons, List.map_cons, ht, ht2]
  obtain ⟨hV, hk, hleg⟩ := rens_vars g (tyS s) hg.all _ hT
  have hpl := pds_legal hcl hg.ps (fun u hu => hleg u (List.mem_cons_of_mem _ hu))
  have hok : (legalT t' && l'.all pdB) = true := by rw [Bool.and_eq_true, List.all_eq_true]; exact ⟨hleg t' (by simp), hpl⟩
  obtain ⟨L', hL'⟩ : ∃ L', L' = sVars t' l' := ⟨_, rfl⟩
  have hLn : L'.Nodup := by rw [hL']; exact sVars_nodup _ _
  have hLm : L' = (onceI (SV s)).map g := by rw [hL', sVars_allV, hV]; exact onceI_map g (SV s) hinj
  have hkeep : ∀ v ∈ SV s, (frS s).contains (g v) = !ownB s.n v := fun v hv => by
    cases ho : ownB s.n v with
    | true =>
      rw [Bool.not_true, ← Bool.not_eq_true, List.contains_iff_mem]
      intro h
      have := hneg _ h
      have := (hown v ho).2
      omega
    | false =>
      rw [Bool.not_false, List.contains_iff_mem, hfree v ho]
      exact frS_mem.2 ⟨hv, ho⟩
  have hfil : L'.filter (fun v => !(frS s).contains v) = (owns s.n (SV s)).map g := by
    rw [hLm, List.filter_map]
    unfold owns
    congr 1
    refine List.filter_congr fun v hv => ?_
    show (!(frS s).contains (g v)) = ownB s.n v
    rw [hkeep v ((onceI_mem _ _).1 hv), Bool.not_not]
  have hcn : c.n = s.n := by
    rw [hc.n hok, ← hL']
    unfold closeN
    rw [hfil, List.length_map]
    exact hg.own
  obtain ⟨h, hh⟩ : ∃ h, h = rOf L' (closeGo (frS s) 0 L') := ⟨_, rfl⟩
  have hcty := hc.ty hok
  have hcps := hc.ps hok
  rw [← hL', ← hh] at hcty hcps
  obtain ⟨hct2, hccl⟩ := map_ty hcps
  have hTc : (tyS c).map Ty.pure = (t' :: l'.map Pd.ty).map (renP h) := by unfold tyS; rw [List.map_cons, List.map_cons, hcty, hct2]
  obtain ⟨hVc, hkc, hlegc⟩ := rens_vars h _ hleg _ hTc
  have hval : ∀ v ∈ SV s, h (g v) = if ownB s.n v = true then ((((owns s.n (SV s)).map g).idxOf (g v) : Nat) : Int) else v := fun v hv => by
    have hm : g v ∈ L' := by rw [hLm]; exact List.mem_map.2 ⟨v, (onceI_mem _ _).2 hv, rfl⟩
    obtain ⟨k, hk1, hk2⟩ := List.mem_iff_getElem.1 hm
    rw [hh, ← hk2, rOf_at hLn hk1, closeGo_at (frS s) L' 0 hk1, hk2, hkeep v hv]
    cases ho : ownB s.n v with
    | true =>
      rw [if_neg (by simp), if_pos (show true = true from rfl), Int.zero_add]
      unfold closeN
      rw [← idx_filter (fun v => !(frS s).contains v) L' hLn hk1 (by rw [hk2, hkeep v hv, ho]; rfl), hk2, hfil]
    | false =>
      rw [if_pos (show (!false) = true from rfl), if_neg (by simp), hfree v ho]
      have := hnf v hv ho
      omega
  have hiso : Iso s.n (SV s) (fun v => h (g v)) := by
    have hlt : ∀ v ∈ SV s, ownB s.n v = true → ((owns s.n (SV s)).map g).idxOf (g v) < ((owns s.n (SV s)).map g).length := fun v hv ho => List.idxOf_lt_length_iff.2 (List.mem_map.2 ⟨v, owns_mem.2 ⟨hv, ho⟩, rfl⟩)
    refine ⟨fun v hv ho => ?_, fun v hv ho => ?_, fun u hu v hv ou ov e => ?_⟩
    · rw [hval v hv, if_pos ho, ownB_iff]
      have h1 := hlt v hv ho
      rw [List.length_map] at h1
      have := hg.own
      omega
    · rw [hval v hv, if_neg (by rw [ho]; simp)]
    · rw [hval u hu, hval v hv, if_pos ou, if_pos ov] at e
      have e := Int.ofNat_inj.1 e
      have k1 := hlt u hu ou
      have k2 := hlt v hv ov
      refine hinj u hu v hv ?_
      rw [← List.getElem_idxOf k1, ← List.getElem_idxOf k2]
      congr 1
  have hSV : SV c = (SV s).map fun v => h (g v) := by
    show allV (tyS c) = _
    rw [hVc, hV, List.map_map]
    rfl
  have hsk : (tyS s).map skT = (tyS c).map skT := by rw [hkc, hk]
  have hlc : ScLeg c := by
    refine ⟨hlegc c.ty (by unfold tyS; simp), pds_legal (hccl.trans hcl) hg.ps (fun u hu => hlegc u (by unfold tyS; exact List.mem_cons_of_mem _ hu)), by rw [hcn]; exact hg.n0, by rw [hcn]; exact hg.n1, ?_⟩
    rw [hcn, hSV]
    have : owns s.n ((SV s).map fun v => h (g v)) = (owns s.n (SV s)).map fun v => h (g v) := by
      unfold owns
      rw [onceI_map _ _ (fun u hu v hv e => hiso.inj' hu hv e), List.filter_map]
      congr 1
      refine List.filter_congr fun x hx => ?_
      exact hiso.ownE ((onceI_mem _ _).1 hx)
    rw [this, List.length_map]
    exact hg.own
  refine ⟨hcn, ?_⟩
  rw [same_comm]
  exact sameS_iff.2 ⟨hs, leg_scB hlc, hcn.symm, (hccl.trans hcl).symm, (types_iff hg hlc hcn.symm).2 ⟨hsk, _, hiso, hSV⟩⟩

/-! ### Above -/
/-- What variables of a pattern have. -/
abbrev Bnd := Int → Option Ty.Pure
noncomputable def onFs : List (Ty → Bnd → Option Bnd) → List Ty → Bnd → Option Bnd
  | [], [], m => some m
  | f :: fs, u :: us, m => (f u m).bind fun m => onFs fs us m
  | _, _, _ => none
open Classical in
noncomputable def onT : Ty → Ty → Bnd → Option Bnd := Ty.fold fun p fs t m =>
  if p.con = [] then (match m p.var with
    | some u => if u = t.pure then some m else none
    | none => some fun v => if v = p.var then some t.pure else m v)
  else if p.con = t.con ∧ p.args.length = t.args.length then onFs fs t.args m else none
open Classical in
theorem onT_eq (p t : Ty) (m : Bnd) : onT p t m = if p.con = [] then (match m p.var with
    | some u => if u = t.pure then some m else none
    | none => some fun v => if v = p.var then some t.pure else m v)
  else if p.con = t.con ∧ p.args.length = t.args.length then onFs (p.args.map onT) t.args m else none := by
  unfold onT; rw [Ty.fold_eq]
noncomputable def allM : List Pd → List Pd → Bnd → Bool
  | [], _, _ => true
  | q :: l, of, m => of.any fun r => (r.cls == q.cls) && (match onT q.ty r.ty m with | some m' => allM l of m' | none => false)
noncomputable def m0S (a : Sc) : Bnd := fun v => if v ∈ frS a then some (.mk [] v []) else none
/-- Is one scheme above another one? -/
noncomputable def abvB (a b : Sc) : Bool := scB a && scB b && (match onT a.ty b.ty (m0S a) with | some m => allM a.preds b.preds m | none => false)
/-- What is known already is so in a way to name all. -/
def SubM (m : Bnd) (f : Int → Int) : Prop := ∀ v u, m v = some u → .mk [] (f v) [] = u
def OnC (p : Ty) : Prop := ∀ (t : Ty) (f : Int → Int) (m : Bnd), renP f p = t.pure → SubM m f → ∃ m', onT p t m = some m' ∧ SubM m' f
theorem ons_c (l : List Ty) (h : ∀ p ∈ l, OnC p) : ∀ (ts : List Ty) (f : Int → Int) (m : Bnd), l.map (renP f) = ts.map Ty.pure → SubM m f → ∃ m', onFs (l.map onT) ts m = some m' ∧ SubM m' f := by
  induction l with
  | nil =>
    intro ts f m e hm
    cases ts with
    | nil => exact ⟨m, rfl, hm⟩
    | cons t ts => simp at e
  | cons p l ih =>
    intro ts f m e hm
    cases ts with
    | nil => simp at e
    | cons t ts =>
      rw [List.map_cons, List.map_cons, List.cons.injEq] at e
      obtain ⟨m1, e1, h1⟩ := h p (by simp) t f m e.1 hm
      obtain ⟨m2, e2, h2⟩ := ih (fun p hp => h p (by simp [hp])) ts f m1 e.2 h1
      refine ⟨m2, ?_, h2⟩
      show (onT p t m).bind (fun m => onFs (l.map onT) ts m) = some m2
      rw [e1]
      exact e2
theorem on_c (p : Ty) : OnC p := by
  induction p using Ty.ind with
  | h p ih =>
  intro t f m e hm
  rw [onT_eq]
  by_cases hc : p.con = []
  · rw [if_pos hc]
    rw [ren_var f hc] at e
    cases hv : m p.var with
    | some u =>
      have := hm _ _ hv
      exact ⟨m, if_pos (by rw [← this, ← e]), hm⟩
    | none =>
      refine ⟨_, rfl, fun v u hu => ?_⟩
      by_cases hvp : v = p.var
      · rw [if_pos hvp] at hu
        injection hu with hu
        rw [hvp, e, hu]
      · rw [if_neg hvp] at hu
        exact hm v u hu
  · rw [if_neg hc]
    rw [ren_con f hc, Ty.pure_eq t] at e
    injection e with e1 e2 e3
    rw [if_pos ⟨e1, by simpa using congrArg List.length e3⟩]
    exact ons_c p.args ih t.args f m e3 hm
theorem all_c (f : Int → Int) (of : List Pd) : ∀ (l : List Pd) (m : Bnd), (∀ q ∈ l, ∃ r ∈ of, r.cls = q.cls ∧ renP f q.ty = r.ty.pure) → SubM m f → allM l of m = true
  | [], _, _, _ => rfl
  | q :: l, m, h, hm => by
    obtain ⟨r, hr, h1, h2⟩ := h q (by simp)
    obtain ⟨m', e, hm'⟩ := on_c q.ty r.ty f m h2 hm
    show (of.any fun r => (r.cls == q.cls) && (match onT q.ty r.ty m with | some m' => allM l of m' | none => false)) = true
    rw [List.any_eq_true]
    refine ⟨r, hr, ?_⟩
    rw [e, Bool.and_eq_true]
    exact ⟨by simpa using h1, all_c f of l m' (fun q hq => h q (by simp [hq])) hm'⟩
theorem same_above {a b : Sc} (h : sameS a b = true) : abvB a b = true := by
  obtain ⟨f, hf, hT⟩ := same_names h
  obtain ⟨h1, h2, h3, h4, -⟩ := sameS_iff.1 h
  unfold tyS at hT
  rw [List.map_cons, List.map_cons, List.cons.injEq] at hT
  have hm : SubM (m0S a) f := fun v u hu => by
    unfold m0S at hu
    split at hu
    · rename_i hv
      injection hu with hu
      obtain ⟨hv, ho⟩ := frS_mem.1 hv
      rw [hf.free v hv ho, hu]
    · cases hu
  obtain ⟨m', e, hm'⟩ := on_c a.ty b.ty f (m0S a) hT.1 hm
  unfold abvB
  rw [h1, h2, e]
  refine all_c f b.preds a.preds m' (fun q hq => ?_) hm'
  obtain ⟨i, hi, rfl⟩ := List.mem_iff_getElem.1 hq
  have hlen : a.preds.length = b.preds.length := by simpa using congrArg List.length h4
  have hi' : i < b.preds.length := by omega
  refine ⟨b.preds[i]'hi', List.getElem_mem hi', ?_, ?_⟩
  · have : (a.preds.map Pd.cls)[i]? = (b.preds.map Pd.cls)[i]? := by rw [h4]
    rw [List.getElem?_map, List.getElem?_map, List.getElem?_eq_getElem hi, List.getElem?_eq_getElem hi'] at this
    simpa using this.symm
  · have : ((a.preds.map Pd.ty).map (renP f))[i]? = ((b.preds.map Pd.ty).map Ty.pure)[i]? := by rw [hT.2]
    rw [List.getElem?_map, List.getElem?_map, List.getElem?_map, List.getElem?_map, List.getElem?_eq_getElem hi, List.getElem?_eq_getElem hi'] at this
    simpa using this
theorem above_self {a : Sc} (h : scB a = true) : abvB a a = true := same_above (by rw [same_self]; exact h)

end Go.Proofs.YtmjiljhcjfnfpaaGreat

/- Contracts: whether a text begins with another one; a reader's take. -/
namespace Go.Proofs.YtmjiljhcjfnfpaaGreat
open Go.RowKit

/-- Does a text begin with another one? -/
def preG (p s : Str) : Bool := decide (p.length ≤ s.length) && (s.take p.length == p)

set_option maxRecDepth 10000 in
set_option maxHeartbeats 1000000 in
theorem s_prefixGI (s p : Str) (w : World) (hl : s.length ≤ 9223372036854775807) (hp : p.length ≤ 9223372036854775807) : Calls Tryz.prog 134 #[encStr s, encStr p] w fun e w' => e = .returned (.bool (preG p s)) ∧ w' = w := by
  by_cases h : p.length ≤ s.length
  · have hg : ((s.length : Nat) : Int) ≥ ((p.length : Nat) : Int) := by omega
    have hg2 : ((p.length : Nat) : Int) ≤ ((s.length : Nat) : Int) := by omega
    have hsl := fun w' => sl_to s p.length p.length h rfl w'
    have HP : Hid (preG p s = (s.take p.length == p)) := hide (by unfold preG; rw [decide_eq_true h]; rfl)
    generalize preG p s = R at *
    generalize hu : s.take p.length = u at *
    cases hb : (u == p)
    · have hR : R = false := by rw [HP.out, hb]
      clear HP hu h
      subst hR
      go_enter Tryz.func134, Tryz.ntmps134
      go_wp2
      go_ret
      exact ⟨rfl, rfl⟩
    · have hR : R = true := by rw [HP.out, hb]
      clear HP hu h
      subst hR
      go_enter Tryz.func134, Tryz.ntmps134
      go_wp2
      go_ret
      exact ⟨rfl, rfl⟩
  · have hR : preG p s = false := by unfold preG; rw [decide_eq_false h]; rfl
    have hg : ¬ ((s.length : Nat) : Int) ≥ ((p.length : Nat) : Int) := by omega
    have hg2 : ¬ ((p.length : Nat) : Int) ≤ ((s.length : Nat) : Int) := by omega
    rw [hR]
    clear hR h
    go_enter Tryz.func134, Tryz.ntmps134
    go_wp2
    go_ret
    exact ⟨rfl, rfl⟩
theorem s_prefixG (s p : Str) (w : World) (hl : s.length ≤ 9223372036854775807) (hp : p.length ≤ 9223372036854775807) : Calls Tryz.prog 105 #[encStr s, encStr p] w fun e w' => e = .returned (.bool (preG p s)) ∧ w' = w := by
  have H := hide (s_prefixGI s p w hl hp)
  generalize preG p s = R at *
  go_enter Tryz.func105, Tryz.ntmps105
  go_wp2_with fail
  refine H.out.mono ?_
  rintro e w2 ⟨rfl, rfl⟩
  go_wp2
  go_ret
  exact ⟨rfl, rfl⟩
/-- A reader in memory: what is left, the level, whether it fails. -/
def RdAt (w : World) (b : Nat) (s : Str) (lv : Int) (bad : Bool) : Prop := w.heap[b]? = some (.cells #[encStr s, .int .i64 lv, .bool bad] 101 (0, 0))
section
variable {w w' : World} {b : Nat} {s : Str} {lv : Int} {bad : Bool}
theorem RdAt.lt (h : RdAt w b s lv bad) : b < w.heap.size := lt_of_obj h
theorem RdAt.ext (h : RdAt w b s lv bad) (e : Ext w w') : RdAt w' b s lv bad := (e.heap h.lt).trans h
theorem RdAt.cells (h : RdAt w b s lv bad) : w.cell? ⟨b, 0, none⟩ = some (encStr s) ∧ w.cell? ⟨b, 1, none⟩ = some (.int .i64 lv) ∧ w.cell? ⟨b, 2, none⟩ = some (.bool bad) ∧ w.frozen? ⟨b, 0, none⟩ = false ∧ w.frozen? ⟨b, 1, none⟩ = false ∧ w.frozen? ⟨b, 2, none⟩ = false :=
  ⟨bytes_block h 0, bytes_block h 1, bytes_block h 2, free_block h 0, free_block h 1, free_block h 2⟩
theorem RdAt.set0 (h : RdAt w b s lv bad) (t : Str) : RdAt (w.setCell ⟨b, 0, none⟩ (encStr t)) b t lv bad := blk_setCell h 0 _
theorem RdAt.set1 (h : RdAt w b s lv bad) (n : Int) : RdAt (w.setCell ⟨b, 1, none⟩ (.int .i64 n)) b s n bad := blk_setCell h 1 _
theorem RdAt.set2 (h : RdAt w b s lv bad) (x : Bool) : RdAt (w.setCell ⟨b, 2, none⟩ (.bool x)) b s lv x := blk_setCell h 2 _
end

set_option maxRecDepth 10000 in
set_option maxHeartbeats 1000000 in
theorem t_take (b : Nat) (s p : Str) (lv : Int) (bad : Bool) (w : World) (h : RdAt w b s lv bad) (hl : s.length ≤ 9223372036854775807) (hp : p.length ≤ 9223372036854775807) :
    Calls Tryz.prog 106 #[.pointer (some ⟨b, 0, none⟩), encStr p] w fun e w' => e = .returned (.bool (preG p s)) ∧ RdAt w' b (if preG p s = true then s.drop p.length else s) lv bad ∧ w.grownBy w' (some b) := by
  have H := hide (fun w' => hide (s_prefixG s p w' hl hp))
  obtain ⟨c0, c1, c2, f0, f1, f2⟩ := h.cells
  have lb := h.lt
  have HR := hide h
  cases hb : preG p s
  · rw [hb] at H
    clear hb h
    go_enter Tryz.func106, Tryz.ntmps106
    go_wp2_with fail
    refine (H.out _).out.mono ?_
    rintro e w2 ⟨rfl, rfl⟩
    go_wp2
    go_ret
    exact ⟨rfl, HR.out, World.grownBy.refl _ _⟩
  · have hle : p.length ≤ s.length := by
      unfold preG at hb
      rw [Bool.and_eq_true, decide_eq_true_eq] at hb
      exact hb.1
    have hsl := fun w' => sl_from s p.length p.length hle rfl w'
    rw [hb] at H
    clear hb h
    generalize s.drop p.length = u at *
    go_enter Tryz.func106, Tryz.ntmps106
    go_wp2_with fail
    refine (H.out _).out.mono ?_
    rintro e w2 ⟨rfl, rfl⟩
    go_wp2
    go_ret
    exact ⟨rfl, HR.out.set0 u, grown_cell _ _ _ _⟩

end Go.Proofs.YtmjiljhcjfnfpaaGreat

/- Contracts: a number's letter; of the program, and of the reference. -/
namespace Go.Proofs.YtmjiljhcjfnfpaaGreat
open Go.RowKit

theorem letter_neg {n : Int} (h : n < 0) : letter n = [] := by unfold letter; rw [if_pos h]
theorem letter_lo {m : Nat} (h : m < 26) : letter (m : Int) = [chr (97 + m % 26)] := by
  unfold letter
  rw [if_neg (by omega), if_pos (by omega)]
  rfl
theorem letter_hi {m : Nat} (h : ¬ m < 26) : letter (m : Int) = [chr (97 + m % 26)] ++ digs (m / 26) := by
  unfold letter
  rw [if_neg (by omega), if_neg (by omega)]
  rfl
theorem digs_20 {n : Nat} (h : n ≤ 9223372036854775807) : (digs n).length ≤ 20 := digs_len 19 n (Nat.lt_of_le_of_lt h (by decide))

set_option maxRecDepth 10000 in
set_option maxHeartbeats 1000000 in
theorem n_letter (n : Int) (h1 : n ≤ 9223372036854775807) (w : World) : Calls Tryz.prog 110 #[.int .i64 n] w fun e w' => e = .returned (encStr (letter n)) ∧ Ext w w' := by
  by_cases h0 : n < 0
  · rw [letter_neg h0]
    go_enter Tryz.func110, Tryz.ntmps110
    go_wp2
    go_ret
    exact ⟨rfl, Ext.refl _⟩
  · obtain ⟨m, rfl⟩ : ∃ m : Nat, n = m := ⟨n.toNat, by omega⟩
    have hcv := conv_one w (97 + m % 26) (97 + (m : Int) % 26) (by omega) (by omega)
    have hcv2 : IntKind.u8.wrap (97 + (m : Int) % 26) = 97 + (m : Int) % 26 := by simp [IntKind.wrap, IntKind.bits, IntKind.signed]; omega
    by_cases hlo : m < 26
    · have hlo' : decide ((m : Int) < 26) = true := by simp; omega
      rw [letter_lo hlo]
      go_enter Tryz.func110, Tryz.ntmps110
      go_wp2
      go_ret
      exact ⟨rfl, (Ext.refl _).alloc _⟩
    · have hlo' : decide ((m : Int) < 26) = false := by simp; omega
      have HT := hide (fun w' => i_text (m / 26) (by omega) w')
      have hq : (m : Int) / 26 = ((m / 26 : Nat) : Int) := by omega
      have H20 := hide (digs_20 (show m / 26 ≤ 9223372036854775807 by omega))
      rw [letter_hi hlo]
      generalize chr (97 + m % 26) = c at *
      generalize m / 26 = q at *
      go_enter Tryz.func110, Tryz.ntmps110
      go_wp2_with fail
      refine (HT.out _).mono ?_
      rintro e w2 ⟨rfl, hx⟩
      have hsz : ¬ ((⟨[c].toArray⟩ : ByteArray).size + (⟨(digs q).toArray⟩ : ByteArray).size > 9223372036854775807) := by have := H20.out; rw [ba_size, ba_size]; simp; omega
      go_wp2
      go_ret
      refine ⟨?_, ((Ext.refl _).alloc _).trans hx⟩
      exact congrArg (fun b => Ending.returned (Value.string b)) (ByteArray.mk_append_mk [c] (digs q))


end Go.Proofs.YtmjiljhcjfnfpaaGreat

/- A world, named. -/
namespace Go.Proofs.YtmjiljhcjfnfpaaGreat

theorem wp_named {P : Program} {c : Code} {Q : Exit → Act → World → Prop} {a : Act} {w : World} (h : ∀ W, W = w → Code.wp P c Q a W) : Code.wp P c Q a w := h w rfl

end Go.Proofs.YtmjiljhcjfnfpaaGreat
