/- Contract: the scheme for all variables but some (scheme's Close). -/
import Derived.Test.YtnomibjbjplieaaGreatJC32
import Derived.Test.YtnomibjbjplieaaGreatBsI
import Derived.RegionTactic
import Derived.Deep.DeepCutAuto
/- Contract: the scheme for all variables but some (scheme's Close). -/
namespace Go.Proofs.YtnomibjbjplieaaGreat
open Go.RowKit Go.Shelf Go.Sort

/-- What is kept, sorted; how many new variables there are. -/
structure ClSt (bk bn g n : Nat) (ks : List Int) (c : Int) (w : World) : Prop where
  box : w.heap[bk]? = some (.cells #[.slice (some ⟨g, 0, none⟩) n n] 29 (0, 0))
  row : ∀ j, j < ks.length → w.cell? ⟨g, 0 + j, none⟩ = some (.int .i64 (ks.getD j 0))
  cnt : w.heap[bn]? = some (.cells #[.int .i64 c] 3 (0, 0))
  gl : g < w.heap.size

set_option maxRecDepth 10000 in
set_option maxHeartbeats 4000000 in
theorem sc_close1 (x c : Int) (bk bn g n : Nat) (ks : List Int) (w : World) (h : ClSt bk bn g n ks c w) (hn : ks.length = n) (hs : ks.Pairwise (· ≤ ·)) (hx : ks.contains x = true → -9223372036854775808 ≤ x ∧ x ≤ 9223372036854775807) (hc0 : 0 ≤ c) (hc : c ≤ 1000000) (hnl : n ≤ 1000000) (hbb : bk ≠ bn) (hgb : g ≠ bn) :
    Calls Tryz.prog 59 #[.int .i64 x, .pointer (some ⟨bk, 0, none⟩), .pointer (some ⟨bn, 0, none⟩)] w fun e w' => e = .returned (.int .i64 (if ks.contains x = true then min x (-1 - x) else c)) ∧ ClSt bk bn g n ks (if ks.contains x = true then c else c + 1) w' ∧ w.grownBy w' (some bn) := by
  have HB := hide (fun w' (q : Nat) (e : w' = w.drewN q) => (show Calls Tryz.prog 60 #[.slice (some ⟨g, 0, none⟩) n n, .int .i64 x] w' _ from AnyG.slices_BinarySearch_int (P := Tryz.prog) (ρ := Tryz.lBs_ren) Tryz.lBs g 0 n n ks x w' (by omega) (by omega) (fun j hj => by subst e; exact h.row j hj) (by rw [← hn, List.take_length]; exact hs)))
  have b0 : w.cell? ⟨bk, 0, none⟩ = some (.slice (some ⟨g, 0, none⟩) n n) := bytes_block h.box 0
  have n0 : w.cell? ⟨bn, 0, none⟩ = some (.int .i64 c) := bytes_block h.cnt 0
  have nf : w.frozen? ⟨bn, 0, none⟩ = false := free_block h.cnt 0
  have hbl := lt_of_obj h.box
  have hnlt := lt_of_obj h.cnt
  have H := hide h
  have htk : ks.take n = ks := by rw [← hn, List.take_length]
  rw [htk] at HB
  clear h htk
  obtain ⟨r1, hr1⟩ : ∃ r1, r1 = (if ks.contains x = true then min x (-1 - x) else c) := ⟨_, rfl⟩
  obtain ⟨r2, hr2⟩ : ∃ r2, r2 = (if ks.contains x = true then c else c + 1) := ⟨_, rfl⟩
  rw [← hr1, ← hr2]
  cases hcn : ks.contains x
  · rw [hcn, if_neg (by simp)] at hr1 hr2
    rw [hcn] at HB
    have HB0 := hide (HB.out w 0 rfl)
    clear HB hcn hx
    subst hr1 hr2
    go_enter Tryz.func59, Tryz.ntmps59
    go_wp2_with fail
    refine HB0.out.mono ?_
    rintro e w2 ⟨rfl, q, rfl⟩
    go_wp2
    go_ret
    exact ⟨rfl, ⟨(Below.heap_setCell (w.drewN q) ⟨bn, 0, none⟩ _ bk hbb).trans H.out.box, fun j hj => (World.cell?_of_block (Below.heap_setCell (w.drewN q) ⟨bn, 0, none⟩ _ g hgb)).trans (H.out.row j hj), blk_setCell (w := w.drewN q) H.out.cnt 0 _, by simpa [World.setCell, World.drewN] using H.out.gl⟩, grown_trans (ext_grown ((Ext.refl w).drewN q) _) (grown_cell _ _ _ _)⟩
  · rw [hcn, if_pos rfl] at hr1 hr2
    have hxb := hx hcn
    rw [hcn] at HB
    have HB0 := hide (HB.out w 0 rfl)
    have hw1 : IntKind.i64.wrap (-1 - x) = -1 - x := by rw [IntKind.wrap_i64]; omega
    have HR1 := hide hr1
    clear HB hcn hx hr1
    subst hr2
    go_enter Tryz.func59, Tryz.ntmps59
    go_wp2_with fail
    refine HB0.out.mono ?_
    rintro e w2 ⟨rfl, q, rfl⟩
    go_wp2
    all_goals go_ret
    all_goals exact ⟨by rw [HR1.out]; first | rfl | (congr 2; omega), ⟨H.out.box, H.out.row, H.out.cnt, H.out.gl⟩, ext_grown ((Ext.refl w).drewN q) _⟩

/-- What Close tells. -/
structure CloseIs (keep : List Int) (t : Ty) (l : List Pd) (sc : Sc) : Prop where
  no : (legalT t && l.all pdB) = false → sc.n = 0 ∧ sc.preds = [] ∧ sc.ty.pure = .mk [] 0 []
  n : (legalT t && l.all pdB) = true → sc.n = closeN keep (sVars t l)
  ty : (legalT t && l.all pdB) = true → sc.ty.pure = renP (rOf (sVars t l) (closeGo keep 0 (sVars t l))) t
  ps : (legalT t && l.all pdB) = true → sc.preds.map (fun d => (d.cls, d.ty.pure)) = l.map fun x => (x.cls, renP (rOf (sVars t l) (closeGo keep 0 (sVars t l))) x.ty)
/-- Where what is told lies not. -/
structure ScOff (w : World) (t : Ty) (l : List Pd) (sc : Sc) : Prop where
  ty : ∀ c, c < w.heap.size → awayB c t = true → awayB c sc.ty = true
  ps : ∀ d ∈ sc.preds, ∀ c, c < w.heap.size → (∀ x ∈ l, awayB c x.ty = true) → awayB c d.ty = true
  row : sc.preds ≠ [] → ∀ a, sc.A = some a → w.heap.size ≤ a.block
theorem ScIn.grown {w w' : World} {sc : Sc} {b : Nat} (h : ScIn w sc) (g : w.grownBy w' (some b)) (h1 : awayB b sc.ty = true) (h2 : ∀ d ∈ sc.preds, awayB b d.ty = true) (h3 : sc.preds ≠ [] → ∀ a, sc.A = some a → a.block ≠ b) : ScIn w' sc :=
  ⟨h.le, h.max, ⟨row_grown h.row.row g (fun hn a ha e => by injection e with e; exact h3 (fun e2 => hn (by rw [e2]; rfl)) a ha e.symm), fun d hd => ⟨(h.row.all d hd).cls, (h.row.all d hd).ty.grown g (fun c e => by injection e with e; subst e; exact h2 d hd)⟩⟩, h.ty.grown g (fun c e => by injection e with e; subst e; exact h1)⟩
theorem own_blocks {w : World} {base : Nat} {e : TypeId} {size : Nat} {A : Option Addr} {n c : Nat} {xs : List Value} (h : w.ownsRow base e size (.slice A n c) n xs) : ∀ a, A = some a → base ≤ a.block := by
  intro a ha
  subst ha
  rcases h.2 with ⟨hv, -⟩ | ⟨g, cp, cur, hv, hb, -⟩
  · injection hv with e1; cases e1
  · injection hv with e1
    injection e1 with e1
    subst e1
    exact hb
theorem make_ints (m : Nat) (hm : m ≤ 100000) (W : World) : ∃ cur : List Value, cur.length = m ∧ (Instr.makeSlice 29 (.int .i64 m) (.int .i64 m)).run Tryz.prog W = .ok (.slice (some ⟨W.heap.size, 0, none⟩) m m) (W.alloc (.cells cur.toArray 3)) := by
  obtain ⟨i1, hj, hy0, hy1, hy2⟩ := info_parts int64_info
  have hmk := run_make (P := Tryz.prog) W 29 3 i1 _ Tryz.underlying29 hj hy0 .i64 .i64 m m (by omega) (Int.le_refl _) (by rw [hy2]; omega) (by omega)
  refine ⟨(madeCells (Value.int .i64 0).cells m).toList, by simp [madeCells, Value.cells], ?_⟩
  rw [hy1] at hmk
  simpa using hmk
theorem int_size : (Tryz.prog.info? 3).map (·.size) = some 1 := by kernel_rfl
theorem own_of_cells {w : World} {g n : Nat} {l : List Int} (h : w.heap[g]? = some (.cells (l.map (Value.int .i64)).toArray 3 (0, 0))) (hn : l.length = n) (hm : n ≤ 100000) : w.ownsRow g 3 1 (.slice (some ⟨g, 0, none⟩) n n) n (l.map (Value.int .i64)) :=
  ⟨by simp [hn], .inr ⟨g, n, _, rfl, Nat.le_refl _, h, Nat.le_refl _, by unfold maxLen; omega, by simp [hn], by rw [List.take_of_length_le (by simp [hn])]⟩⟩
theorem contains_sort (keep : List Int) (x : Int) : (keep.mergeSort fun x y => decide (x ≤ y)).contains x = keep.contains x := by
  rw [Bool.eq_iff_iff, List.contains_iff_mem, List.contains_iff_mem]
  exact (List.mergeSort_perm _ _).mem_iff
theorem sort_le (keep : List Int) : (keep.mergeSort fun x y => decide (x ≤ y)).Pairwise (· ≤ ·) := by
  have hs : (keep.mergeSort fun x y => decide (x ≤ y)).Pairwise fun x y => decide (x ≤ y) = true := List.pairwise_mergeSort (fun a b c h1 h2 => by simp at *; omega) (fun a b => by simp; omega) keep
  exact hs.imp (fun h => by simpa using h)
theorem close1_opens : Opens 59 := enters_of Tryz.func59 (by kernel_rfl) rfl
/-- Close's function value tells what is to be told. -/
theorem close_tells (bk bn g N0 : Nat) (keep L : List Int) (hb : ∀ v ∈ keep, -9223372036854775808 ≤ v ∧ v ≤ 9223372036854775807) (hkl : keep.length ≤ 1000000) (hL : L.length ≤ 1000000) (h1 : bk < N0) (h2 : bn < N0) (h3 : g < N0) (hbb : bk ≠ bn) (hgb : g ≠ bn) :
    TellsR 59 #[.pointer (some ⟨bk, 0, none⟩), .pointer (some ⟨bn, 0, none⟩)] L (closeGo keep 0 L) (fun k w => ClSt bk bn g keep.length (keep.mergeSort fun x y => decide (x ≤ y)) (closeN keep (L.take k) : Nat) w) bn N0 where
  op := close1_opens
  step k hk w hS := by
    have hc := closeN_le keep (L.take k)
    rw [List.length_take] at hc
    refine (sc_close1 (L[k]'hk) (closeN keep (L.take k) : Nat) bk bn g keep.length _ w hS (List.length_mergeSort _) (sort_le keep) (fun h => hb _ (by rw [contains_sort, List.contains_iff_mem] at h; exact h)) (by omega) (by omega) hkl hbb hgb).mono ?_
    rintro e w' ⟨rfl, hS', hg⟩
    rw [contains_sort] at hS' ⊢
    refine ⟨?_, ?_, hg⟩
    · rw [closeGo_at keep L 0 hk]
      split <;> simp
    · rw [closeN_take keep L hk]
      split at hS'
      · rename_i h; rw [if_pos h]; simpa using hS'
      · rename_i h; rw [if_neg h]; simpa using hS'
  keep k w w' hS hB := ⟨(hB.block bk h1).trans hS.box, fun j hj => (World.cell?_of_block (hB.block g h3)).trans (hS.row j hj), (hB.block bn h2).trans hS.cnt, by have := hB.size; have := hS.gl; omega⟩
  lt := h2

set_option maxRecDepth 10000 in
set_option maxHeartbeats 8000000 in
theorem sc_close (t : Ty) (A : Option Addr) (cap : Nat) (l : List Pd) (K : Option Addr) (kc : Nat) (keep : List Int) (w : World) (ht : TyIn w t) (hl : PdsIn w A l) (hk : Ints w K keep) (hkb : ∀ v ∈ keep, -9223372036854775808 ≤ v ∧ v ≤ 9223372036854775807) (hkl : keep.length ≤ 10000) (hlen : l.length ≤ 40000) (hsz : t.size + psz l ≤ 50000) :
    Calls Tryz.prog 30 #[tyV t, .slice A l.length cap, .slice K keep.length kc] w fun e w' => (∃ sc : Sc, e = .returned (scV sc) ∧ ScIn w' sc ∧ CloseIs keep t l sc ∧ ScOff w t l sc) ∧ Ext w w' := by
  obtain ⟨W, hW⟩ : ∃ W, W = (w.alloc (.cells #[encStr t.con, .int .i64 t.var, .slice t.A t.args.length t.cap] 32)).alloc (.cells #[.int .i64 0, .slice none 0 0, .string ⟨#[]⟩, .int .i64 0, .slice none 0 0] 39) := ⟨_, rfl⟩
  have HW := hide hW.symm
  have X0 : Hid (Ext w W) := hide (by rw [hW]; exact ((Ext.refl _).alloc _).alloc _)
  have B1 : Hid (TBox W w.heap.size t) := hide (by rw [hW]; exact (TBox.new w t).ext ((Ext.refl _).alloc _))
  have B2 : Hid (W.heap[w.heap.size + 1]? = some (.cells #[.int .i64 0, .slice none 0 0, .string ⟨#[]⟩, .int .i64 0, .slice none 0 0] 39 (0, 0))) := hide (by rw [hW]; exact at_newB _ _ _ (by simp))
  have HMay := hide (s_may t A cap l W (ht.ext X0.out) (by omega) (hl.ext X0.out) (by omega) (fun p hp => by have := psz_mem hp; omega))
  have H := hide ht
  have HL := hide hl
  have HK := hide hk
  obtain ⟨a0, a1, a2⟩ := And.intro B1.out.c0 (And.intro B1.out.c1 B1.out.c2)
  have hltb := B1.out.lt
  clear hW ht hl hk
  unfold tyV at *
  cases hm : (legalT t && l.all pdB)
  · rw [hm] at HMay
    have Hm := hide hm
    clear hm
    go_enter Tryz.func30, Tryz.ntmps30
    go_upto_region 1 with fail
    rw [HW.out]
    go_wp2_with fail
    refine HMay.out.mono ?_
    rintro e w2 ⟨rfl, hx2⟩
    have X2 := hide (X0.out.trans hx2)
    have BZ := hide ((hx2.heap (lt_of_obj B2.out)).trans B2.out)
    have f0 := free_block BZ.out 0
    have f1 := free_block BZ.out 1
    have f2 := free_block BZ.out 2
    have f3 := free_block BZ.out 3
    have f4 := free_block BZ.out 4
    have k0 := bytes_block BZ.out 0
    have k1 := bytes_block BZ.out 1
    have k2 := bytes_block BZ.out 2
    have k3 := bytes_block BZ.out 3
    have k4 := bytes_block BZ.out 4
    simp only [List.getElem?_toArray, List.getElem?_cons_zero, List.getElem?_cons_succ] at k0 k1 k2 k3 k4
    clear hx2 a0 a1 a2
    go_wp2
    refine bodyPost_ret (v := .agg #[.int .i64 0, .slice none 0 0, .string ⟨#[]⟩, .int .i64 0, .slice none 0 0]) ?_ rfl ⟨⟨⟨0, none, 0, [], .mk [] 0 none 0 []⟩, rfl, ⟨Nat.le_refl _, by decide, ⟨RowOf.nil _ _ _, by simp⟩, zeroT_in _⟩, ⟨(fun _ => ⟨rfl, rfl, by rw [Ty.pure_eq]; rfl⟩), (fun h => by rw [Hm.out] at h; cases h), (fun h => by rw [Hm.out] at h; cases h), (fun h => by rw [Hm.out] at h; cases h)⟩, ⟨fun c _ _ => zeroT_away c, by simp, fun h => absurd rfl h⟩⟩, ?_⟩
    · simp [results, Tryz.f30, go_sem, k0, k1, k2, k3, k4]
    · exact ((((X2.out.setCell (by simp) _).setCell (by simp) _).setCell (by simp) _).setCell (by simp) _).setCell (by simp) _
  rw [hm] at HMay
  have Hm := hide hm
  obtain ⟨htl, hall⟩ : legalT t = true ∧ ∀ x ∈ l, legalT x.ty = true := by
    rw [Bool.and_eq_true, List.all_eq_true] at hm
    refine ⟨hm.1, fun x hx => ?_⟩
    have := hm.2 x hx
    unfold pdB at this
    rw [Bool.and_eq_true] at this
    exact this.2
  have Htl := hide htl
  have Hall := hide hall
  clear hm htl hall
  go_enter Tryz.func30, Tryz.ntmps30
  go_upto_region 1 with fail
  rw [HW.out]
  go_wp2_with fail
  refine HMay.out.mono ?_
  rintro e w2 ⟨rfl, hx2⟩
  have X2 := hide hx2
  obtain ⟨cur, hcur, hmk⟩ := make_ints keep.length (by omega) w2
  obtain ⟨W4, hW4⟩ : ∃ W4, W4 = (w2.alloc (.cells cur.toArray 3)).alloc (.cells #[.slice (some ⟨w2.heap.size, 0, none⟩) keep.length keep.length] 29) := ⟨_, rfl⟩
  have HW4 := hide hW4.symm
  have X24 : Hid (Ext w2 W4) := hide (by rw [hW4]; exact ((Ext.refl _).alloc _).alloc _)
  have BG : Hid (W4.heap[w2.heap.size]? = some (.cells cur.toArray 3 (0, 0))) := hide (by rw [hW4]; exact (((Ext.refl _).alloc _).heap (by simp)).trans (at_newB _ _ _ rfl))
  have BK : Hid (W4.heap[w2.heap.size + 1]? = some (.cells #[.slice (some ⟨w2.heap.size, 0, none⟩) keep.length keep.length] 29 (0, 0))) := hide (by rw [hW4]; exact at_newB _ _ _ (by simp))
  have hs4 : W4.heap.size = w2.heap.size + 2 := by rw [hW4]; simp
  have Hs4 := hide hs4
  have hcK : W4.cell? ⟨w2.heap.size + 1, 0, none⟩ = some (.slice (some ⟨w2.heap.size, 0, none⟩) keep.length keep.length) := bytes_block BK.out 0
  have hlK : w2.heap.size + 1 < W4.heap.size := by omega
  have HK4 := hide (RowOf.ext intC HK.out (X0.out.trans (X2.out.trans X24.out)))
  clear hx2 hW4 a0 a1 a2 HMay hs4
  go_upto_region 4 with fail
  rw [HW4.out]
  go_cut [21] (fun _ wx => Hid (wx.heap[w2.heap.size]? = some (.cells (keep.map (Value.int .i64)).toArray 3 (0, 0))) ∧ Hid (W4.grownBy wx (some w2.heap.size)) ∧ wx.heap.size = W4.heap.size)
  case first =>
    by_cases h0 : keep.length = 0
    · have hk0 : keep = [] := List.eq_nil_of_length_eq_zero h0
      have hc0 : cur = [] := List.eq_nil_of_length_eq_zero (by omega)
      have HE : Hid (W4.heap[w2.heap.size]? = some (.cells (keep.map (Value.int .i64)).toArray 3 (0, 0))) := hide (by rw [hk0]; have := BG.out; rw [hc0] at this; exact this)
      clear hk0 hc0
      go_wp2_with (refine wpList_copy_nothing rfl _ _ 29 29 rfl 3 Tryz.underlying29 int_size _ _ _ _ _ _ rfl rfl ?hn ?_)
      case hn => simp [h0]
      go_wp2_with fail
      go_meet
      exact ⟨HE.out, hide (World.grownBy.refl _ _), rfl⟩
    · obtain ⟨b, o, rfl, hb, hc⟩ := HK4.out.2 (by omega)
      have HSrc : Hid (∀ j v, (keep.map (Value.int .i64))[j]? = some v → W4.cell? ((⟨b, o, none⟩ : Addr).add j) = some v) := hide (fun j v hj => by
        have e : (⟨b, o, none⟩ : Addr).add j = ⟨b, o + j, none⟩ := by unfold Addr.add; split <;> simp_all
        rw [e]
        refine hc j v ?_
        rw [show keep.flatMap intC.f = keep.map (Value.int .i64) from flat_one _ _]
        exact hj)
      clear hc
      go_wp2_with (refine wpList_copy_k rfl _ _ 29 29 rfl 3 Tryz.underlying29 1 int_size w2.heap.size 0 _ _ ⟨b, o, none⟩ _ _ rfl rfl cur 3 BG.out (keep.map (Value.int .i64)) keep.length ?n1 ?l1 HSrc.out ?f1 (one_ints keep) ?_)
      case n1 => simp
      case l1 => simp
      case f1 => simp; omega
      intro w' hG hB hz
      have HE : Hid (w'.heap[w2.heap.size]? = some (.cells (keep.map (Value.int .i64)).toArray 3 (0, 0))) := hide (by
        have e : splice cur 0 (keep.map (Value.int .i64)) = keep.map (Value.int .i64) := by
          unfold splice
          rw [List.take_zero, List.nil_append, List.drop_eq_nil_of_le (by simp; omega), List.append_nil]
        have := hG.out
        rw [e] at this
        exact this)
      clear hG
      go_wp2_with fail
      go_meet
      exact ⟨HE.out, hB, hz⟩
  case rest =>
    obtain ⟨HG, HB, hzc⟩ := hcut
    have hn10 : keep.length ≤ 100000 := by omega
    have hsz2 : w.heap.size + 1 < w2.heap.size := by have := (X2.out.heap (lt_of_obj B2.out)).trans B2.out; have := lt_of_obj this; omega
    have HOw := hide (own_of_cells HG.out rfl hn10)
    have HSo := hide (sort_i w2.heap.size _ keep wc HOw.out (by omega))
    have BKc : Hid (wc.heap[w2.heap.size + 1]? = some (.cells #[.slice (some ⟨w2.heap.size, 0, none⟩) keep.length keep.length] 29 (0, 0))) := hide ((HB.out.block _ (by rw [Hs4.out]; omega) (fun e => by injection e with e; omega)).trans BK.out)
    have c0 : wc.cell? ⟨w2.heap.size + 1, 0, none⟩ = some (.slice (some ⟨w2.heap.size, 0, none⟩) keep.length keep.length) := bytes_block BKc.out 0
    have hlc := lt_of_obj BKc.out
    have Xc : Hid (Ext w wc) := hide ((X0.out.trans (X2.out.trans X24.out)).grown HB.out (fun k e => by injection e with e; omega))
    have hcB1 := hide ((HB.out.block w.heap.size (by have := X24.out.size; omega) (fun e => by injection e with e; omega)).trans (((X2.out.trans X24.out).heap B1.out.lt).trans B1.out))
    have hcB2 := hide ((HB.out.block (w.heap.size + 1) (by have := X24.out.size; omega) (fun e => by injection e with e; omega)).trans (((X2.out.trans X24.out).heap (lt_of_obj B2.out)).trans B2.out))
    clear hcK hlK
    go_wp2_with fail
    refine HSo.out.mono ?_
    rintro e w6 ⟨rfl, hg6, hH6⟩
    have HH6 := hide (hH6 _ _ rfl)
    have hg6' : wc.grownBy w6 (some w2.heap.size) := hg6
    have hs6 := hg6'.size
    have X6 : Hid (Ext w w6) := hide (Xc.out.grown hg6' (fun k e => by injection e with e; omega))
    have BK6 := hide ((hg6'.block _ hlc (fun e => by injection e with e; omega)).trans BKc.out)
    have B16 := hide ((hg6'.block w.heap.size (by omega) (fun e => by injection e with e; omega)).trans hcB1.out)
    have B26 := hide ((hg6'.block (w.heap.size + 1) (by omega) (fun e => by injection e with e; omega)).trans hcB2.out)
    obtain ⟨W7, hW7⟩ : ∃ W7, W7 = w6.alloc (.cells #[.int .i64 0] 3) := ⟨_, rfl⟩
    have HW7 := hide hW7.symm
    have X67 : Hid (Ext w6 W7) := hide (by rw [hW7]; exact (Ext.refl _).alloc _)
    have BN : Hid (W7.heap[w6.heap.size]? = some (.cells #[.int .i64 0] 3 (0, 0))) := hide (by rw [hW7]; exact at_newB _ _ _ rfl)
    have hs7 : W7.heap.size = w6.heap.size + 1 := by rw [hW7]; simp
    have B17 : Hid (TBox W7 w.heap.size t) := hide ((X67.out.heap (lt_of_obj B16.out)).trans B16.out)
    have B27 := hide ((X67.out.heap (lt_of_obj B26.out)).trans B26.out)
    have hl6 := lt_of_obj BK6.out
    have X7 := hide (X6.out.trans X67.out)
    have HSt0 : Hid (ClSt (w2.heap.size + 1) w6.heap.size w2.heap.size keep.length (keep.mergeSort fun x y => decide (x ≤ y)) (closeN keep ((sVars t l).take 0) : Nat) W7) := hide
      ⟨(X67.out.heap hl6).trans BK6.out, fun j hj => by
        have h1 := (HH6.out j (by simpa using hj)).1
        rw [getElem!_pos _ _ (by simpa using hj)] at h1
        refine (World.cell?_of_block (X67.out.heap (by show w2.heap.size < _; omega))).trans ?_
        rw [h1]
        simp [List.getD_eq_getElem?_getD, List.getElem?_eq_getElem hj], BN.out, by omega⟩
    have hVl : (sVars t l).length ≤ 50000 := Nat.le_trans (sVars_len t l) hsz
    have HRen := hide (sc_renamed 59 #[.pointer (some ⟨w2.heap.size + 1, 0, none⟩), .pointer (some ⟨w6.heap.size, 0, none⟩)] w6.heap.size (closeGo keep 0 (sVars t l)) _ t A cap l W7
      (close_tells (w2.heap.size + 1) w6.heap.size w2.heap.size W7.heap.size keep (sVars t l) hkb (by omega) (by omega) (by omega) (by omega) (by omega) (by omega) (by omega)) HSt0.out (H.out.ext X7.out) (HL.out.ext X7.out) hlen hsz Htl.out Hall.out (away_new H.out (by omega)) (fun x hx => away_new (HL.out.all x hx).ty (by omega)) (fun hn a ha => by
        obtain ⟨b, o, e, hb, -⟩ := HL.out.row.2 (Nat.pos_of_ne_zero hn)
        rw [e] at ha
        injection ha with ha
        subst ha
        show b ≠ _
        omega))
    obtain ⟨a0, a1, a2⟩ := And.intro B17.out.c0 (And.intro B17.out.c1 B17.out.c2)
    have hlt7 := B17.out.lt
    clear hg6 hH6 hg6' hW7 c0 HSo
    unfold tyV at HRen
    go_upto_region 7 with fail
    rw [HW7.out]
    go_wp2_with fail
    refine HRen.out.mono ?_
    rintro e w8 ⟨u, v8, ds, rfl, hR, hS, hg8⟩
    obtain ⟨A8, c8, rfl, d1, d2, -, -⟩ := RowOf.own pdC hR.own
    have HR := hide hR
    rw [List.take_length] at hS
    have HS8 := hide hS
    have HG8 := hide hg8
    obtain ⟨W9, hW9⟩ : ∃ W9, W9 = w8.alloc (.cells #[encStr u.con, .int .i64 u.var, .slice u.A u.args.length u.cap] 32) := ⟨_, rfl⟩
    have HW9 := hide hW9.symm
    have X89 : Hid (Ext w8 W9) := hide (by rw [hW9]; exact (Ext.refl _).alloc _)
    have B9 : Hid (TBox W9 w8.heap.size u) := hide (by rw [hW9]; exact TBox.new w8 u)
    have BN9 := hide ((X89.out.heap (lt_of_obj HS8.out.cnt)).trans HS8.out.cnt)
    have hs8 := HG8.out.size
    have BZ := hide ((X89.out.heap (by omega)).trans ((HG8.out.block (w.heap.size + 1) (by omega) (fun e => by injection e with e; omega)).trans B27.out))
    have n0 : W9.cell? ⟨w6.heap.size, 0, none⟩ = some (.int .i64 (closeN keep (sVars t l) : Nat)) := bytes_block BN9.out 0
    obtain ⟨b0, b1, b2⟩ := And.intro B9.out.c0 (And.intro B9.out.c1 B9.out.c2)
    have hl9 := B9.out.lt
    have hln := lt_of_obj BN9.out
    have f0 := free_block BZ.out 0
    have f1 := free_block BZ.out 1
    have f2 := free_block BZ.out 2
    have f3 := free_block BZ.out 3
    have f4 := free_block BZ.out 4
    have k0 := bytes_block BZ.out 0
    have k1 := bytes_block BZ.out 1
    have k2 := bytes_block BZ.out 2
    have k3 := bytes_block BZ.out 3
    have k4 := bytes_block BZ.out 4
    simp only [List.getElem?_toArray, List.getElem?_cons_zero, List.getElem?_cons_succ] at k0 k1 k2 k3 k4
    have X9 : Hid (Ext w W9) := hide ((X7.out.grown HG8.out (fun k e => by injection e with e; omega)).trans X89.out)
    obtain ⟨WF, hWF⟩ : ∃ WF, WF = ((((W9.setCell ⟨w.heap.size + 1, 0, none⟩ (.int .i64 (closeN keep (sVars t l) : Nat))).setCell ⟨w.heap.size + 1, 1, none⟩ (.slice A8 ds.length c8)).setCell ⟨w.heap.size + 1, 2, none⟩ (encStr u.con)).setCell ⟨w.heap.size + 1, 3, none⟩ (.int .i64 u.var)).setCell ⟨w.heap.size + 1, 4, none⟩ (.slice u.A u.args.length u.cap) := ⟨_, rfl⟩
    have hgF : W9.grownBy WF (some (w.heap.size + 1)) := by
      rw [hWF]
      exact grown_trans (grown_trans (grown_cell _ _ _ _) (grown_cell _ _ _ _)) (put3_grown _ _ _ _ _ _ _ _)
    have XF : Hid (Ext w WF) := hide (X9.out.grown hgF (fun k e => by injection e with e; omega))
    have hoF := ((own_extB HR.out.own X89.out).kept hgF (.inr (fun e => by have := (HR.out.own.lt _ e).1; omega)))
    have HSc : Hid (ScIn WF ⟨(closeN keep (sVars t l) : Nat), A8, c8, ds, u⟩) := hide (by
      obtain ⟨A', c', e1, _, _, e4, _⟩ := RowOf.own pdC hoF
      injection e1 with e1 _ e3
      subst e1
      refine ⟨d1, d2, ⟨e4, fun d hd => ⟨?_, (((HR.out.dty d hd).ext X89.out).grown hgF (fun c e => by injection e with e; subst e; exact HR.out.daway d hd _ (by omega) (fun x hx => away_new (HL.out.all x hx).ty (by omega))))⟩⟩, ((HR.out.ty.ext X89.out).grown hgF (fun c e => by injection e with e; subst e; exact HR.out.away _ (by omega) (away_new H.out (by omega))))⟩
      have hmem : (d.cls, d.ty.pure) ∈ l.map fun x => (x.cls, renP (rOf (sVars t l) (closeGo keep 0 (sVars t l))) x.ty) := by rw [← HR.out.dis]; exact List.mem_map.2 ⟨d, hd, rfl⟩
      obtain ⟨x, hx, e⟩ := List.mem_map.1 hmem
      have := (HL.out.all x hx).cls
      rw [show d.cls = x.cls from (congrArg Prod.fst e).symm]
      exact this)
    clear hR hS hg8 hgF hoF hW9
    go_upto_region 8 with fail
    rw [HW9.out]
    go_wp2
    rw [← hWF]
    refine bodyPost_ret (v := .agg #[.int .i64 (closeN keep (sVars t l) : Nat), .slice A8 ds.length c8, encStr u.con, .int .i64 u.var, .slice u.A u.args.length u.cap]) ?_ rfl ⟨⟨⟨(closeN keep (sVars t l) : Nat), A8, c8, ds, u⟩, rfl, HSc.out, ⟨(fun h => by rw [Hm.out] at h; cases h), fun _ => rfl, fun _ => HR.out.is, fun _ => HR.out.dis⟩, ⟨fun c hc h => HR.out.away c (by omega) h, fun d hd c hc h => HR.out.daway d hd c (by omega) h, fun _ a ha => by have := own_blocks HR.out.own a ha; omega⟩⟩, XF.out⟩
    rw [hWF]
    simp [results, Tryz.f30, go_sem, k0, k1, k2, k3, k4]

end Go.Proofs.YtnomibjbjplieaaGreat

/- Contract of chapter 33: whose a method is, where, and its scheme. -/
namespace Go.Proofs.YtnomibjbjplieaaGreat
open Go.RowKit

theorem methF_some {s : Str} {l : List KlD} : ∀ {i0 i k : Nat}, methF s i0 l = some (i, k) → i0 ≤ i ∧ ∃ hi : i - i0 < l.length, ∃ hk : k < (l[i - i0]'hi).meths.length, ((l[i - i0]'hi).meths[k]'hk).name = s := by
  induction l with
  | nil => intro i0 i k h; cases h
  | cons x l ih =>
    intro i0 i k h
    unfold methF at h
    cases hx : methIx s x with
    | none =>
      rw [hx] at h
      obtain ⟨h1, hi, hk, hn⟩ := ih h
      have e : i - i0 = (i - (i0 + 1)) + 1 := by omega
      refine ⟨by omega, by rw [e]; simpa using hi, ?_⟩
      simp only [e, List.getElem_cons_succ]
      exact ⟨hk, hn⟩
    | some j =>
      rw [hx] at h
      injection h with h
      injection h with h1 h2
      subst h1 h2
      unfold methIx at hx
      rw [List.findIdx?_eq_some_iff_getElem] at hx
      obtain ⟨hj, hj2, -⟩ := hx
      refine ⟨Nat.le_refl _, by simp, ?_⟩
      simp only [Nat.sub_self, List.getElem_cons_zero]
      exact ⟨hj, by simpa using hj2⟩

theorem psz_one (c : Str) : psz [⟨c, Ty.zero⟩] = 1 := by
  unfold psz
  simp [Ty.size_eq, Ty.zero, Ty.args]
def Sc.zero : Sc := ⟨0, none, 0, [], Ty.zero⟩
structure MethOk (w : World) (cls : List KlD) (F : Option (Nat × Nat)) (nm : Str) (ix : Int) (sc : Sc) : Prop where
  inn : ScIn w sc
  no : F = none → nm = [] ∧ ix = 0 ∧ sc = Sc.zero
  yes : ∀ i k, F = some (i, k) → ∃ c m, cls[i]? = some c ∧ c.meths[k]? = some m ∧ nm = c.name ∧ ix = ((c.sups.length + k : Nat) : Int) ∧ CloseIs [] m.ty [⟨c.name, Ty.zero⟩] sc

def zeroSc : Array Value := #[.int .i64 0, .slice none 0 0, .string ⟨#[]⟩, .int .i64 0, .slice none 0 0]
theorem zsc {a y : World} {B : Nat} (e : Ext a y) (h : a.heap[B]? = some (.cells zeroSc 39 (0, 0))) :
    y.cell? ⟨B, 0, none⟩ = some (.int .i64 0) ∧ y.cell? ⟨B, 1, none⟩ = some (.slice none 0 0) ∧ y.cell? ⟨B, 2, none⟩ = some (.string ⟨#[]⟩) ∧ y.cell? ⟨B, 3, none⟩ = some (.int .i64 0) ∧ y.cell? ⟨B, 4, none⟩ = some (.slice none 0 0) ∧ y.frozen? ⟨B, 0, none⟩ = false ∧ y.frozen? ⟨B, 1, none⟩ = false ∧ y.frozen? ⟨B, 2, none⟩ = false ∧ y.frozen? ⟨B, 3, none⟩ = false ∧ y.frozen? ⟨B, 4, none⟩ = false ∧ B < y.heap.size := by
  have hb := (e.heap (lt_of_obj h)).trans h
  exact ⟨bytes_block hb 0, bytes_block hb 1, bytes_block hb 2, bytes_block hb 3, bytes_block hb 4, free_block hb 0, free_block hb 1, free_block hb 2, free_block hb 3, free_block hb 4, lt_of_obj hb⟩
theorem grown5 (y : World) (B : Nat) (v0 v1 v2 v3 v4 : Value) : y.grownBy (((((y.setCell ⟨B, 0, none⟩ v0).setCell ⟨B, 1, none⟩ v1).setCell ⟨B, 2, none⟩ v2).setCell ⟨B, 3, none⟩ v3).setCell ⟨B, 4, none⟩ v4) (some B) := grown2 (grown2 (grown_cell _ _ _ _) (grown_cell _ _ _ _)) (put3_grown _ _ _ _ _ _ _ _)
theorem keep5 {y V : World} {B b6 bm o : Nat} {x0 x1 x2 x3 x4 x5 : Value} (g : y.grownBy V (some B)) (h : (y.cell? ⟨b6, 0, none⟩ = some x0 ∧ y.cell? ⟨b6, 1, none⟩ = some x1 ∧ y.cell? ⟨b6, 2, none⟩ = some x2) ∧ y.cell? ⟨bm, o + 2, none⟩ = some x3 ∧ y.cell? ⟨bm, o + 3, none⟩ = some x4 ∧ y.cell? ⟨bm, o + 4, none⟩ = some x5) (h1 : ¬ b6 = B) (h2 : ¬ bm = B) (h3 : b6 < y.heap.size) (h4 : bm < y.heap.size) :
    (V.cell? ⟨b6, 0, none⟩ = some x0 ∧ V.cell? ⟨b6, 1, none⟩ = some x1 ∧ V.cell? ⟨b6, 2, none⟩ = some x2) ∧ V.cell? ⟨bm, o + 2, none⟩ = some x3 ∧ V.cell? ⟨bm, o + 3, none⟩ = some x4 ∧ V.cell? ⟨bm, o + 4, none⟩ = some x5 := by
  have e1 := g.block b6 h3 (fun e => by injection e with e; exact h1 e)
  have e2 := g.block bm h4 (fun e => by injection e with e; exact h2 e)
  obtain ⟨⟨a0, a1, a2⟩, a3, a4, a5⟩ := h
  exact ⟨⟨(World.cell?_of_block e1).trans a0, (World.cell?_of_block e1).trans a1, (World.cell?_of_block e1).trans a2⟩, (World.cell?_of_block e2).trans a3, (World.cell?_of_block e2).trans a4, (World.cell?_of_block e2).trans a5⟩
theorem sc_ret {w W : World} {B : Nat} {sc : Sc} (x : Ext w W) (hB : w.heap.size ≤ B) (h : ScIn W sc) (h1 : awayB B sc.ty = true) (h2 : ∀ d ∈ sc.preds, awayB B d.ty = true) (h3 : sc.preds ≠ [] → ∀ a, sc.A = some a → a.block ≠ B) :
    ScIn (((((W.setCell ⟨B, 0, none⟩ (.int .i64 sc.n)).setCell ⟨B, 1, none⟩ (.slice sc.A sc.preds.length sc.cap)).setCell ⟨B, 2, none⟩ (encStr sc.ty.con)).setCell ⟨B, 3, none⟩ (.int .i64 sc.ty.var)).setCell ⟨B, 4, none⟩ (.slice sc.ty.A sc.ty.args.length sc.ty.cap)) sc ∧
    Ext w (((((W.setCell ⟨B, 0, none⟩ (.int .i64 sc.n)).setCell ⟨B, 1, none⟩ (.slice sc.A sc.preds.length sc.cap)).setCell ⟨B, 2, none⟩ (encStr sc.ty.con)).setCell ⟨B, 3, none⟩ (.int .i64 sc.ty.var)).setCell ⟨B, 4, none⟩ (.slice sc.ty.A sc.ty.args.length sc.ty.cap)) := by
  have g : W.grownBy (((((W.setCell ⟨B, 0, none⟩ (.int .i64 sc.n)).setCell ⟨B, 1, none⟩ (.slice sc.A sc.preds.length sc.cap)).setCell ⟨B, 2, none⟩ (encStr sc.ty.con)).setCell ⟨B, 3, none⟩ (.int .i64 sc.ty.var)).setCell ⟨B, 4, none⟩ (.slice sc.ty.A sc.ty.args.length sc.ty.cap)) (some B) := grown2 (grown2 (grown_cell _ _ _ _) (grown_cell _ _ _ _)) (put3_grown _ _ _ _ _ _ _ _)
  exact ⟨h.grown g h1 h2 h3, x.grown g (fun b e => by injection e with e; omega)⟩

set_option maxRecDepth 10000 in
set_option maxHeartbeats 8000000 in
theorem f_method (x : EnD) (name : Str) (w : World) (h : EnIn w x) (hf : ∀ c ∈ x.classes, KlFew c) :
    Calls Tryz.prog 9 #[enV x, encStr name] w fun e w' => (∃ nm ix sc, e = .returned (.tuple #[encStr nm, .int .i64 ix, scV sc, .bool (methF name 0 x.classes).isSome]) ∧ MethOk w' x.classes (methF name 0 x.classes) nm ix sc) ∧ Ext w w' := by
  obtain ⟨D, dc, datas, C, cc, cls, I, ic, insts⟩ := x
  obtain ⟨W, hW⟩ : ∃ W, W = (w.alloc (.cells #[.slice D datas.length dc, .slice C cls.length cc, .slice I insts.length ic] 26)).alloc (.cells #[.int .i64 0, .slice none 0 0, .string ⟨#[]⟩, .int .i64 0, .slice none 0 0] 39) := ⟨_, rfl⟩
  have HW := hide hW.symm
  have X0 : Hid (Ext w W) := hide (by rw [hW]; exact ((Ext.refl _).alloc _).alloc _)
  have B1 : Hid (EnBox W w.heap.size ⟨D, dc, datas, C, cc, cls, I, ic, insts⟩) := hide (by rw [hW]; exact (EnBox.new w _).ext ((Ext.refl _).alloc _))
  have B2 : Hid (W.heap[w.heap.size + 1]? = some (.cells zeroSc 39 (0, 0))) := hide (by rw [hW]; exact at_newB _ _ _ (by simp))
  have HM := hide (t_method C cc cls name W (h.classes.ext X0.out) h.cle h.cmax)
  have HK := hide (show KlsIn w C cls from h.classes)
  have hcle : cls.length ≤ cc := h.cle
  have hcmx : cc ≤ 9223372036854775807 := h.cmax
  have Hf : Hid (∀ c ∈ cls, KlFew c) := hide hf
  have HS := hide (fun i k (e : methF name 0 cls = some (i, k)) => methF_some e)
  have hbl := B1.out.lt
  have HE := hide (fun w' (e : Ext W w') => (B1.out.ext e).cells.2.1)
  have e0 := HE.out W (Ext.refl _)
  clear hW h hf
  simp only [] at *
  generalize methF name 0 cls = F at *
  unfold enV scV at *
  go_enter Tryz.func9, Tryz.ntmps9
  go_upto_region 1 with fail
  rw [HW.out]
  clear HW
  go_wp2_with fail
  refine HM.out.mono ?_
  rintro e w2 ⟨rfl, hx⟩
  have X2 := hide hx
  clear hx HM
  cases F with
  | none =>
    obtain ⟨z0, z1, z2, z3, z4, z5, z6, z7, z8, z9, z10⟩ := zsc X2.out B2.out
    simp only [fstN, sndN, Option.map_none, Option.getD_none, Option.isSome_none]
    go_wp2
    refine bodyPost_ret (v := .tuple #[.string ⟨#[]⟩, .int .i64 0, .agg #[.int .i64 0, .slice none 0 0, .string ⟨#[]⟩, .int .i64 0, .slice none 0 0], .bool false]) ?_ rfl ⟨⟨[], 0, Sc.zero, rfl, ⟨⟨Nat.le_refl _, Nat.zero_le _, ⟨RowOf.nil _ _ _, by simp [Sc.zero]⟩, TyIn.zero _⟩, fun _ => ⟨rfl, rfl, rfl⟩, fun _ _ h => by cases h⟩⟩, ?_⟩
    · simp [results, Tryz.f9, go_sem, z0, z1, z2, z3, z4]
    · exact (((((X0.out.trans X2.out).setCell (by simp) _).setCell (by simp) _).setCell (by simp) _).setCell (by simp) _).setCell (by simp) _
  | some ik =>
    obtain ⟨i, k⟩ := ik
    obtain ⟨-, hi, hk, -⟩ := HS.out i k rfl
    simp only [Nat.sub_zero] at hi hk
    simp only [fstN, sndN, Option.map_some, Option.getD_some, Option.isSome_some]
    have X02 := hide (X0.out.trans X2.out)
    obtain ⟨b, o, e1, hb, q0, q1, q2⟩ := (HK.out.ext X02.out).at_ hi
    subst e1
    have Hci : Hid (cls[i]? = some (cls[i]'hi)) := hide (List.getElem?_eq_getElem hi)
    have HKl := hide (HK.out.all _ (List.getElem_mem hi))
    obtain ⟨hf1, hf2, hf3⟩ := Hf.out _ (List.getElem_mem hi)
    clear HS Hf HK
    generalize cls[i]'hi = c at *
    have e2 := HE.out w2 X2.out
    have hbl2 : w.heap.size < w2.heap.size := by have := X2.out.size; omega
    have hi0 : (0 : Int) ≤ (i : Int) := by omega
    have hi1 : (i : Int) < (cls.length : Int) := by omega
    have hk0 : (0 : Int) ≤ (k : Int) := by omega
    have hk1 : (k : Int) < (c.meths.length : Int) := by omega
    go_upto_region 5 with fail
    obtain ⟨W4, hW4⟩ : ∃ W4, W4 = w2.alloc (.cells #[encStr c.name, .slice c.S c.sups.length c.sc, .slice c.A c.meths.length c.cap] 64) := ⟨_, rfl⟩
    have X24 : Hid (Ext w2 W4) := hide (by rw [hW4]; exact (Ext.refl _).alloc _)
    have HB4 : Hid (KlBox W4 w2.heap.size c) := hide (by rw [hW4]; exact at_newB _ _ _ rfl)
    rw [← hW4]
    clear hW4 q0 q1 q2 e0 e2
    have X4 := hide (X02.out.trans X24.out)
    have B4 := hide (((X2.out.trans X24.out).heap (lt_of_obj B2.out)).trans B2.out)
    have hlo4 : w.heap.size + 1 < W4.heap.size := lt_of_obj B4.out
    have hb6 := HB4.out.lt
    have hb6lo : w.heap.size + 1 < w2.heap.size := Nat.lt_of_lt_of_le (lt_of_obj B2.out) X2.out.size
    obtain ⟨bm, om, em, hbm, p0, p1, p2, p3, p4⟩ := HKl.out.row.at_ hk
    have p2 := X4.out.cell p2
    have p3 := X4.out.cell p3
    have p4 := X4.out.cell p4
    have Hmi : Hid (c.meths[k]? = some (c.meths[k]'hk)) := hide (List.getElem?_eq_getElem hk)
    have hmf := hf3 _ (List.getElem_mem hk)
    have HMt := hide (HKl.out.row.all _ (List.getElem_mem hk)).row
    have hle := HKl.out.le
    have hmx := HKl.out.max
    have hsle := HKl.out.sle
    have hsmx := HKl.out.smax
    have htxt := HKl.out.txt
    generalize c.meths[k]'hk = m at *
    have HSS := hide (fun w' (e : Ext W4 w') => And.intro (show w'.cell? ⟨w2.heap.size, 0, none⟩ = some (encStr c.name) ∧ w'.cell? ⟨w2.heap.size, 1, none⟩ = some (.slice c.S c.sups.length c.sc) ∧ w'.cell? ⟨w2.heap.size, 2, none⟩ = some (.slice (some ⟨bm, om, none⟩) c.meths.length c.cap) from by rw [← em]; exact (HB4.out.ext e).cells) (And.intro (e.cell p2) (And.intro (e.cell p3) (e.cell p4))))
    generalize w2.heap.size = b6 at *
    have HCl := hide (fun w' g (e : Ext W4 w') (hg : w'.heap[g]? = some (.cells #[encStr c.name, .string ⟨#[]⟩, .int .i64 0, .slice none 0 0] 69 (0, 0))) => hide (sc_close m.ty (some ⟨g, 0, none⟩) 1 [⟨c.name, Ty.zero⟩] none 0 [] w' (HMt.out.ext (X4.out.trans e)) ⟨RowOf.block pdC [⟨c.name, Ty.zero⟩] hg, by simp only [List.mem_cons, List.not_mem_nil, or_false]; rintro p rfl; exact ⟨htxt, TyIn.zero _⟩⟩ (RowOf.nil _ _ _) (by simp) (by simp) (by simp) (by rw [psz_one]; omega)))
    have hS0 := HSS.out W4 (Ext.refl _)
    obtain ⟨⟨s0, s1, s2⟩, s3, s4, s5⟩ := hS0
    clear HKl p0 p1 p2 p3 p4
    clear em
    have hw : IntKind.i64.wrap ((c.sups.length : Int) + (k : Int)) = (c.sups.length : Int) + (k : Int) := by rw [IntKind.wrap_i64]; omega
    have hbm4 : bm < W4.heap.size := by omega
    have r3 : ¬ bm = w.heap.size + 1 := by omega
    have r4 : ¬ w.heap.size + 1 = bm := by omega
    have r1 : ¬ b6 = w.heap.size + 1 := by omega
    have r2 : ¬ w.heap.size + 1 = b6 := by omega
    unfold tyV scV at HCl
    have HS6 := hide (fun w' (e : Ext W4 w') => by
      obtain ⟨⟨g0, g1, g2⟩, g3, g4, g5⟩ := HSS.out w' e
      exact And.intro g0 (And.intro g1 (And.intro g2 (And.intro g3 (And.intro g4 g5)))))
    have hS6 := HS6.out W4.drew (Ext.refl _).drew
    go_wp2
    refine but_startN 21 22 #[false, false, false, false, false, false, false, false, false, false, false, false, false, false, false, false, false, false, false, false, false, false] (fun w' => w'.cell? ⟨b6, 0, none⟩ = some (encStr c.name) ∧ w'.cell? ⟨b6, 1, none⟩ = some (.slice c.S c.sups.length c.sc) ∧ w'.cell? ⟨b6, 2, none⟩ = some (.slice (some ⟨bm, om, none⟩) c.meths.length c.cap) ∧ w'.cell? ⟨bm, om + k * 5 + 2, none⟩ = some (.string ⟨m.ty.con.toArray⟩) ∧ w'.cell? ⟨bm, om + k * 5 + 3, none⟩ = some (.int .i64 m.ty.var) ∧ w'.cell? ⟨bm, om + k * 5 + 4, none⟩ = some (.slice m.ty.A m.ty.args.length m.ty.cap)) (by kernel_rfl) (by kernel_rfl) (by kernel_rfl) ?_
    (refine but_takeL (i := 0) (v := ?_) rfl (by kernel_rfl) (by kernel_rfl) (by kernel_rfl) (by kernel_rfl) (fun _ _ _ h => h) (Or.inl ⟨by kernel_rfl, ?_⟩) (by assumption) ?_; rotate_left 1; (focus (intro w hSw; (try dsimp only at hSw); (try obtain ⟨g1, g2, g3⟩ := hSw); (try obtain ⟨g1, g2⟩ := hSw); go_simp; try with_reducible rfl)); simp only [Act.put, List.setIfInBounds_toArray, List.set_cons_zero, List.set_cons_succ])
    (refine but_takeL (i := 1) (v := ?_) rfl (by kernel_rfl) (by kernel_rfl) (by kernel_rfl) (by kernel_rfl) (fun _ _ _ h => h) (Or.inl ⟨by kernel_rfl, ?_⟩) (by assumption) ?_; rotate_left 1; (focus (intro w hSw; (try dsimp only at hSw); (try obtain ⟨g1, g2, g3⟩ := hSw); (try obtain ⟨g1, g2⟩ := hSw); go_simp; try with_reducible rfl)); simp only [Act.put, List.setIfInBounds_toArray, List.set_cons_zero, List.set_cons_succ])
    (refine but_takeL (i := 2) (v := ?_) rfl (by kernel_rfl) (by kernel_rfl) (by kernel_rfl) (by kernel_rfl) (fun _ _ _ h => h) (Or.inl ⟨by kernel_rfl, ?_⟩) (by assumption) ?_; rotate_left 1; (focus (intro w hSw; (try dsimp only at hSw); (try obtain ⟨g1, g2, g3⟩ := hSw); (try obtain ⟨g1, g2⟩ := hSw); go_simp; try with_reducible rfl)); simp only [Act.put, List.setIfInBounds_toArray, List.set_cons_zero, List.set_cons_succ])
    (refine but_takeL (i := 3) (v := ?_) rfl (by kernel_rfl) (by kernel_rfl) (by kernel_rfl) (by kernel_rfl) (fun _ _ _ h => h) (Or.inl ⟨by kernel_rfl, ?_⟩) (by assumption) ?_; rotate_left 1; (focus (intro w hSw; (try dsimp only at hSw); (try obtain ⟨g1, g2, g3⟩ := hSw); (try obtain ⟨g1, g2⟩ := hSw); go_simp; try with_reducible rfl)); simp only [Act.put, List.setIfInBounds_toArray, List.set_cons_zero, List.set_cons_succ])
    (refine but_takeL (i := 4) (v := ?_) rfl (by kernel_rfl) (by kernel_rfl) (by kernel_rfl) (by kernel_rfl) (fun _ _ _ h => h) (Or.inl ⟨by kernel_rfl, ?_⟩) (by assumption) ?_; rotate_left 1; (focus (intro w hSw; (try dsimp only at hSw); (try obtain ⟨g1, g2, g3⟩ := hSw); (try obtain ⟨g1, g2⟩ := hSw); go_simp; try with_reducible rfl)); simp only [Act.put, List.setIfInBounds_toArray, List.set_cons_zero, List.set_cons_succ])
    (refine but_takeL (i := 5) (v := ?_) rfl (by kernel_rfl) (by kernel_rfl) (by kernel_rfl) (by kernel_rfl) (fun _ _ _ h => h) (Or.inl ⟨by kernel_rfl, ?_⟩) (by assumption) ?_; rotate_left 1; (focus (intro w hSw; (try dsimp only at hSw); (try obtain ⟨g1, g2, g3⟩ := hSw); (try obtain ⟨g1, g2⟩ := hSw); go_simp; try with_reducible rfl)); simp only [Act.put, List.setIfInBounds_toArray, List.set_cons_zero, List.set_cons_succ])
    (refine but_takeL (i := 6) (v := ?_) rfl (by kernel_rfl) (by kernel_rfl) (by kernel_rfl) (by kernel_rfl) (fun _ _ _ h => h) (Or.inl ⟨by kernel_rfl, ?_⟩) (by assumption) ?_; rotate_left 1; (focus (intro w hSw; (try dsimp only at hSw); (try obtain ⟨g1, g2, g3⟩ := hSw); (try obtain ⟨g1, g2⟩ := hSw); go_simp; try with_reducible rfl)); simp only [Act.put, List.setIfInBounds_toArray, List.set_cons_zero, List.set_cons_succ])
    (refine but_takeL (i := 7) (v := ?_) rfl (by kernel_rfl) (by kernel_rfl) (by kernel_rfl) (by kernel_rfl) (fun _ _ _ h => h) (Or.inl ⟨by kernel_rfl, ?_⟩) (by assumption) ?_; rotate_left 1; (focus (intro w hSw; (try dsimp only at hSw); (try obtain ⟨g1, g2, g3⟩ := hSw); (try obtain ⟨g1, g2⟩ := hSw); go_simp; try with_reducible rfl)); simp only [Act.put, List.setIfInBounds_toArray, List.set_cons_zero, List.set_cons_succ])
    (refine but_takeL (i := 8) (v := ?_) rfl (by kernel_rfl) (by kernel_rfl) (by kernel_rfl) (by kernel_rfl) (fun _ _ _ h => h) (Or.inl ⟨by kernel_rfl, ?_⟩) (by assumption) ?_; rotate_left 1; (focus (intro w hSw; (try dsimp only at hSw); (try obtain ⟨g1, g2, g3⟩ := hSw); (try obtain ⟨g1, g2⟩ := hSw); go_simp; try with_reducible rfl)); simp only [Act.put, List.setIfInBounds_toArray, List.set_cons_zero, List.set_cons_succ])
    (refine but_takeL (i := 9) (v := ?_) rfl (by kernel_rfl) (by kernel_rfl) (by kernel_rfl) (by kernel_rfl) (fun _ _ _ h => h) (Or.inl ⟨by kernel_rfl, ?_⟩) (by assumption) ?_; rotate_left 1; (focus (intro w hSw; (try dsimp only at hSw); (try obtain ⟨g1, g2, g3⟩ := hSw); (try obtain ⟨g1, g2⟩ := hSw); go_simp; try with_reducible rfl)); simp only [Act.put, List.setIfInBounds_toArray, List.set_cons_zero, List.set_cons_succ])
    (refine but_takeL (i := 10) (v := ?_) rfl (by kernel_rfl) (by kernel_rfl) (by kernel_rfl) (by kernel_rfl) (fun _ _ _ h => h) (Or.inl ⟨by kernel_rfl, ?_⟩) (by assumption) ?_; rotate_left 1; (focus (intro w hSw; (try dsimp only at hSw); (try obtain ⟨g1, g2, g3⟩ := hSw); (try obtain ⟨g1, g2⟩ := hSw); go_simp; try with_reducible rfl)); simp only [Act.put, List.setIfInBounds_toArray, List.set_cons_zero, List.set_cons_succ])
    (refine but_takeL (i := 11) (v := ?_) rfl (by kernel_rfl) (by kernel_rfl) (by kernel_rfl) (by kernel_rfl) (fun _ _ _ h => h) (Or.inl ⟨by kernel_rfl, ?_⟩) (by assumption) ?_; rotate_left 1; (focus (intro w hSw; (try dsimp only at hSw); (try obtain ⟨g1, g2, g3⟩ := hSw); (try obtain ⟨g1, g2⟩ := hSw); go_simp; try with_reducible rfl)); simp only [Act.put, List.setIfInBounds_toArray, List.set_cons_zero, List.set_cons_succ])
    (refine but_takeL (i := 12) (v := ?_) rfl (by kernel_rfl) (by kernel_rfl) (by kernel_rfl) (by kernel_rfl) (fun _ _ _ h => h) (Or.inl ⟨by kernel_rfl, ?_⟩) (by assumption) ?_; rotate_left 1; (focus (intro w hSw; (try dsimp only at hSw); (try obtain ⟨g1, g2, g3⟩ := hSw); (try obtain ⟨g1, g2⟩ := hSw); go_simp; try with_reducible rfl)); simp only [Act.put, List.setIfInBounds_toArray, List.set_cons_zero, List.set_cons_succ])
    (refine but_takeL (i := 13) (v := ?_) rfl (by kernel_rfl) (by kernel_rfl) (by kernel_rfl) (by kernel_rfl) (fun _ _ _ h => h) (Or.inl ⟨by kernel_rfl, ?_⟩) (by assumption) ?_; rotate_left 1; (focus (intro w hSw; (try dsimp only at hSw); (try obtain ⟨g1, g2, g3⟩ := hSw); (try obtain ⟨g1, g2⟩ := hSw); go_simp; try with_reducible rfl)); simp only [Act.put, List.setIfInBounds_toArray, List.set_cons_zero, List.set_cons_succ])
    (refine but_takeL (i := 14) (v := ?_) rfl (by kernel_rfl) (by kernel_rfl) (by kernel_rfl) (by kernel_rfl) (fun _ _ _ h => h) (Or.inl ⟨by kernel_rfl, ?_⟩) (by assumption) ?_; rotate_left 1; (focus (intro w hSw; (try dsimp only at hSw); (try obtain ⟨g1, g2, g3⟩ := hSw); (try obtain ⟨g1, g2⟩ := hSw); go_simp; try with_reducible rfl)); simp only [Act.put, List.setIfInBounds_toArray, List.set_cons_zero, List.set_cons_succ])
    (refine but_takeL (i := 15) (v := ?_) rfl (by kernel_rfl) (by kernel_rfl) (by kernel_rfl) (by kernel_rfl) (fun _ _ _ h => h) (Or.inl ⟨by kernel_rfl, ?_⟩) (by assumption) ?_; rotate_left 1; (focus (intro w hSw; (try dsimp only at hSw); (try obtain ⟨g1, g2, g3⟩ := hSw); (try obtain ⟨g1, g2⟩ := hSw); go_simp; try with_reducible rfl)); simp only [Act.put, List.setIfInBounds_toArray, List.set_cons_zero, List.set_cons_succ])
    refine but_step (i := 16) (by kernel_rfl) rfl (fun KK hK => ?_)
    go_simp
    have hS7 := HS6.out _ (((Ext.refl W4).drew).alloc (.cells #[encStr c.name, .string ⟨#[]⟩, .int .i64 0, .slice none 0 0] 69))
    refine hK.out _ _ (fun _ => hS7) ?_
    clear hK KK hS6
    simp only [List.setIfInBounds_toArray, List.set_cons_zero, List.set_cons_succ]
    refine but_step (i := 17) (by kernel_rfl) rfl (fun KK hK => ?_)
    go_simp
    refine Calls.mono (HCl.out _ _ (by repeat (first | exact Ext.refl _ | exact Ext.pre (by simp) | exact Ext.alloc (by assumption) _ | refine Ext.alloc ?_ _ |  refine Ext.more ?_ _ _ | refine Ext.drew ?_ | refine Ext.drewN ?_ _)) (at_newB W4.drew _ _ rfl)).out ?_
    rintro e y ⟨⟨sc, rfl, hsc, hcl, hso⟩, xy⟩
    have e1 : Ext W4 y := by (refine Ext.trans ?_ xy; exact (by repeat (first | exact Ext.refl _ | exact Ext.pre (by simp) | exact Ext.alloc (by assumption) _ | refine Ext.alloc ?_ _ |  refine Ext.more ?_ _ _ | refine Ext.drew ?_ | refine Ext.drewN ?_ _)))
    have hS8 := HS6.out y e1
    refine hK.out _ _ (fun _ => hS8) ?_
    clear hK KK hS7
    simp only [List.setIfInBounds_toArray, List.set_cons_zero, List.set_cons_succ]
    obtain ⟨z0, z1, z2, z3, z4, z5, z6, z7, z8, z9, z10⟩ := zsc e1 B4.out
    have hey := e1.size
    have HR := hide (sc_ret (w := w) (X4.out.trans e1) (B := w.heap.size + 1) (by omega) hsc (hso.ty _ (by simp; omega) (away_new HMt.out (by omega))) (fun d hd => hso.ps d hd _ (by simp; omega) (by simp only [List.mem_cons, List.not_mem_nil, or_false]; rintro p rfl; exact away_zero _)) (fun hne a ha e => by have := hso.row hne a ha; simp at this; omega))
    have HCls := hide hcl
    clear hsc hso hcl xy
    obtain ⟨WF, hWF⟩ : ∃ WF, WF = (((((y.setCell ⟨w.heap.size + 1, 0, none⟩ (.int .i64 sc.n)).setCell ⟨w.heap.size + 1, 1, none⟩ (.slice sc.A sc.preds.length sc.cap)).setCell ⟨w.heap.size + 1, 2, none⟩ (encStr sc.ty.con)).setCell ⟨w.heap.size + 1, 3, none⟩ (.int .i64 sc.ty.var)).setCell ⟨w.heap.size + 1, 4, none⟩ (.slice sc.ty.A sc.ty.args.length sc.ty.cap)) := ⟨_, rfl⟩
    have hb8 : WF.heap[w.heap.size + 1]? = some (.cells #[.int .i64 sc.n, .slice sc.A sc.preds.length sc.cap, encStr sc.ty.con, .int .i64 sc.ty.var, .slice sc.ty.A sc.ty.args.length sc.ty.cap] 39 (0, 0)) := by
      have := blk_setCell (blk_setCell (blk_setCell (blk_setCell (blk_setCell ((e1.heap (lt_of_obj B4.out)).trans B4.out) 0 (.int .i64 sc.n)) 1 (.slice sc.A sc.preds.length sc.cap)) 2 (encStr sc.ty.con)) 3 (.int .i64 sc.ty.var)) 4 (.slice sc.ty.A sc.ty.args.length sc.ty.cap)
      rw [hWF]
      simpa [zeroSc] using this
    rw [← hWF] at HR
    have m0 := bytes_block hb8 0
    have m1 := bytes_block hb8 1
    have m2 := bytes_block hb8 2
    have m3 := bytes_block hb8 3
    have m4 := bytes_block hb8 4
    simp only [List.getElem?_toArray, List.getElem?_cons_zero, List.getElem?_cons_succ] at m0 m1 m2 m3 m4
    (refine but_takeL (i := 18) (v := ?_) rfl (by kernel_rfl) (by kernel_rfl) (by kernel_rfl) (by kernel_rfl) (fun _ _ _ h => h) (Or.inl ⟨by kernel_rfl, ?_⟩) (by assumption) ?_; rotate_left 1; (focus (intro w hSw; (try dsimp only at hSw); (try obtain ⟨g1, g2, g3⟩ := hSw); (try obtain ⟨g1, g2⟩ := hSw); go_simp; try with_reducible rfl)); simp only [Act.put, List.setIfInBounds_toArray, List.set_cons_zero, List.set_cons_succ])
    (refine but_takeL (i := 19) (v := ?_) rfl (by kernel_rfl) (by kernel_rfl) (by kernel_rfl) (by kernel_rfl) (fun _ _ _ h => h) (Or.inl ⟨by kernel_rfl, ?_⟩) (by assumption) ?_; rotate_left 1; (focus (intro w hSw; (try dsimp only at hSw); (try obtain ⟨g1, g2, g3⟩ := hSw); (try obtain ⟨g1, g2⟩ := hSw); go_simp; try with_reducible rfl)); simp only [Act.put, List.setIfInBounds_toArray, List.set_cons_zero, List.set_cons_succ])
    refine but_step (i := 20) (by kernel_rfl) rfl (fun KK hK => ?_)
    go_simp
    rw [← hWF]
    have hg5 := grown5 y (w.heap.size + 1) (.int .i64 sc.n) (.slice sc.A sc.preds.length sc.cap) (encStr sc.ty.con) (.int .i64 sc.ty.var) (.slice sc.ty.A sc.ty.args.length sc.ty.cap)
    rw [← hWF] at hg5
    clear hWF
    have g1 := hg5.block b6 (by omega) (fun e => by injection e with e; exact r1 e)
    have g2 := hg5.block bm (by omega) (fun e => by injection e with e; exact r3 e)
    have hS9 := And.intro ((World.cell?_of_block g1).trans hS8.1) (And.intro ((World.cell?_of_block g1).trans hS8.2.1) (And.intro ((World.cell?_of_block g1).trans hS8.2.2.1) (And.intro ((World.cell?_of_block g2).trans hS8.2.2.2.1) (And.intro ((World.cell?_of_block g2).trans hS8.2.2.2.2.1) ((World.cell?_of_block g2).trans hS8.2.2.2.2.2)))))
    refine hK.out _ _ (fun _ => hS9) ?_
    clear hK KK
    try simp only [Act.put]
    refine but_step (i := 21) (by kernel_rfl) rfl (fun KK hK => ?_)
    go_simp
    refine hK.out _ _ (fun h => absurd rfl h) ?_
    clear hK KK
    try simp only [Act.put]
    refine but_done (by kernel_rfl) ?_ _
    go_wp2
    refine bodyPost_ret (v := .tuple #[encStr c.name, .int .i64 ((c.sups.length : Int) + (k : Int)), .agg #[.int .i64 sc.n, .slice sc.A sc.preds.length sc.cap, encStr sc.ty.con, .int .i64 sc.ty.var, .slice sc.ty.A sc.ty.args.length sc.ty.cap], .bool true]) ?_ rfl ⟨⟨c.name, (c.sups.length : Int) + (k : Int), sc, rfl, ⟨HR.out.1, (fun h => by cases h), fun i' k' h => by injection h with h; injection h with h1 h2; subst h1 h2; exact ⟨c, m, Hci.out, Hmi.out, rfl, by omega, HCls.out⟩⟩⟩, HR.out.2⟩
    simp [results, Tryz.f9, go_sem, m0, m1, m2, m3, m4]

end Go.Proofs.YtnomibjbjplieaaGreat
