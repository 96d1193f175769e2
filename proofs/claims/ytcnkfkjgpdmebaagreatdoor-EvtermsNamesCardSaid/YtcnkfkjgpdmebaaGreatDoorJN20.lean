/- Contract: slices.Insert of one pair into a row of pairs. -/
import Derived.Test.YtcnkfkjgpdmebaaGreatDoorJN19
import Derived.Test.YtcnkfkjgpdmebaaGreatDoorProg
import Derived.WalkLawsBesides
import Derived.Lib.AppendZerosOnto
import Derived.Lib.Overlaps
import Derived.Laws.Externs
import Derived.Laws.NewBlocks
import Derived.Deep.RegionLaw
import Derived.RegionTactic
import Derived.ChangeAlike
import Derived.BigRegion
import Derived.Laws.CopyRow
/- Contract: slices.Insert of one pair into a row of pairs. -/
namespace Go.Proofs.YtcnkfkjgpdmebaaGreatDoor
open Go.RowKit

theorem pair_info : (Tryz.prog.info? 196).map (fun i => (i.zero, i.size, i.bytes)) = some (some (.agg #[.int .i64 0, .string ⟨#[]⟩, .int .i64 0, .slice none 0 0]), 4, 56) := by kernel_rfl
theorem pair_size : (Tryz.prog.info? 196).map (·.size) = some 4 := by kernel_rfl
theorem one_prs (l : List Pr) : ∀ u ∈ l.flatMap prC.f, u.oneCell' = true := by
  intro u hu
  obtain ⟨p, -, hp⟩ := List.mem_flatMap.1 hu
  have hp' : u ∈ [.int .i64 p.v, encStr p.ty.con, .int .i64 p.ty.var, .slice p.ty.A p.ty.args.length p.ty.cap] := hp
  simp at hp'
  rcases hp' with rfl | rfl | rfl | rfl <;> rfl
theorem prs_len (l : List Pr) : (l.flatMap prC.f).length = l.length * 4 := flat_len _ _ prC.hf l
theorem prs_take (l : List Pr) (i : Nat) : (l.flatMap prC.f).take (i * 4) = (l.take i).flatMap prC.f := by
  by_cases hi : i ≤ l.length
  · have e : l.flatMap prC.f = (l.take i).flatMap prC.f ++ (l.drop i).flatMap prC.f := by rw [← List.flatMap_append, List.take_append_drop]
    have hl : ((l.take i).flatMap prC.f).length = i * 4 := by rw [prs_len, List.length_take, Nat.min_eq_left hi]
    rw [e, List.take_append_of_le_length (by omega), List.take_of_length_le (by omega)]
  · rw [List.take_of_length_le (by rw [prs_len]; omega), List.take_of_length_le (by omega)]
theorem prs_drop (l : List Pr) (i : Nat) : (l.flatMap prC.f).drop (i * 4) = (l.drop i).flatMap prC.f := flat_drop _ _ prC.hf l i
theorem insP_cells (s : List Pr) (i : Nat) (x : Pr) : (s.take i ++ x :: s.drop i).flatMap prC.f = (s.flatMap prC.f).take (i * 4) ++ (prC.f x ++ (s.flatMap prC.f).drop (i * 4)) := by
  rw [prs_take, prs_drop, List.flatMap_append, List.flatMap_cons]
theorem pr_block {w : World} {vb : Nat} {x : Pr} (h : w.heap[vb]? = some (.cells (prC.f x).toArray 196 (0, 0))) : Row w (some ⟨vb, 0, none⟩) 4 1 (prC.f x) := by
  have h1 : w.heap[vb]? = some (.cells ([x].flatMap prC.f).toArray 196 (0, 0)) := by simpa using h
  have := RowOf.block prC [x] h1
  unfold RowOf at this
  exact (by simpa using this : Row w (some ⟨vb, 0, none⟩) prC.k 1 (prC.f x))
theorem pr_src {w : World} {vb : Nat} {x : Pr} (h : w.heap[vb]? = some (.cells (prC.f x).toArray 196 (0, 0))) : ∀ j v, (prC.f x)[j]? = some v → w.cell? ((⟨vb, 0, none⟩ : Addr).add j) = some v := by
  intro j v hj
  have e : (⟨vb, 0, none⟩ : Addr).add j = ⟨vb, j, none⟩ := by unfold Addr.add; split <;> simp_all
  rw [e]
  simp only [World.cell?, h]
  simpa using hj

set_option maxRecDepth 10000 in
set_option maxHeartbeats 4000000 in
/-- At the end. -/
theorem s_ins_end (B : Nat) (v : Value) (s : List Pr) (vb : Nat) (x : Pr) (w : World) (hO : w.ownsRow B 196 4 v s.length (s.flatMap prC.f)) (hx : w.heap[vb]? = some (.cells (prC.f x).toArray 196 (0, 0))) (hB : B ≤ w.heap.size) (hl : s.length ≤ 100000) :
    Calls Tryz.prog 180 #[v, .int .i64 s.length, .slice (some ⟨vb, 0, none⟩) 1 1] w fun e w' => ∃ v', e = .returned v' ∧ w'.ownsRow B 196 4 v' (s.length + 1) (s.flatMap prC.f ++ prC.f x) ∧ Ap w v w' v' := by
  obtain ⟨i0, hi, hz0, hz1, hz2⟩ := info_parts pair_info
  have HR := hide (pr_block hx)
  have H1 : Hid (∀ u ∈ prC.f x, u.oneCell' = true) := hide (by have := one_prs [x]; simpa using this)
  have HO := hide hO
  clear hx
  generalize hcs : s.flatMap prC.f = cs at *
  have hd1 : (((s.length : Nat) : Int) == ((s.length : Nat) : Int)) = true := by simp
  have hd2 : ((1 : Int) == 0) = false := by decide
  rcases hO.2 with ⟨rfl, h0⟩ | ⟨g, cap, cur, rfl, hb, hg, hle, hmax, hsz, htk⟩
  · clear hcs
    generalize s.length = n at *
    subst h0
    go_enter Tryz.func180, Tryz.ntmps180
    go_wp2_with (at_builtin; refine wpList_append_row _ rfl _ _ 192 rfl B 196 i0 _ 4 56 Tryz.underlying192 hi hz0 hz1 hz2 rfl (by decide) (.slice none 0 0) 0 cs rfl HO.out (some ⟨vb, 0, none⟩) 1 1 (prC.f x) rfl ?c2 ?c3 ?c4 ?c5 ?c6 ?_)
    case c2 => exact HR.out
    case c3 => exact H1.out
    case c4 => unfold maxLen; omega
    case c5 => omega
    case c6 => exact hB
    intro v' w' h1 h2 h3
    have K1 := hide h1
    have K2 : Hid (Ap w (.slice none 0 0) w' v') := hide ⟨h2, h3.imp id (fun h k hk => by rw [h] at hk; injection hk with hk; omega)⟩
    clear h1 h2 h3
    go_wp2
    go_ret
    exact ⟨v', rfl, K1.out, K2.out⟩
  · clear hcs htk hsz hg
    unfold maxLen at hmax
    have hcn : cap = s.length ∨ cap ≠ s.length := by omega
    rcases hcn with hcn | hcn
    · subst hcn
      go_enter Tryz.func180, Tryz.ntmps180
      go_wp2_with (at_builtin; refine wpList_append_row _ rfl _ _ 192 rfl B 196 i0 _ 4 56 Tryz.underlying192 hi hz0 hz1 hz2 rfl (by decide) _ s.length cs rfl HO.out (some ⟨vb, 0, none⟩) 1 1 (prC.f x) rfl ?c2 ?c3 ?c4 ?c5 ?c6 ?_)
      case c2 => exact HR.out
      case c3 => exact H1.out
      case c4 => unfold maxLen; omega
      case c5 => omega
      case c6 => exact hB
      intro v' w' h1 h2 h3
      have K1 := hide h1
      have K2 : Hid (Ap w (.slice (some ⟨g, 0, none⟩) s.length s.length) w' v') := hide ⟨h2, h3.imp id (fun h k hk => by rw [h] at hk; injection hk with hk; omega)⟩
      clear h1 h2 h3
      go_wp2
      go_ret
      exact ⟨v', rfl, K1.out, K2.out⟩
    · go_enter Tryz.func180, Tryz.ntmps180
      go_wp2_with (at_builtin; refine wpList_append_row _ rfl _ _ 192 rfl B 196 i0 _ 4 56 Tryz.underlying192 hi hz0 hz1 hz2 rfl (by decide) _ s.length cs rfl HO.out (some ⟨vb, 0, none⟩) 1 1 (prC.f x) rfl ?c2 ?c3 ?c4 ?c5 ?c6 ?_)
      case c2 => exact HR.out
      case c3 => exact H1.out
      case c4 => unfold maxLen; omega
      case c5 => omega
      case c6 => exact hB
      intro v' w' h1 h2 h3
      have K1 := hide h1
      have K2 : Hid (Ap w (.slice (some ⟨g, 0, none⟩) s.length cap) w' v') := hide ⟨h2, h3.imp id (fun h k hk => by rw [h] at hk; injection hk with hk; omega)⟩
      clear h1 h2 h3
      go_wp2
      go_ret
      exact ⟨v', rfl, K1.out, K2.out⟩

theorem cells_at {w : World} {g : Nat} {cur : List Value} {t : TypeId} (h : w.heap[g]? = some (.cells cur.toArray t (0, 0))) (off : Nat) (l : List Value) (hl : ∀ j v, l[j]? = some v → cur[off + j]? = some v) : ∀ j v, l[j]? = some v → w.cell? ((⟨g, off, none⟩ : Addr).add j) = some v := by
  intro j v hj
  have e : (⟨g, off, none⟩ : Addr).add j = ⟨g, off + j, none⟩ := by unfold Addr.add; split <;> simp_all
  rw [e]
  simp only [World.cell?, h]
  simpa using hl j v hj
theorem get_drop_take {α : Type} (L cs : List α) (m a : Nat) (h : L.take m = cs) : ∀ j v, (cs.drop a)[j]? = some v → L[a + j]? = some v := by
  intro j v hj
  rw [List.getElem?_drop, ← h, List.getElem?_take] at hj
  split at hj
  · exact hj
  · cases hj

set_option maxRecDepth 10000 in
set_option maxHeartbeats 4000000 in
/-- Within, and there is no room. -/
theorem s_ins_grow (B g n i : Nat) (cs : List Value) (vb : Nat) (x : Pr) (w : World) (cur : Array Value) (hg : w.heap[g]? = some (.cells cur 196 (0, 0))) (hcl : cs.length = n * 4) (htk : cur.toList.take (n * 4) = cs) (h1c : ∀ u ∈ cs, u.oneCell' = true) (hi : i < n)
    (hx : w.heap[vb]? = some (.cells (prC.f x).toArray 196 (0, 0))) (hB : B ≤ w.heap.size) (hl : n ≤ 100000) :
    Calls Tryz.prog 180 #[.slice (some ⟨g, 0, none⟩) n n, .int .i64 i, .slice (some ⟨vb, 0, none⟩) 1 1] w fun e w' => ∃ v', e = .returned v' ∧ w'.ownsRow B 196 4 v' (n + 1) (cs.take (i * 4) ++ (prC.f x ++ cs.drop (i * 4))) ∧ Ap w (.slice (some ⟨g, 0, none⟩) n n) w' v' := by
  obtain ⟨i0, hi0, hz0, hzs, hzb⟩ := info_parts pair_info
  have hgl := lt_of_obj hg
  have hvl := lt_of_obj hx
  have hfl : (prC.f x).length = 4 := prC.hf x
  have H1 : Hid (∀ u ∈ prC.f x, u.oneCell' = true) := hide (by have := one_prs [x]; simpa using this)
  have hg' : w.heap[g]? = some (.cells cur.toList.toArray 196 (0, 0)) := by simpa using hg
  have hsrcT : ∀ j v, (cs.take (i * 4))[j]? = some v → w.cell? ((⟨g, 0, none⟩ : Addr).add j) = some v := cells_at hg' 0 _ (fun j v hj => by
    rw [Nat.zero_add]
    rw [← htk, List.getElem?_take, List.getElem?_take] at hj
    split at hj
    · split at hj
      · exact hj
      · cases hj
    · cases hj)
  have hsrcD : ∀ j v, (cs.drop (i * 4))[j]? = some v → w.cell? ((⟨g, i * 4, none⟩ : Addr).add j) = some v := cells_at hg' (i * 4) _ (get_drop_take _ _ _ _ htk)
  have hold : (Builtin.firstCells i0.size i (.slice (some ⟨g, 0, none⟩) i n)).run Tryz.prog w.drew = .ok (cs.take (i * 4)).toArray w.drew := by
    rw [hzs]
    exact run_firstCells_some w.drew 4 i ⟨g, 0, none⟩ i n (cs.take (i * 4)) (by rw [List.length_take]; omega) hsrcT
  obtain ⟨G, hG⟩ : ∃ G, G = grownCap w (n + 1) n 196 := ⟨_, rfl⟩
  obtain ⟨W1, hW1⟩ : ∃ W1, W1 = w.drew.alloc (.cells ((cs.take (i * 4)).toArray ++ Builtin.zeroCells (Value.agg #[.int .i64 0, .string ⟨#[]⟩, .int .i64 0, .slice none 0 0]).cells (n + 1 - i) ++ Builtin.zeroCells (Value.agg #[.int .i64 0, .string ⟨#[]⟩, .int .i64 0, .slice none 0 0]).cells (G - (n + 1))) 196) := ⟨_, rfl⟩
  have hGn : n + 1 ≤ G := by rw [hG]; exact grownCap_ge w _ _ _
  have hG63 : G ≤ maxLen := by rw [hG]; exact grownCap_le_maxLen w (n + 1) n 196 (by unfold maxLen; omega)
  have hrz : Hid (∀ ty, (Builtin.append_ #[192, 3] ty #[.slice (some ⟨g, 0, none⟩) i n, .int .i64 ((n : Int) + 1 - (i : Int))]).run Tryz.prog w = .ok (.slice (some ⟨w.heap.size, 0, none⟩) (n + 1) G) W1) := hide (fun ty => by
    have hik : i + (n + 1 - i) = n + 1 := by omega
    have hkk : (n : Int) + 1 - (i : Int) = ((n + 1 - i : Nat) : Int) := by omega
    have h := Lib.run_append_grow_zeros w 192 3 ty 196 i0 _ .i64 .i64 Tryz.underlying192 Tryz.underlying3 hi0 hz0 (some ⟨g, 0, none⟩) i n (cs.take (i * 4)) hold (n + 1 - i) (by omega) (by omega) (by omega) (by omega) (by rw [hzb]; omega) (by rw [hzb, hik]; exact growslice_fits (by omega) (by omega))
    rw [hik] at h
    rw [hkk, hW1, hG]
    exact h)
  obtain ⟨R, hR⟩ : ∃ R : List Value, R = cs.take (i * 4) ++ (Builtin.zeroCells (Value.agg #[.int .i64 0, .string ⟨#[]⟩, .int .i64 0, .slice none 0 0]).cells (n + 1 - i) ++ Builtin.zeroCells (Value.agg #[.int .i64 0, .string ⟨#[]⟩, .int .i64 0, .slice none 0 0]).cells (G - (n + 1))).toList := ⟨_, rfl⟩
  have hRl : R.length = G * 4 := by
    rw [hR]
    simp [Builtin.zeroCells, Value.cells]
    omega
  have hRt : R.take (i * 4) = cs.take (i * 4) := by
    rw [hR, List.take_append_of_le_length (by rw [List.length_take]; omega), List.take_of_length_le (by rw [List.length_take]; omega)]
  have hN : Hid (W1.heap[w.heap.size]? = some (.cells R.toArray 196 (0, 0))) := hide (by
    rw [hW1, hR]
    rw [at_newB w.drew _ w.heap.size rfl]
    congr 2
    apply Array.toList_inj.1
    simp)
  have X1 : Hid (Ext w W1) := hide (by rw [hW1]; exact (Ext.refl w).drew.alloc _)
  have hs1 : W1.heap.size = w.heap.size + 1 := by rw [hW1]; simp
  have HX := hide hx
  have HGG := hide hg'
  have HSD := hide hsrcD
  have HRL := hide hRl
  have HRT := hide hRt
  have HCL := hide hcl
  have H1C : Hid (∀ u ∈ cs.drop (i * 4), u.oneCell' = true) := hide (fun u hu => h1c u (List.mem_of_mem_drop hu))
  have HDL : Hid ((cs.drop (i * 4)).length = (n - i) * 4) := hide (by rw [List.length_drop, hcl]; omega)
  have hz1 : ¬ (i : Int) = (n : Int) := by omega
  have hz1' : ((i : Int) == (n : Int)) = false := by rw [beq_eq_false_iff_ne]; omega
  have hz2 : ((1 : Int) == 0) = false := by decide
  have hz3 : (n : Int) + 1 > (n : Int) := by omega
  have hni : ¬ n = i := by omega
  have hGi : ¬ G = i := by omega
  have hGi1 : ¬ G = i + 1 := by omega
  have hb1 : (0 : Int) ≤ (i : Int) + 1 := by omega
  have hb2 : (i : Int) ≤ (n : Int) + 1 := by omega
  have hb3 : (i : Int) + 1 ≤ (n : Int) + 1 := by omega
  have hb4 : (i : Int) ≤ (n : Int) := by omega
  have htn : ((i : Int) + 1).toNat = i + 1 := by omega
  have hw1 : IntKind.i64.wrap ((i : Int) + 1) = (i : Int) + 1 := by rw [IntKind.wrap_i64]; omega
  have hMx : Hid (G ≤ maxLen) := hide hG63
  obtain ⟨N, hNN⟩ : ∃ N, N = w.heap.size := ⟨_, rfl⟩
  rw [← hNN] at hrz hN
  have HNN := hide hNN
  clear hx hg hg' hsrcT hsrcD hold hG hW1 hR hRl hRt hcl htk h1c hG63 hi0 hz0 hzs hzb hNN
  go_enter Tryz.func180, Tryz.ntmps180
  go_wp2_with (first
    | (at_builtin; refine Lib.wpList_append_run _ rfl _ _ _ _ rfl _ _ rfl rfl _ _ (hrz.out _) ?_)
    | (refine wpList_copy_k rfl _ _ 192 192 rfl 196 Tryz.underlying192 4 pair_size N (i * 4) _ _ ⟨vb, 0, none⟩ _ _ rfl rfl R 196 hN.out (prC.f x) 1 ?n1 ?l1 ?s1 ?f1 H1.out ?_))
  case n1 => simp only [Nat.min_def]; split <;> omega
  case l1 => rw [hfl]
  case s1 => exact pr_src ((X1.out.heap hvl).trans HX.out)
  case f1 => rw [hfl, HRL.out]; omega
  intro w2 hG2 hB2 hz2
  have hsD : ∀ w3 : World, w2.drew = w3 → ∀ j v, (cs.drop (i * 4))[j]? = some v → w3.cell? ((⟨g, i * 4, none⟩ : Addr).add j) = some v := by
    rintro w3 rfl j v hj
    have h1 := HSD.out j v hj
    have e : (⟨g, i * 4, none⟩ : Addr).add j = ⟨g, i * 4 + j, none⟩ := by unfold Addr.add; split <;> simp_all
    rw [e] at h1 ⊢
    refine (World.cell?_of_block ?_).trans h1
    show w2.heap[g]? = _
    rw [hB2.out.block g (by omega) (fun e => by have := HNN.out; injection e with e; omega), X1.out.heap hgl]
  have HsD := hide (hsD _ rfl)
  clear hsD
  have hG2' : Hid (w2.drew.heap[N]? = some (.cells (splice R (i * 4) (prC.f x)).toArray 196 (0, 0))) := hG2
  have hsl : (splice R (i * 4) (prC.f x)).length = R.length := length_splice _ _ _ (by rw [hfl, HRL.out]; omega)
  have Hsl := hide hsl
  clear hsl
  go_wp2
  have hn3 : n - i = Nat.min (n - i) (n + 1 - (i + 1)) := by simp only [Nat.min_def]; split <;> omega
  have hf3 : (i + 1) * 4 + (cs.drop (i * 4)).length ≤ (splice R (i * 4) (prC.f x)).length := by rw [Hsl.out, HRL.out, HDL.out]; omega
  have HN3 := hide hn3
  have HF3 := hide hf3
  clear hn3 hf3
  go_region_law (refine step_copy_k rfl _ _ 192 192 rfl 196 Tryz.underlying192 4 pair_size N ((i + 1) * 4) (n + 1 - (i + 1)) (G - (i + 1)) ⟨g, i * 4, none⟩ (n - i) (n - i) (by simp [Act.eval, Act.put]) (by simp [Act.eval, Act.put]) (splice R (i * 4) (prC.f x)) 196 hG2'.out (cs.drop (i * 4)) (n - i) HN3.out HDL.out HsD.out HF3.out H1C.out ?_; intro w3 hG3 hB3 hz3)
  have X3 : Hid (Ext w w3) := hide (((X1.out.grown hB2.out (fun k e => by have := HNN.out; injection e with e; omega)).drew).grown hB3.out (fun k e => by have := HNN.out; injection e with e; omega))
  have hO : Hid (w3.ownsRow B 196 4 (.slice (some ⟨N, 0, none⟩) (n + 1) G) (n + 1) (cs.take (i * 4) ++ (prC.f x ++ cs.drop (i * 4)))) := hide (by
    have e4 : (i + 1) * 4 = i * 4 + 4 := by omega
    have hG := hG3.out
    rw [e4] at hG
    have hdl := HDL.out
    have hrl := HRL.out
    obtain ⟨k1, k2⟩ := splice_in R (prC.f x) (cs.drop (i * 4)) (i * 4) 4 ((n - i) * 4) hfl hdl (by omega)
    have e5 : i * 4 + 4 + (n - i) * 4 = (n + 1) * 4 := by omega
    rw [e5, HRT.out] at k2
    refine ⟨?_, .inr ⟨N, G, _, rfl, by have := HNN.out; omega, hG, hGn, hMx.out, ?_, ?_⟩⟩
    · rw [← k2, List.length_take, k1, hrl]; omega
    · simpa [hrl] using k1
    · simpa using k2)
  clear hG2 hG2' hG3 hB2 hB3 HsD
  go_wp2
  go_ret
  exact ⟨_, rfl, hO.out, ext_grown X3.out _, .inr (fun k hk => by have := HNN.out; injection hk with hk; have hk : N = k := hk; omega)⟩

set_option maxRecDepth 10000 in
set_option maxHeartbeats 4000000 in
/-- Within, and there is room. -/
theorem s_ins_shift (B g n cap i : Nat) (cs : List Value) (vb : Nat) (x : Pr) (w : World) (cur : Array Value) (hg : w.heap[g]? = some (.cells cur 196 (0, 0))) (hcl : cs.length = n * 4) (htk : cur.toList.take (n * 4) = cs) (hsz : cur.size = cap * 4) (h1c : ∀ u ∈ cs, u.oneCell' = true) (hi : i < n) (hroom : n + 1 ≤ cap) (hmax : cap ≤ maxLen)
    (hx : w.heap[vb]? = some (.cells (prC.f x).toArray 196 (0, 0))) (hne : vb ≠ g) (hB : B ≤ g) (hl : n ≤ 100000) :
    Calls Tryz.prog 180 #[.slice (some ⟨g, 0, none⟩) n cap, .int .i64 i, .slice (some ⟨vb, 0, none⟩) 1 1] w fun e w' => ∃ v', e = .returned v' ∧ w'.ownsRow B 196 4 v' (n + 1) (cs.take (i * 4) ++ (prC.f x ++ cs.drop (i * 4))) ∧ Ap w (.slice (some ⟨g, 0, none⟩) n cap) w' v' := by
  have hgl := lt_of_obj hg
  have hvl := lt_of_obj hx
  have hfl : (prC.f x).length = 4 := prC.hf x
  have H1 : Hid (∀ u ∈ prC.f x, u.oneCell' = true) := hide (by have := one_prs [x]; simpa using this)
  have hg' : w.heap[g]? = some (.cells cur.toList.toArray 196 (0, 0)) := by simpa using hg
  have hsrcD : ∀ j v, (cs.drop (i * 4))[j]? = some v → w.cell? ((⟨g, i * 4, none⟩ : Addr).add j) = some v := cells_at hg' (i * 4) _ (get_drop_take _ _ _ _ htk)
  have hcul : cur.toList.length = cap * 4 := by simpa using hsz
  have hsa : w.shape? vb = some (196, 4) := by simp [World.shape?, hx, hfl]
  have hsb : w.shape? g = some (196, cap * 4) := by simp [World.shape?, hg, hsz]
  have hov : ∀ lb cb, (callFunc 213 #[.slice (some ⟨vb, 0, none⟩) 1 1, .slice (some ⟨g, (i + 1) * 4, none⟩) lb cb]).run Tryz.prog w = .ok (.value (.bool false)) w := fun lb cb => by
    rw [run_callFunc_extern Tryz.func213 (by kernel_rfl) (by kernel_rfl) (by kernel_rfl) (e := Extern.SlicesOverlaps.overlaps #[192, 192] #[4]) (by kernel_rfl),
      Lib.run_overlaps_apart w 192 4 196 Tryz.underlying192 4 Tryz.sizeOf196 ⟨vb, 0, none⟩ ⟨g, (i + 1) * 4, none⟩ 1 1 lb cb hne 196 196 4 (cap * 4) hsa hsb (by omega) (by simp [World.frozen?, hx]) (by simp [World.frozen?, hx])]
    rfl
  have HX := hide hx
  have HGG := hide hg'
  have HSD := hide hsrcD
  have HCL := hide hcl
  have HCU := hide hcul
  have HTK := hide htk
  have H1C : Hid (∀ u ∈ cs.drop (i * 4), u.oneCell' = true) := hide (fun u hu => h1c u (List.mem_of_mem_drop hu))
  have HDL : Hid ((cs.drop (i * 4)).length = (n - i) * 4) := hide (by rw [List.length_drop, hcl]; omega)
  have hz1' : ((i : Int) == (n : Int)) = false := by rw [beq_eq_false_iff_ne]; omega
  have hz1 : ¬ (i : Int) = (n : Int) := by omega
  have hz2 : ((1 : Int) == 0) = false := by decide
  have hz3 : ¬ (n : Int) + 1 > (cap : Int) := by omega
  have hmx : cap ≤ 9223372036854775807 := hmax
  have hci : ¬ cap = i := by omega
  have hci1 : ¬ cap = i + 1 := by omega
  have hb1 : (0 : Int) ≤ (i : Int) + 1 := by omega
  have hb0 : (0 : Int) ≤ (n : Int) + 1 := by omega
  have hb2 : (i : Int) ≤ (n : Int) + 1 := by omega
  have hb3 : (i : Int) + 1 ≤ (n : Int) + 1 := by omega
  have hb4 : (i : Int) ≤ (n : Int) := by omega
  have hb5 : (n : Int) + 1 ≤ (cap : Int) := by omega
  have htn : ((i : Int) + 1).toNat = i + 1 := by omega
  have htn2 : ((n : Int) + 1).toNat = n + 1 := by omega
  have hw1 : IntKind.i64.wrap ((i : Int) + 1) = (i : Int) + 1 := by rw [IntKind.wrap_i64]; omega
  have hn3 : n - i = Nat.min (n + 1 - i) (n + 1 - (i + 1)) := by simp only [Nat.min_def]; split <;> omega
  have hf3 : (i + 1) * 4 + (cs.drop (i * 4)).length ≤ cur.toList.length := by rw [hcul, HDL.out]; omega
  have HN3 := hide hn3
  have HF3 := hide hf3
  have HMX := hide hmax
  have HRM := hide hroom
  have HsD : Hid (∀ j v, (cs.drop (i * 4))[j]? = some v → w.drew.cell? ((⟨g, i * 4, none⟩ : Addr).add j) = some v) := hide hsrcD
  have HGd : Hid (w.drew.heap[g]? = some (.cells cur.toList.toArray 196 (0, 0))) := hide hg'
  clear hx hg hg' hsrcD hcul hsa hsb hcl htk hsz h1c hn3 hf3 hmax hroom
  go_enter Tryz.func180, Tryz.ntmps180
  go_wp2_with (simp only [hov])
  go_region_law (refine step_copy_k rfl _ _ 192 192 rfl 196 Tryz.underlying192 4 pair_size g ((i + 1) * 4) (n + 1 - (i + 1)) (cap - (i + 1)) ⟨g, i * 4, none⟩ (n + 1 - i) (cap - i) (by simp [Act.eval, Act.put]) (by simp [Act.eval, Act.put]) cur.toList 196 HGd.out (cs.drop (i * 4)) (n - i) HN3.out HDL.out HsD.out HF3.out H1C.out ?_; intro w3 hG3 hB3 hz4)
  have HS4 : Hid (∀ j v, (prC.f x)[j]? = some v → w3.cell? ((⟨vb, 0, none⟩ : Addr).add j) = some v) := hide (pr_src ((hB3.out.block vb hvl (fun e => by injection e with e; omega)).trans HX.out))
  have hs1 : (splice cur.toList ((i + 1) * 4) (cs.drop (i * 4))).length = cap * 4 := by rw [length_splice _ _ _ HF3.out, HCU.out]
  have HS1 := hide hs1
  clear hs1
  go_wp2_with (refine wpList_copy_k rfl _ _ 192 192 rfl 196 Tryz.underlying192 4 pair_size g (i * 4) _ _ ⟨vb, 0, none⟩ _ _ rfl rfl (splice cur.toList ((i + 1) * 4) (cs.drop (i * 4))) 196 hG3.out (prC.f x) 1 ?n1 ?l1 HS4.out ?f1 H1.out ?_)
  case n1 => simp only [Nat.min_def]; split <;> omega
  case l1 => rw [hfl]
  case f1 => rw [hfl, HS1.out]; have := HRM.out; omega
  intro w5 hG5 hB5 hz5
  have hO : Hid (w5.ownsRow B 196 4 (.slice (some ⟨g, 0, none⟩) (n + 1) cap) (n + 1) (cs.take (i * 4) ++ (prC.f x ++ cs.drop (i * 4)))) := hide (by
    have e4 : (i + 1) * 4 = i * 4 + 4 := by omega
    have hG := hG5.out
    rw [e4] at hG
    have hdl := HDL.out
    have hcu := HCU.out
    have hrm := HRM.out
    obtain ⟨k1, k2⟩ := splice_shift cur.toList (prC.f x) (cs.drop (i * 4)) (i * 4) 4 ((n - i) * 4) hfl hdl (by omega)
    have e5 : i * 4 + 4 + (n - i) * 4 = (n + 1) * 4 := by omega
    have e6 : cur.toList.take (i * 4) = cs.take (i * 4) := by rw [← HTK.out, List.take_take, Nat.min_eq_left (by omega)]
    rw [e5, e6] at k2
    refine ⟨?_, .inr ⟨g, cap, _, rfl, hB, hG, hrm, HMX.out, ?_, ?_⟩⟩
    · rw [← k2, List.length_take, k1, hcu]; omega
    · simpa [hcu] using k1
    · simpa using k2)
  have hgr : Hid (w.grownBy w5 (some g)) := hide (grown_trans (grown_trans (⟨rfl, rfl, rfl, Nat.le_refl _, fun _ _ _ => rfl⟩ : w.grownBy w.drew (some g)) hB3.out) hB5.out)
  clear hG3 hB3 hG5 hB5
  go_wp2
  go_ret
  exact ⟨_, rfl, hO.out, hgr.out, .inl rfl⟩

/-- slices.Insert of one pair. -/
theorem s_insert (B : Nat) (v : Value) (s : List Pr) (i vb : Nat) (x : Pr) (w : World) (hO : w.ownsRow B 196 4 v s.length (s.flatMap prC.f)) (hi : i ≤ s.length) (hx : w.heap[vb]? = some (.cells (prC.f x).toArray 196 (0, 0))) (hne : v.ownBlock ≠ some vb) (hB : B ≤ w.heap.size) (hl : s.length ≤ 100000) :
    Calls Tryz.prog 180 #[v, .int .i64 i, .slice (some ⟨vb, 0, none⟩) 1 1] w fun e w' => ∃ v', e = .returned v' ∧ w'.ownsRow B 196 4 v' (s.length + 1) ((s.take i ++ x :: s.drop i).flatMap prC.f) ∧ Ap w v w' v' := by
  rcases Nat.lt_or_ge i s.length with hlt | hge
  · rw [insP_cells]
    rcases hO.2 with ⟨-, h0⟩ | ⟨g, cap, cur, rfl, hb, hg, hle, hmax, hsz, htk⟩
    · omega
    · rcases Nat.lt_or_ge s.length cap with hc | hc
      · exact s_ins_shift B g s.length cap i _ vb x w cur hg (prs_len s) htk hsz (one_prs s) hlt hc hmax hx (fun e => hne (by rw [e]; rfl)) hb hl
      · obtain rfl : cap = s.length := by omega
        exact s_ins_grow B g s.length i _ vb x w cur hg (prs_len s) htk (one_prs s) hlt hx hB hl
  · obtain rfl : i = s.length := by omega
    have e : (s.take s.length ++ x :: s.drop s.length).flatMap prC.f = s.flatMap prC.f ++ prC.f x := by
      rw [List.take_length, List.drop_length, List.flatMap_append, List.flatMap_cons, List.flatMap_nil, List.append_nil]
    rw [e]
    exact s_ins_end B v s vb x w hO hx hB hl

end Go.Proofs.YtcnkfkjgpdmebaaGreatDoor

/- Contract on looking for a number in a row. -/
namespace Go.Proofs.YtcnkfkjgpdmebaaGreatDoor
open Go.RowKit

set_option maxHeartbeats 1000000 in
theorem index_i (A : Option Addr) (cap : Nat) (l : List Int) (x : Int) (w : World) (h : Ints w A l) (hle : l.length ≤ 9223372036854775807) :
    Calls Tryz.prog 191 #[.slice A l.length cap, .int .i64 x] w fun e w' => e = .returned (.int .i64 (idxI l x)) ∧ w' = w := by
  have Hat := hide (fun k => @idxI_at _ _ l x 0 k)
  have Hno := hide (idxI_no l x 0)
  have Hr := hide h
  clear h
  generalize idxI l x = R at *
  go_enter Tryz.func191, Tryz.ntmps191
  go_wp2
  go_loop [8] (fun i => ∃ j : Nat, j ≤ l.length ∧ i = .int .i64 j ∧ Hid (∀ i, i < j → (l.getD i 0 == x) = false)) (fun i => l.length - (intOf i).toNat)
  case atStart => exact ⟨0, Nat.zero_le _, rfl, hide (fun i hi => absurd hi (by omega))⟩
  case round =>
    obtain ⟨j, hj, rfl, Hj⟩ := hrel
    by_cases hlt : j < l.length
    · obtain ⟨b, o, rfl, hb, hc⟩ := Hr.out.at_ hlt
      have hlt' : (j : Int) < (l.length : Int) := by omega
      have Hg : Hid (l.getD j 0 = l[j]'hlt) := hide (by simp [hlt])
      generalize l[j]'hlt = y at *
      cases hs : (x == y)
      · go_wp2
        go_round
        case rel =>
          refine ⟨j + 1, hlt, by go_num, hide (fun i hi => ?_)⟩
          by_cases hij : i = j
          · rw [hij, Hg.out]; rw [Bool.eq_false_iff] at hs ⊢; simp at hs ⊢; exact fun e => hs e.symm
          · exact Hj.out i (by omega)
        case measure => simp [intOf]; omega
      · have hR := Hat.out j hlt Hj.out (by rw [Hg.out]; simp at hs ⊢; exact hs.symm)
        subst hR
        go_wp2
        go_ret
        exact ⟨rfl, rfl⟩
    · have hge : (l.length : Int) ≤ (j : Int) := by omega
      have hR := Hno.out (fun i hi => Hj.out i (by omega))
      subst hR
      go_wp2
      go_ret
      exact ⟨rfl, rfl⟩

end Go.Proofs.YtcnkfkjgpdmebaaGreatDoor

/- Contract on a number that is in a row, or not. -/
namespace Go.Proofs.YtcnkfkjgpdmebaaGreatDoor
open Go.RowKit

set_option maxHeartbeats 1000000 in
theorem has_i (A : Option Addr) (cap : Nat) (l : List Int) (x : Int) (w : World) (h : Ints w A l) (hle : l.length ≤ 9223372036854775807) :
    Calls Tryz.prog 143 #[.slice A l.length cap, .int .i64 x] w fun e w' => e = .returned (.bool (l.any (· == x))) ∧ w' = w := by
  have Hi := hide (index_i A cap l x w h hle)
  rw [← idxI_ge]
  clear h
  generalize idxI l x = R at *
  go_enter Tryz.func143, Tryz.ntmps143
  go_wp2_with fail
  refine Hi.out.mono ?_
  rintro e w1 ⟨rfl, rfl⟩
  go_wp2
  go_ret
  exact ⟨rfl, rfl⟩

end Go.Proofs.YtcnkfkjgpdmebaaGreatDoor

/- Contracts: what is known of a class at a type, back again; of the program. (A program of ours has printed a part.) -/
namespace Go.Proofs.YtcnkfkjgpdmebaaGreatDoor
open Go.RowKit

/-- The class that a constructor names; none: no text. -/
def classS (s : Str) : Str := if preB 123 s && sufB 125 (s.drop 1) && conB ((s.drop 1).take (s.length - 2)) then (s.drop 1).take (s.length - 2) else []
/-- Does a type say what is known of a class at a type? -/
def dictB (t : Ty) : Bool := !(classS t.con == []) && t.args.length == 1 && t.var == 0
theorem cut_both {s : Str} (h1 : preB 123 s = true) (h2 : sufB 125 (cutP 123 s) = true) : cutQ 125 (cutP 123 s) = (s.drop 1).take (s.length - 2) := by
  have e : cutP 123 s = s.drop 1 := by unfold cutP; rw [h1]; rfl
  rw [e] at h2 ⊢
  unfold cutQ
  rw [h2, if_pos rfl]
  congr 1
  simp
  omega
theorem classS_yes {s : Str} (h1 : preB 123 s = true) (h2 : sufB 125 (cutP 123 s) = true) (h3 : conB (cutQ 125 (cutP 123 s)) = true) : classS s = cutQ 125 (cutP 123 s) ∧ (classS s == []) = false := by
  have e := cut_both h1 h2
  have e1 : cutP 123 s = s.drop 1 := by unfold cutP; rw [h1]; rfl
  have h4 := h3
  rw [e] at h3
  have hc : classS s = (s.drop 1).take (s.length - 2) := by unfold classS; rw [h1, ← e1, h2, e1, h3]; rfl
  refine ⟨hc.trans e.symm, ?_⟩
  rw [hc]
  cases hq : (s.drop 1).take (s.length - 2) with
  | nil => rw [hq] at h3; cases h3
  | cons b d => rfl
theorem classS_no1 {s : Str} (h1 : preB 123 s = false) : classS s = [] := by unfold classS; rw [h1]; rfl
theorem classS_no2 {s : Str} (h1 : preB 123 s = true) (h2 : sufB 125 (cutP 123 s) = false) : classS s = [] := by
  have e1 : cutP 123 s = s.drop 1 := by unfold cutP; rw [h1]; rfl
  unfold classS; rw [← e1, h2, h1]; rfl
theorem classS_no3 {s : Str} (h1 : preB 123 s = true) (h2 : sufB 125 (cutP 123 s) = true) (h3 : conB (cutQ 125 (cutP 123 s)) = false) : classS s = [] := by
  rw [cut_both h1 h2] at h3
  unfold classS; rw [h3, Bool.and_false]; rfl
theorem dictB_no {t : Ty} (h : classS t.con = []) : dictB t = false := by unfold dictB; rw [h]; rfl
theorem cutP_len (c : UInt8) (s : Str) : (cutP c s).length ≤ s.length := by unfold cutP; split <;> simp
theorem cutQ_len (c : UInt8) (s : Str) : (cutQ c s).length ≤ s.length := by unfold cutQ; split <;> simp
/-- What is told: the class, the type, and whether. -/
def classV (c : Str) (u : Ty) (b : Bool) : Value := .tuple #[encStr c, .agg #[encStr u.con, .int .i64 u.var, .slice u.A u.args.length u.cap], .bool b]
def argOf (t : Ty) : Ty := if dictB t then t.args.headD Ty.zero else Ty.zero
def clsOf (t : Ty) : Str := if dictB t then classS t.con else []
theorem headD_get {α : Type} {d : α} : ∀ (l : List α) (h : 0 < l.length), l.headD d = l[0]'h
  | _ :: _, _ => rfl
theorem argOf_no {t : Ty} (h : dictB t = false) : argOf t = Ty.zero := by unfold argOf; rw [h]; rfl
theorem clsOf_no {t : Ty} (h : dictB t = false) : clsOf t = [] := by unfold clsOf; rw [h]; rfl

set_option maxRecDepth 10000 in
set_option maxHeartbeats 4000000 in
theorem f_class (t : Ty) (w : World) (h : TyIn w t) : Calls Tryz.prog 123 #[tyV t] w fun e w' => e = .returned (classV (clsOf t) (argOf t) (dictB t)) ∧ Ext w w' := by
  have htx := h.txt
  have hle := h.le
  have hmx := h.max
  have Hk := hide (fun w' (e : Ext w w') => h.all.ext e)
  have H1 := hide (fun w' => hide (s_cutprefix t.con 123 w' htx))
  have H2 := hide (fun w' => hide (s_cutsuffix (cutP 123 t.con) 125 w' (Nat.le_trans (cutP_len _ _) htx)))
  have H3 := hide (fun w' => hide (n_con (cutQ 125 (cutP 123 t.con)) w' (Nat.le_trans (cutQ_len _ _) (Nat.le_trans (cutP_len _ _) htx))))
  clear h
  cases h1 : preB 123 t.con
  · rw [h1] at H1
    have hd := dictB_no (classS_no1 h1)
    rw [hd, argOf_no hd, clsOf_no hd]
    clear hd
    unfold tyV classV
    go_enter Tryz.func123, Tryz.ntmps123
    go_wp2_with fail
    refine (H1.out _).out.mono ?_
    rintro e w2 ⟨rfl, rfl⟩
    go_wp2_with fail
    refine (H2.out _).out.mono ?_
    rintro e w3 ⟨rfl, rfl⟩
    go_wp2
    refine bodyPost_ret (v := .tuple #[.string ⟨#[]⟩, .agg #[.string ⟨#[]⟩, .int .i64 0, .slice none 0 0], .bool false]) ?_ rfl ⟨rfl, (by repeat (first | exact Ext.refl _ | exact Ext.pre (by simp) | exact Ext.alloc (by assumption) _ | refine Ext.alloc ?_ _ |  refine Ext.more ?_ _ _ | refine Ext.drew ?_ | refine Ext.drewN ?_ _))⟩
    simp [results, Tryz.f123, go_sem]
  · rw [h1] at H1
    cases h2 : sufB 125 (cutP 123 t.con)
    · rw [h2] at H2
      have hd := dictB_no (classS_no2 h1 h2)
      rw [hd, argOf_no hd, clsOf_no hd]
      clear hd
      unfold tyV classV
      go_enter Tryz.func123, Tryz.ntmps123
      go_wp2_with fail
      refine (H1.out _).out.mono ?_
      rintro e w2 ⟨rfl, rfl⟩
      go_wp2_with fail
      refine (H2.out _).out.mono ?_
      rintro e w3 ⟨rfl, rfl⟩
      go_wp2
      refine bodyPost_ret (v := .tuple #[.string ⟨#[]⟩, .agg #[.string ⟨#[]⟩, .int .i64 0, .slice none 0 0], .bool false]) ?_ rfl ⟨rfl, (by repeat (first | exact Ext.refl _ | exact Ext.pre (by simp) | exact Ext.alloc (by assumption) _ | refine Ext.alloc ?_ _ |  refine Ext.more ?_ _ _ | refine Ext.drew ?_ | refine Ext.drewN ?_ _))⟩
      simp [results, Tryz.f123, go_sem]
    · rw [h2] at H2
      cases h3 : conB (cutQ 125 (cutP 123 t.con))
      · rw [h3] at H3
        have hd := dictB_no (classS_no3 h1 h2 h3)
        rw [hd, argOf_no hd, clsOf_no hd]
        clear hd
        unfold tyV classV
        go_enter Tryz.func123, Tryz.ntmps123
        go_wp2_with fail
        refine (H1.out _).out.mono ?_
        rintro e w2 ⟨rfl, rfl⟩
        go_wp2_with fail
        refine (H2.out _).out.mono ?_
        rintro e w3 ⟨rfl, rfl⟩
        go_wp2_with fail
        refine (H3.out _).out.mono ?_
        rintro e w4 ⟨rfl, rfl⟩
        go_wp2
        refine bodyPost_ret (v := .tuple #[.string ⟨#[]⟩, .agg #[.string ⟨#[]⟩, .int .i64 0, .slice none 0 0], .bool false]) ?_ rfl ⟨rfl, (by repeat (first | exact Ext.refl _ | exact Ext.pre (by simp) | exact Ext.alloc (by assumption) _ | refine Ext.alloc ?_ _ |  refine Ext.more ?_ _ _ | refine Ext.drew ?_ | refine Ext.drewN ?_ _))⟩
        simp [results, Tryz.f123, go_sem]
      · rw [h3] at H3
        obtain ⟨hy1, hy2⟩ := classS_yes h1 h2 h3
        have hD : dictB t = (!((t.args.length : Int) != 1) && !(t.var != 0)) := by
          unfold dictB
          rw [hy2, ← beq_cast]
          simp [bne]
        cases hn : ((t.args.length : Int) != 1)
        rotate_left 1
        · rw [hn] at hD
          have hd : dictB t = false := hD
          rw [hd, argOf_no hd, clsOf_no hd]
          clear hd hD hy1 hy2
          unfold tyV classV
          go_enter Tryz.func123, Tryz.ntmps123
          go_wp2_with fail
          refine (H1.out _).out.mono ?_
          rintro e w2 ⟨rfl, rfl⟩
          go_wp2_with fail
          refine (H2.out _).out.mono ?_
          rintro e w3 ⟨rfl, rfl⟩
          go_wp2_with fail
          refine (H3.out _).out.mono ?_
          rintro e w4 ⟨rfl, rfl⟩
          go_wp2
          refine bodyPost_ret (v := .tuple #[.string ⟨#[]⟩, .agg #[.string ⟨#[]⟩, .int .i64 0, .slice none 0 0], .bool false]) ?_ rfl ⟨rfl, (by repeat (first | exact Ext.refl _ | exact Ext.pre (by simp) | exact Ext.alloc (by assumption) _ | refine Ext.alloc ?_ _ |  refine Ext.more ?_ _ _ | refine Ext.drew ?_ | refine Ext.drewN ?_ _))⟩
          simp [results, Tryz.f123, go_sem]
        · rw [hn] at hD
          cases hv : (t.var != 0)
          rotate_left 1
          · rw [hv] at hD
            have hd : dictB t = false := hD
            rw [hd, argOf_no hd, clsOf_no hd]
            clear hd hD hy1 hy2
            unfold tyV classV
            go_enter Tryz.func123, Tryz.ntmps123
            go_wp2_with fail
            refine (H1.out _).out.mono ?_
            rintro e w2 ⟨rfl, rfl⟩
            go_wp2_with fail
            refine (H2.out _).out.mono ?_
            rintro e w3 ⟨rfl, rfl⟩
            go_wp2_with fail
            refine (H3.out _).out.mono ?_
            rintro e w4 ⟨rfl, rfl⟩
            go_wp2
            refine bodyPost_ret (v := .tuple #[.string ⟨#[]⟩, .agg #[.string ⟨#[]⟩, .int .i64 0, .slice none 0 0], .bool false]) ?_ rfl ⟨rfl, (by repeat (first | exact Ext.refl _ | exact Ext.pre (by simp) | exact Ext.alloc (by assumption) _ | refine Ext.alloc ?_ _ |  refine Ext.more ?_ _ _ | refine Ext.drew ?_ | refine Ext.drewN ?_ _))⟩
            simp [results, Tryz.f123, go_sem]
          · rw [hv] at hD
            have hd : dictB t = true := hD
            have hl1 : t.args.length = 1 := by simp at hn; omega
            have hl0 : 0 < t.args.length := by omega
            have ha : argOf t = t.args[0]'hl0 := by unfold argOf; rw [hd, if_pos rfl, headD_get _ hl0]
            have hc : clsOf t = cutQ 125 (cutP 123 t.con) := by unfold clsOf; rw [hd, if_pos rfl, hy1]
            rw [hd, ha, hc]
            obtain ⟨b, o, hA, hb, q0, q1, q2⟩ := (Hk.out _ (((Ext.refl w).alloc (.cells #[encStr t.con, .int .i64 t.var, .slice t.A t.args.length t.cap] 53)).alloc (.cells #[.string ⟨#[]⟩, .int .i64 0, .slice none 0 0] 53))).at_ hl0
            simp only [Nat.zero_mul, Nat.add_zero] at q0 q1 q2
            rw [hA] at q0 q1 q2
            clear hd ha hc hD hy1 hy2 hl1 Hk
            generalize t.args[0]'hl0 = x at *
            generalize cutQ 125 (cutP 123 t.con) = C at *
            generalize cutP 123 t.con = D at *
            unfold tyV classV
            go_enter Tryz.func123, Tryz.ntmps123
            go_wp2_with fail
            refine (H1.out _).out.mono ?_
            rintro e w2 ⟨rfl, rfl⟩
            go_wp2_with fail
            refine (H2.out _).out.mono ?_
            rintro e w3 ⟨rfl, rfl⟩
            go_wp2_with fail
            refine (H3.out _).out.mono ?_
            rintro e w4 ⟨rfl, rfl⟩
            go_wp2
            go_region
            go_wp2
            refine bodyPost_ret (v := .tuple #[encStr C, .agg #[encStr x.con, .int .i64 x.var, .slice x.A x.args.length x.cap], .bool true]) ?_ rfl ⟨rfl, (by repeat (first | exact Ext.refl _ | exact Ext.pre (by simp) | exact Ext.alloc (by assumption) _ | refine Ext.alloc ?_ _ |  refine Ext.more ?_ _ _ | refine Ext.drew ?_ | refine Ext.drewN ?_ _))⟩
            simp [results, Tryz.f123, go_sem]

end Go.Proofs.YtcnkfkjgpdmebaaGreatDoor

/- Contracts: what is known of a class at a type, back again; of the reference. (A program of ours has printed a part.) -/
namespace Go.Proofs.YtcnkfkjgpdmebaaGreatDoor
open Go.RowKit

end Go.Proofs.YtcnkfkjgpdmebaaGreatDoor

/- Plain laws on memory: what is copied from one slice to another one, of elements of several cells. No program in sight. -/
namespace Go.Proofs.YtcnkfkjgpdmebaaGreatDoor
theorem run_copy_k {P : Program} (w : World) (dT sT ty elem : TypeId) (k g dLen dCap : Nat) (a : Addr) (sLen sCap : Nat) (cur : Array Value) (t : TypeId) (cs : List Value) (n : Nat)
    (hu : P.underlying dT = some (.slice elem)) (hs : (P.info? elem).map (·.size) = some k)
    (hg : w.heap[g]? = some (.cells cur t (0, 0))) (hn : n = Nat.min sLen dLen) (hc : cs.length = n * k)
    (hsrc : ∀ j v, cs[j]? = some v → w.cell? (a.add j) = some v) (hfit : cs.length ≤ cur.size) (h1 : ∀ v ∈ cs, v.oneCell' = true) :
    (Builtin.copy_ #[dT, sT] ty #[.slice (some ⟨g, 0, none⟩) dLen dCap, .slice (some a) sLen sCap]).run P w =
      .ok (goInt n) (w.setRow g (cs ++ cur.toList.drop cs.length).toArray) := by
  have hl := run_loadCells_list (P := P) w a cs hsrc
  have hst := run_storeCells_at P g 0 t cs 0 cur w hg (by simpa using hfit) h1
  cases hq : P.info? elem with
  | none => simp [hq] at hs
  | some i =>
    have hi : i.size = k := by simpa [hq] using hs
    rw [hc] at hl
    simp [Builtin.copy_, run_underlying hu, Builtin.lenOf, Builtin.firstCells, sizeOf, typeInfo, hq, hi, ← hn, hl]
    rw [hst]
    simp
end Go.Proofs.YtcnkfkjgpdmebaaGreatDoor
