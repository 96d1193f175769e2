/- Contract: slices.Insert of one pair into a row of pairs. -/
import Derived.Test.YtnomibjbjplieaaGreatJC28
import Derived.Test.YtnomibjbjplieaaGreatProg
import Derived.WalkLawsBesides
import Derived.Lib.AppendZerosOnto
import Derived.Lib.Overlaps
import Derived.Laws.Externs
import Derived.Laws.NewBlocks
import Derived.Deep.RegionLaw
/- Contract: slices.Insert of one pair into a row of pairs. -/
namespace Go.Proofs.YtnomibjbjplieaaGreat
open Go.RowKit

theorem pair_info : (Tryz.prog.info? 154).map (fun i => (i.zero, i.size, i.bytes)) = some (some (.agg #[.int .i64 0, .string ⟨#[]⟩, .int .i64 0, .slice none 0 0]), 4, 56) := by kernel_rfl
theorem pair_size : (Tryz.prog.info? 154).map (·.size) = some 4 := by kernel_rfl
theorem one_prs (l : List Pr) : ∀ u ∈ l.flatMap prC.f, u.oneCell' = true := by
  intro u hu
  obtain ⟨p, -, hp⟩ := List.mem_flatMap.1 hu
  have hp' : u ∈ [.int .i64 p.v, encStr p.ty.con, .int .i64 p.ty.var, .slice p.ty.A p.ty.args.length p.ty.cap] := hp
  simp at hp'
  rcases hp' with rfl | rfl | rfl | rfl <;> rfl
theorem prs_len (l : List Pr) : (l.flatMap prC.f).length = l.length * 4 := flat_len _ _ prC.hf l
theorem prs_take (l : List Pr) (i : Nat) : (l.flatMap prC.f).take (i * 4) = (l.take i).flatMap prC.f := by
  by_cases hi : i ≤ l.length
  · have e : l.flatMap prC.f = (l.take i).flatMap prC.f ++ (l.drop i).flatMap prC.f := by rw [← List.flatMap_append, List.take_append_drop]
    have hl : ((l.take i).flatMap prC.f).length = i * 4 := by rw [prs_len, List.length_take, Nat.min_eq_left hi]
    rw [e, List.take_append_of_le_length (by omega), List.take_of_length_le (by omega)]
  · rw [List.take_of_length_le (by rw [prs_len]; omega), List.take_of_length_le (by omega)]
theorem prs_drop (l : List Pr) (i : Nat) : (l.flatMap prC.f).drop (i * 4) = (l.drop i).flatMap prC.f := flat_drop _ _ prC.hf l i
theorem insP_cells (s : List Pr) (i : Nat) (x : Pr) : (s.take i ++ x :: s.drop i).flatMap prC.f = (s.flatMap prC.f).take (i * 4) ++ (prC.f x ++ (s.flatMap prC.f).drop (i * 4)) := by
  rw [prs_take, prs_drop, List.flatMap_append, List.flatMap_cons]
theorem pr_block {w : World} {vb : Nat} {x : Pr} (h : w.heap[vb]? = some (.cells (prC.f x).toArray 154 (0, 0))) : Row w (some ⟨vb, 0, none⟩) 4 1 (prC.f x) := by
  have h1 : w.heap[vb]? = some (.cells ([x].flatMap prC.f).toArray 154 (0, 0)) := by simpa using h
  have := RowOf.block prC [x] h1
  unfold RowOf at this
  exact (by simpa using this : Row w (some ⟨vb, 0, none⟩) prC.k 1 (prC.f x))
theorem pr_src {w : World} {vb : Nat} {x : Pr} (h : w.heap[vb]? = some (.cells (prC.f x).toArray 154 (0, 0))) : ∀ j v, (prC.f x)[j]? = some v → w.cell? ((⟨vb, 0, none⟩ : Addr).add j) = some v := by
  intro j v hj
  have e : (⟨vb, 0, none⟩ : Addr).add j = ⟨vb, j, none⟩ := by unfold Addr.add; split <;> simp_all
  rw [e]
  simp only [World.cell?, h]
  simpa using hj

set_option maxRecDepth 10000 in
set_option maxHeartbeats 4000000 in
/-- At the end. -/
theorem s_ins_end (B : Nat) (v : Value) (s : List Pr) (vb : Nat) (x : Pr) (w : World) (hO : w.ownsRow B 154 4 v s.length (s.flatMap prC.f)) (hx : w.heap[vb]? = some (.cells (prC.f x).toArray 154 (0, 0))) (hB : B ≤ w.heap.size) (hl : s.length ≤ 100000) :
    Calls Tryz.prog 133 #[v, .int .i64 s.length, .slice (some ⟨vb, 0, none⟩) 1 1] w fun e w' => ∃ v', e = .returned v' ∧ w'.ownsRow B 154 4 v' (s.length + 1) (s.flatMap prC.f ++ prC.f x) ∧ Ap w v w' v' := by
  obtain ⟨i0, hi, hz0, hz1, hz2⟩ := info_parts pair_info
  have HR := hide (pr_block hx)
  have H1 : Hid (∀ u ∈ prC.f x, u.oneCell' = true) := hide (by have := one_prs [x]; simpa using this)
  have HO := hide hO
  clear hx
  generalize hcs : s.flatMap prC.f = cs at *
  have hd1 : (((s.length : Nat) : Int) == ((s.length : Nat) : Int)) = true := by simp
  have hd2 : ((1 : Int) == 0) = false := by decide
  rcases hO.2 with ⟨rfl, h0⟩ | ⟨g, cap, cur, rfl, hb, hg, hle, hmax, hsz, htk⟩
  · clear hcs
    generalize s.length = n at *
    subst h0
    go_enter Tryz.func133, Tryz.ntmps133
    go_wp2_with (at_builtin; refine wpList_append_row _ rfl _ _ 114 rfl B 154 i0 _ 4 56 Tryz.underlying114 hi hz0 hz1 hz2 rfl (by decide) (.slice none 0 0) 0 cs rfl HO.out (some ⟨vb, 0, none⟩) 1 1 (prC.f x) rfl ?c2 ?c3 ?c4 ?c5 ?c6 ?_)
    case c2 => exact HR.out
    case c3 => exact H1.out
    case c4 => unfold maxLen; omega
    case c5 => omega
    case c6 => exact hB
    intro v' w' h1 h2 h3
    have K1 := hide h1
    have K2 : Hid (Ap w (.slice none 0 0) w' v') := hide ⟨h2, h3.imp id (fun h k hk => by rw [h] at hk; injection hk with hk; omega)⟩
    clear h1 h2 h3
    go_wp2
    go_ret
    exact ⟨v', rfl, K1.out, K2.out⟩
  · clear hcs htk hsz hg
    unfold maxLen at hmax
    have hcn : cap = s.length ∨ cap ≠ s.length := by omega
    rcases hcn with hcn | hcn
    · subst hcn
      go_enter Tryz.func133, Tryz.ntmps133
      go_wp2_with (at_builtin; refine wpList_append_row _ rfl _ _ 114 rfl B 154 i0 _ 4 56 Tryz.underlying114 hi hz0 hz1 hz2 rfl (by decide) _ s.length cs rfl HO.out (some ⟨vb, 0, none⟩) 1 1 (prC.f x) rfl ?c2 ?c3 ?c4 ?c5 ?c6 ?_)
      case c2 => exact HR.out
      case c3 => exact H1.out
      case c4 => unfold maxLen; omega
      case c5 => omega
      case c6 => exact hB
      intro v' w' h1 h2 h3
      have K1 := hide h1
      have K2 : Hid (Ap w (.slice (some ⟨g, 0, none⟩) s.length s.length) w' v') := hide ⟨h2, h3.imp id (fun h k hk => by rw [h] at hk; injection hk with hk; omega)⟩
      clear h1 h2 h3
      go_wp2
      go_ret
      exact ⟨v', rfl, K1.out, K2.out⟩
    · go_enter Tryz.func133, Tryz.ntmps133
      go_wp2_with (at_builtin; refine wpList_append_row _ rfl _ _ 114 rfl B 154 i0 _ 4 56 Tryz.underlying114 hi hz0 hz1 hz2 rfl (by decide) _ s.length cs rfl HO.out (some ⟨vb, 0, none⟩) 1 1 (prC.f x) rfl ?c2 ?c3 ?c4 ?c5 ?c6 ?_)
      case c2 => exact HR.out
      case c3 => exact H1.out
      case c4 => unfold maxLen; omega
      case c5 => omega
      case c6 => exact hB
      intro v' w' h1 h2 h3
      have K1 := hide h1
      have K2 : Hid (Ap w (.slice (some ⟨g, 0, none⟩) s.length cap) w' v') := hide ⟨h2, h3.imp id (fun h k hk => by rw [h] at hk; injection hk with hk; omega)⟩
      clear h1 h2 h3
      go_wp2
      go_ret
      exact ⟨v', rfl, K1.out, K2.out⟩

theorem cells_at {w : World} {g : Nat} {cur : List Value} {t : TypeId} (h : w.heap[g]? = some (.cells cur.toArray t (0, 0))) (off : Nat) (l : List Value) (hl : ∀ j v, l[j]? = some v → cur[off + j]? = some v) : ∀ j v, l[j]? = some v → w.cell? ((⟨g, off, none⟩ : Addr).add j) = some v := by
  intro j v hj
  have e : (⟨g, off, none⟩ : Addr).add j = ⟨g, off + j, none⟩ := by unfold Addr.add; split <;> simp_all
  rw [e]
  simp only [World.cell?, h]
  simpa using hl j v hj
theorem get_drop_take {α : Type} (L cs : List α) (m a : Nat) (h : L.take m = cs) : ∀ j v, (cs.drop a)[j]? = some v → L[a + j]? = some v := by
  intro j v hj
  rw [List.getElem?_drop, ← h, List.getElem?_take] at hj
  split at hj
  · exact hj
  · cases hj

set_option maxRecDepth 10000 in
set_option maxHeartbeats 4000000 in
/-- Within, and there is no room. -/
theorem s_ins_grow (B g n i : Nat) (cs : List Value) (vb : Nat) (x : Pr) (w : World) (cur : Array Value) (hg : w.heap[g]? = some (.cells cur 154 (0, 0))) (hcl : cs.length = n * 4) (htk : cur.toList.take (n * 4) = cs) (h1c : ∀ u ∈ cs, u.oneCell' = true) (hi : i < n)
    (hx : w.heap[vb]? = some (.cells (prC.f x).toArray 154 (0, 0))) (hB : B ≤ w.heap.size) (hl : n ≤ 100000) :
    Calls Tryz.prog 133 #[.slice (some ⟨g, 0, none⟩) n n, .int .i64 i, .slice (some ⟨vb, 0, none⟩) 1 1] w fun e w' => ∃ v', e = .returned v' ∧ w'.ownsRow B 154 4 v' (n + 1) (cs.take (i * 4) ++ (prC.f x ++ cs.drop (i * 4))) ∧ Ap w (.slice (some ⟨g, 0, none⟩) n n) w' v' := by
  obtain ⟨i0, hi0, hz0, hzs, hzb⟩ := info_parts pair_info
  have hgl := lt_of_obj hg
  have hvl := lt_of_obj hx
  have hfl : (prC.f x).length = 4 := prC.hf x
  have H1 : Hid (∀ u ∈ prC.f x, u.oneCell' = true) := hide (by have := one_prs [x]; simpa using this)
  have hg' : w.heap[g]? = some (.cells cur.toList.toArray 154 (0, 0)) := by simpa using hg
  have hsrcT : ∀ j v, (cs.take (i * 4))[j]? = some v → w.cell? ((⟨g, 0, none⟩ : Addr).add j) = some v := cells_at hg' 0 _ (fun j v hj => by
    rw [Nat.zero_add]
    rw [← htk, List.getElem?_take, List.getElem?_take] at hj
    split at hj
    · split at hj
      · exact hj
      · cases hj
    · cases hj)
  have hsrcD : ∀ j v, (cs.drop (i * 4))[j]? = some v → w.cell? ((⟨g, i * 4, none⟩ : Addr).add j) = some v := cells_at hg' (i * 4) _ (get_drop_take _ _ _ _ htk)
  have hold : (Builtin.firstCells i0.size i (.slice (some ⟨g, 0, none⟩) i n)).run Tryz.prog w.drew = .ok (cs.take (i * 4)).toArray w.drew := by
    rw [hzs]
    exact run_firstCells_some w.drew 4 i ⟨g, 0, none⟩ i n (cs.take (i * 4)) (by rw [List.length_take]; omega) hsrcT
  obtain ⟨G, hG⟩ : ∃ G, G = grownCap w (n + 1) n 154 := ⟨_, rfl⟩
  obtain ⟨W1, hW1⟩ : ∃ W1, W1 = w.drew.alloc (.cells ((cs.take (i * 4)).toArray ++ Builtin.zeroCells (Value.agg #[.int .i64 0, .string ⟨#[]⟩, .int .i64 0, .slice none 0 0]).cells (n + 1 - i) ++ Builtin.zeroCells (Value.agg #[.int .i64 0, .string ⟨#[]⟩, .int .i64 0, .slice none 0 0]).cells (G - (n + 1))) 154) := ⟨_, rfl⟩
  have hGn : n + 1 ≤ G := by rw [hG]; exact grownCap_ge w _ _ _
  have hG63 : G ≤ maxLen := by rw [hG]; exact grownCap_le_maxLen w (n + 1) n 154 (by unfold maxLen; omega)
  have hrz : Hid (∀ ty, (Builtin.append_ #[114, 3] ty #[.slice (some ⟨g, 0, none⟩) i n, .int .i64 ((n : Int) + 1 - (i : Int))]).run Tryz.prog w = .ok (.slice (some ⟨w.heap.size, 0, none⟩) (n + 1) G) W1) := hide (fun ty => by
    have hik : i + (n + 1 - i) = n + 1 := by omega
    have hkk : (n : Int) + 1 - (i : Int) = ((n + 1 - i : Nat) : Int) := by omega
    have h := Lib.run_append_grow_zeros w 114 3 ty 154 i0 _ .i64 .i64 Tryz.underlying114 Tryz.underlying3 hi0 hz0 (some ⟨g, 0, none⟩) i n (cs.take (i * 4)) hold (n + 1 - i) (by omega) (by omega) (by omega) (by omega) (by rw [hzb]; omega) (by rw [hzb, hik]; exact growslice_fits (by omega) (by omega))
    rw [hik] at h
    rw [hkk, hW1, hG]
    exact h)
  obtain ⟨R, hR⟩ : ∃ R : List Value, R = cs.take (i * 4) ++ (Builtin.zeroCells (Value.agg #[.int .i64 0, .string ⟨#[]⟩, .int .i64 0, .slice none 0 0]).cells (n + 1 - i) ++ Builtin.zeroCells (Value.agg #[.int .i64 0, .string ⟨#[]⟩, .int .i64 0, .slice none 0 0]).cells (G - (n + 1))).toList := ⟨_, rfl⟩
  have hRl : R.length = G * 4 := by
    rw [hR]
    simp [Builtin.zeroCells, Value.cells]
    omega
  have hRt : R.take (i * 4) = cs.take (i * 4) := by
    rw [hR, List.take_append_of_le_length (by rw [List.length_take]; omega), List.take_of_length_le (by rw [List.length_take]; omega)]
  have hN : Hid (W1.heap[w.heap.size]? = some (.cells R.toArray 154 (0, 0))) := hide (by
    rw [hW1, hR]
    rw [at_newB w.drew _ w.heap.size rfl]
    congr 2
    apply Array.toList_inj.1
    simp)
  have X1 : Hid (Ext w W1) := hide (by rw [hW1]; exact (Ext.refl w).drew.alloc _)
  have hs1 : W1.heap.size = w.heap.size + 1 := by rw [hW1]; simp
  have HX := hide hx
  have HGG := hide hg'
  have HSD := hide hsrcD
  have HRL := hide hRl
  have HRT := hide hRt
  have HCL := hide hcl
  have H1C : Hid (∀ u ∈ cs.drop (i * 4), u.oneCell' = true) := hide (fun u hu => h1c u (List.mem_of_mem_drop hu))
  have HDL : Hid ((cs.drop (i * 4)).length = (n - i) * 4) := hide (by rw [List.length_drop, hcl]; omega)
  have hz1 : ¬ (i : Int) = (n : Int) := by omega
  have hz1' : ((i : Int) == (n : Int)) = false := by rw [beq_eq_false_iff_ne]; omega
  have hz2 : ((1 : Int) == 0) = false := by decide
  have hz3 : (n : Int) + 1 > (n : Int) := by omega
  have hni : ¬ n = i := by omega
  have hGi : ¬ G = i := by omega
  have hGi1 : ¬ G = i + 1 := by omega
  have hb1 : (0 : Int) ≤ (i : Int) + 1 := by omega
  have hb2 : (i : Int) ≤ (n : Int) + 1 := by omega
  have hb3 : (i : Int) + 1 ≤ (n : Int) + 1 := by omega
  have hb4 : (i : Int) ≤ (n : Int) := by omega
  have htn : ((i : Int) + 1).toNat = i + 1 := by omega
  have hw1 : IntKind.i64.wrap ((i : Int) + 1) = (i : Int) + 1 := by rw [IntKind.wrap_i64]; omega
  have hMx : Hid (G ≤ maxLen) := hide hG63
  obtain ⟨N, hNN⟩ : ∃ N, N = w.heap.size := ⟨_, rfl⟩
  rw [← hNN] at hrz hN
  have HNN := hide hNN
  clear hx hg hg' hsrcT hsrcD hold hG hW1 hR hRl hRt hcl htk h1c hG63 hi0 hz0 hzs hzb hNN
  go_enter Tryz.func133, Tryz.ntmps133
  go_wp2_with (first
    | (at_builtin; refine Lib.wpList_append_run _ rfl _ _ _ _ rfl _ _ rfl rfl _ _ (hrz.out _) ?_)
    | (refine wpList_copy_k rfl _ _ 114 114 rfl 154 Tryz.underlying114 4 pair_size N (i * 4) _ _ ⟨vb, 0, none⟩ _ _ rfl rfl R 154 hN.out (prC.f x) 1 ?n1 ?l1 ?s1 ?f1 H1.out ?_))
  case n1 => simp only [Nat.min_def]; split <;> omega
  case l1 => rw [hfl]
  case s1 => exact pr_src ((X1.out.heap hvl).trans HX.out)
  case f1 => rw [hfl, HRL.out]; omega
  intro w2 hG2 hB2 hz2
  have hsD : ∀ w3 : World, w2.drew = w3 → ∀ j v, (cs.drop (i * 4))[j]? = some v → w3.cell? ((⟨g, i * 4, none⟩ : Addr).add j) = some v := by
    rintro w3 rfl j v hj
    have h1 := HSD.out j v hj
    have e : (⟨g, i * 4, none⟩ : Addr).add j = ⟨g, i * 4 + j, none⟩ := by unfold Addr.add; split <;> simp_all
    rw [e] at h1 ⊢
    refine (World.cell?_of_block ?_).trans h1
    show w2.heap[g]? = _
    rw [hB2.out.block g (by omega) (fun e => by have := HNN.out; injection e with e; omega), X1.out.heap hgl]
  have HsD := hide (hsD _ rfl)
  clear hsD
  have hG2' : Hid (w2.drew.heap[N]? = some (.cells (splice R (i * 4) (prC.f x)).toArray 154 (0, 0))) := hG2
  have hsl : (splice R (i * 4) (prC.f x)).length = R.length := length_splice _ _ _ (by rw [hfl, HRL.out]; omega)
  have Hsl := hide hsl
  clear hsl
  go_wp2
  have hn3 : n - i = Nat.min (n - i) (n + 1 - (i + 1)) := by simp only [Nat.min_def]; split <;> omega
  have hf3 : (i + 1) * 4 + (cs.drop (i * 4)).length ≤ (splice R (i * 4) (prC.f x)).length := by rw [Hsl.out, HRL.out, HDL.out]; omega
  have HN3 := hide hn3
  have HF3 := hide hf3
  clear hn3 hf3
  go_region_law (refine step_copy_k rfl _ _ 114 114 rfl 154 Tryz.underlying114 4 pair_size N ((i + 1) * 4) (n + 1 - (i + 1)) (G - (i + 1)) ⟨g, i * 4, none⟩ (n - i) (n - i) (by simp [Act.eval, Act.put]) (by simp [Act.eval, Act.put]) (splice R (i * 4) (prC.f x)) 154 hG2'.out (cs.drop (i * 4)) (n - i) HN3.out HDL.out HsD.out HF3.out H1C.out ?_; intro w3 hG3 hB3 hz3)
  have X3 : Hid (Ext w w3) := hide (((X1.out.grown hB2.out (fun k e => by have := HNN.out; injection e with e; omega)).drew).grown hB3.out (fun k e => by have := HNN.out; injection e with e; omega))
  have hO : Hid (w3.ownsRow B 154 4 (.slice (some ⟨N, 0, none⟩) (n + 1) G) (n + 1) (cs.take (i * 4) ++ (prC.f x ++ cs.drop (i * 4)))) := hide (by
    have e4 : (i + 1) * 4 = i * 4 + 4 := by omega
    have hG := hG3.out
    rw [e4] at hG
    have hdl := HDL.out
    have hrl := HRL.out
    obtain ⟨k1, k2⟩ := splice_in R (prC.f x) (cs.drop (i * 4)) (i * 4) 4 ((n - i) * 4) hfl hdl (by omega)
    have e5 : i * 4 + 4 + (n - i) * 4 = (n + 1) * 4 := by omega
    rw [e5, HRT.out] at k2
    refine ⟨?_, .inr ⟨N, G, _, rfl, by have := HNN.out; omega, hG, hGn, hMx.out, ?_, ?_⟩⟩
    · rw [← k2, List.length_take, k1, hrl]; omega
    · simpa [hrl] using k1
    · simpa using k2)
  clear hG2 hG2' hG3 hB2 hB3 HsD
  go_wp2
  go_ret
  exact ⟨_, rfl, hO.out, ext_grown X3.out _, .inr (fun k hk => by have := HNN.out; injection hk with hk; have hk : N = k := hk; omega)⟩

set_option maxRecDepth 10000 in
set_option maxHeartbeats 4000000 in
/-- Within, and there is room. -/
theorem s_ins_shift (B g n cap i : Nat) (cs : List Value) (vb : Nat) (x : Pr) (w : World) (cur : Array Value) (hg : w.heap[g]? = some (.cells cur 154 (0, 0))) (hcl : cs.length = n * 4) (htk : cur.toList.take (n * 4) = cs) (hsz : cur.size = cap * 4) (h1c : ∀ u ∈ cs, u.oneCell' = true) (hi : i < n) (hroom : n + 1 ≤ cap) (hmax : cap ≤ maxLen)
    (hx : w.heap[vb]? = some (.cells (prC.f x).toArray 154 (0, 0))) (hne : vb ≠ g) (hB : B ≤ g) (hl : n ≤ 100000) :
    Calls Tryz.prog 133 #[.slice (some ⟨g, 0, none⟩) n cap, .int .i64 i, .slice (some ⟨vb, 0, none⟩) 1 1] w fun e w' => ∃ v', e = .returned v' ∧ w'.ownsRow B 154 4 v' (n + 1) (cs.take (i * 4) ++ (prC.f x ++ cs.drop (i * 4))) ∧ Ap w (.slice (some ⟨g, 0, none⟩) n cap) w' v' := by
  have hgl := lt_of_obj hg
  have hvl := lt_of_obj hx
  have hfl : (prC.f x).length = 4 := prC.hf x
  have H1 : Hid (∀ u ∈ prC.f x, u.oneCell' = true) := hide (by have := one_prs [x]; simpa using this)
  have hg' : w.heap[g]? = some (.cells cur.toList.toArray 154 (0, 0)) := by simpa using hg
  have hsrcD : ∀ j v, (cs.drop (i * 4))[j]? = some v → w.cell? ((⟨g, i * 4, none⟩ : Addr).add j) = some v := cells_at hg' (i * 4) _ (get_drop_take _ _ _ _ htk)
  have hcul : cur.toList.length = cap * 4 := by simpa using hsz
  have hsa : w.shape? vb = some (154, 4) := by simp [World.shape?, hx, hfl]
  have hsb : w.shape? g = some (154, cap * 4) := by simp [World.shape?, hg, hsz]
  have hov : ∀ lb cb, (callFunc 159 #[.slice (some ⟨vb, 0, none⟩) 1 1, .slice (some ⟨g, (i + 1) * 4, none⟩) lb cb]).run Tryz.prog w = .ok (.value (.bool false)) w := fun lb cb => by
    rw [run_callFunc_extern Tryz.func159 (by kernel_rfl) (by kernel_rfl) (by kernel_rfl) (e := Extern.SlicesOverlaps.overlaps #[114, 114] #[4]) (by kernel_rfl),
      Lib.run_overlaps_apart w 114 4 154 Tryz.underlying114 4 Tryz.sizeOf154 ⟨vb, 0, none⟩ ⟨g, (i + 1) * 4, none⟩ 1 1 lb cb hne 154 154 4 (cap * 4) hsa hsb (by omega) (by simp [World.frozen?, hx]) (by simp [World.frozen?, hx])]
    rfl
  have HX := hide hx
  have HGG := hide hg'
  have HSD := hide hsrcD
  have HCL := hide hcl
  have HCU := hide hcul
  have HTK := hide htk
  have H1C : Hid (∀ u ∈ cs.drop (i * 4), u.oneCell' = true) := hide (fun u hu => h1c u (List.mem_of_mem_drop hu))
  have HDL : Hid ((cs.drop (i * 4)).length = (n - i) * 4) := hide (by rw [List.length_drop, hcl]; omega)
  have hz1' : ((i : Int) == (n : Int)) = false := by rw [beq_eq_false_iff_ne]; omega
  have hz1 : ¬ (i : Int) = (n : Int) := by omega
  have hz2 : ((1 : Int) == 0) = false := by decide
  have hz3 : ¬ (n : Int) + 1 > (cap : Int) := by omega
  have hmx : cap ≤ 9223372036854775807 := hmax
  have hci : ¬ cap = i := by omega
  have hci1 : ¬ cap = i + 1 := by omega
  have hb1 : (0 : Int) ≤ (i : Int) + 1 := by omega
  have hb0 : (0 : Int) ≤ (n : Int) + 1 := by omega
  have hb2 : (i : Int) ≤ (n : Int) + 1 := by omega
  have hb3 : (i : Int) + 1 ≤ (n : Int) + 1 := by omega
  have hb4 : (i : Int) ≤ (n : Int) := by omega
  have hb5 : (n : Int) + 1 ≤ (cap : Int) := by omega
  have htn : ((i : Int) + 1).toNat = i + 1 := by omega
  have htn2 : ((n : Int) + 1).toNat = n + 1 := by omega
  have hw1 : IntKind.i64.wrap ((i : Int) + 1) = (i : Int) + 1 := by rw [IntKind.wrap_i64]; omega
  have hn3 : n - i = Nat.min (n + 1 - i) (n + 1 - (i + 1)) := by simp only [Nat.min_def]; split <;> omega
  have hf3 : (i + 1) * 4 + (cs.drop (i * 4)).length ≤ cur.toList.length := by rw [hcul, HDL.out]; omega
  have HN3 := hide hn3
  have HF3 := hide hf3
  have HMX := hide hmax
  have HRM := hide hroom
  have HsD : Hid (∀ j v, (cs.drop (i * 4))[j]? = some v → w.drew.cell? ((⟨g, i * 4, none⟩ : Addr).add j) = some v) := hide hsrcD
  have HGd : Hid (w.drew.heap[g]? = some (.cells cur.toList.toArray 154 (0, 0))) := hide hg'
  clear hx hg hg' hsrcD hcul hsa hsb hcl htk hsz h1c hn3 hf3 hmax hroom
  go_enter Tryz.func133, Tryz.ntmps133
  go_wp2_with (simp only [hov])
  go_region_law (refine step_copy_k rfl _ _ 114 114 rfl 154 Tryz.underlying114 4 pair_size g ((i + 1) * 4) (n + 1 - (i + 1)) (cap - (i + 1)) ⟨g, i * 4, none⟩ (n + 1 - i) (cap - i) (by simp [Act.eval, Act.put]) (by simp [Act.eval, Act.put]) cur.toList 154 HGd.out (cs.drop (i * 4)) (n - i) HN3.out HDL.out HsD.out HF3.out H1C.out ?_; intro w3 hG3 hB3 hz4)
  have HS4 : Hid (∀ j v, (prC.f x)[j]? = some v → w3.cell? ((⟨vb, 0, none⟩ : Addr).add j) = some v) := hide (pr_src ((hB3.out.block vb hvl (fun e => by injection e with e; omega)).trans HX.out))
  have hs1 : (splice cur.toList ((i + 1) * 4) (cs.drop (i * 4))).length = cap * 4 := by rw [length_splice _ _ _ HF3.out, HCU.out]
  have HS1 := hide hs1
  clear hs1
  go_wp2_with (refine wpList_copy_k rfl _ _ 114 114 rfl 154 Tryz.underlying114 4 pair_size g (i * 4) _ _ ⟨vb, 0, none⟩ _ _ rfl rfl (splice cur.toList ((i + 1) * 4) (cs.drop (i * 4))) 154 hG3.out (prC.f x) 1 ?n1 ?l1 HS4.out ?f1 H1.out ?_)
  case n1 => simp only [Nat.min_def]; split <;> omega
  case l1 => rw [hfl]
  case f1 => rw [hfl, HS1.out]; have := HRM.out; omega
  intro w5 hG5 hB5 hz5
  have hO : Hid (w5.ownsRow B 154 4 (.slice (some ⟨g, 0, none⟩) (n + 1) cap) (n + 1) (cs.take (i * 4) ++ (prC.f x ++ cs.drop (i * 4)))) := hide (by
    have e4 : (i + 1) * 4 = i * 4 + 4 := by omega
    have hG := hG5.out
    rw [e4] at hG
    have hdl := HDL.out
    have hcu := HCU.out
    have hrm := HRM.out
    obtain ⟨k1, k2⟩ := splice_shift cur.toList (prC.f x) (cs.drop (i * 4)) (i * 4) 4 ((n - i) * 4) hfl hdl (by omega)
    have e5 : i * 4 + 4 + (n - i) * 4 = (n + 1) * 4 := by omega
    have e6 : cur.toList.take (i * 4) = cs.take (i * 4) := by rw [← HTK.out, List.take_take, Nat.min_eq_left (by omega)]
    rw [e5, e6] at k2
    refine ⟨?_, .inr ⟨g, cap, _, rfl, hB, hG, hrm, HMX.out, ?_, ?_⟩⟩
    · rw [← k2, List.length_take, k1, hcu]; omega
    · simpa [hcu] using k1
    · simpa using k2)
  have hgr : Hid (w.grownBy w5 (some g)) := hide (grown_trans (grown_trans (⟨rfl, rfl, rfl, Nat.le_refl _, fun _ _ _ => rfl⟩ : w.grownBy w.drew (some g)) hB3.out) hB5.out)
  clear hG3 hB3 hG5 hB5
  go_wp2
  go_ret
  exact ⟨_, rfl, hO.out, hgr.out, .inl rfl⟩

/-- slices.Insert of one pair. -/
theorem s_insert (B : Nat) (v : Value) (s : List Pr) (i vb : Nat) (x : Pr) (w : World) (hO : w.ownsRow B 154 4 v s.length (s.flatMap prC.f)) (hi : i ≤ s.length) (hx : w.heap[vb]? = some (.cells (prC.f x).toArray 154 (0, 0))) (hne : v.ownBlock ≠ some vb) (hB : B ≤ w.heap.size) (hl : s.length ≤ 100000) :
    Calls Tryz.prog 133 #[v, .int .i64 i, .slice (some ⟨vb, 0, none⟩) 1 1] w fun e w' => ∃ v', e = .returned v' ∧ w'.ownsRow B 154 4 v' (s.length + 1) ((s.take i ++ x :: s.drop i).flatMap prC.f) ∧ Ap w v w' v' := by
  rcases Nat.lt_or_ge i s.length with hlt | hge
  · rw [insP_cells]
    rcases hO.2 with ⟨-, h0⟩ | ⟨g, cap, cur, rfl, hb, hg, hle, hmax, hsz, htk⟩
    · omega
    · rcases Nat.lt_or_ge s.length cap with hc | hc
      · exact s_ins_shift B g s.length cap i _ vb x w cur hg (prs_len s) htk hsz (one_prs s) hlt hc hmax hx (fun e => hne (by rw [e]; rfl)) hb hl
      · obtain rfl : cap = s.length := by omega
        exact s_ins_grow B g s.length i _ vb x w cur hg (prs_len s) htk (one_prs s) hlt hx hB hl
  · obtain rfl : i = s.length := by omega
    have e : (s.take s.length ++ x :: s.drop s.length).flatMap prC.f = s.flatMap prC.f ++ prC.f x := by
      rw [List.take_length, List.drop_length, List.flatMap_append, List.flatMap_cons, List.flatMap_nil, List.append_nil]
    rw [e]
    exact s_ins_end B v s vb x w hO hx hB hl

end Go.Proofs.YtnomibjbjplieaaGreat

/- Contract: a type in new memory (subst's); of the program. -/
namespace Go.Proofs.YtnomibjbjplieaaGreat
open Go.RowKit

/-- Is this type that one, in memory of its own? -/
structure CpOk (w w' : World) (t u : Ty) : Prop where
  ty : TyIn w' u
  is : u.pure = t.pure
  away : ∀ c, c < w.heap.size → awayB c u = true
theorem CpOk.ext {w w' w2 : World} {t u : Ty} (h : CpOk w w' t u) (e : Ext w' w2) : CpOk w w2 t u := ⟨h.ty.ext e, h.is, h.away⟩
theorem CpOk.old {w w1 w' : World} {t u : Ty} (h : CpOk w1 w' t u) (hs : w.heap.size ≤ w1.heap.size) : CpOk w w' t u := ⟨h.ty, h.is, fun c hc => h.away c (by omega)⟩
/-- Some args that have been copied, away from the blocks that are written meanwhile. -/
structure CpsOk (w w' : World) (R : Nat → Prop) (l us : List Ty) : Prop where
  len : us.length = l.length
  ty : ∀ u ∈ us, TyIn w' u
  is : us.map Ty.pure = l.map Ty.pure
  row : ∀ u ∈ us, ∀ c, R c → awayB c u = true
  away : ∀ u ∈ us, ∀ c, c < w.heap.size → awayB c u = true
section
variable {w w1 w2 w' : World} {R : Nat → Prop} {l us : List Ty} {t u : Ty}
theorem CpsOk.nil (w w' : World) (R : Nat → Prop) : CpsOk w w' R [] [] := ⟨rfl, by simp, rfl, by simp, by simp⟩
theorem CpsOk.ext (h : CpsOk w w1 R l us) (e : Ext w1 w2) : CpsOk w w2 R l us := ⟨h.len, fun u hu => (h.ty u hu).ext e, h.is, h.row, h.away⟩
theorem CpsOk.grown (h : CpsOk w w1 R l us) {row : Option Nat} (hg : w1.grownBy w2 row) (hr : ∀ c, row = some c → R c) : CpsOk w w2 R l us :=
  ⟨h.len, fun u hu => (h.ty u hu).grown hg (fun c e => h.row u hu c (hr c e)), h.is, h.row, h.away⟩
theorem CpsOk.snoc (h : CpsOk w w1 R l us) (k : CpOk w1 w2 t u) (he : Ext w1 w2) (hs : w.heap.size ≤ w1.heap.size) (hr : ∀ c, R c → c < w1.heap.size) : CpsOk w w2 R (l ++ [t]) (us ++ [u]) := by
  refine ⟨by simp [h.len], fun x hx => ?_, by rw [List.map_append, List.map_append, h.is]; simp [k.is], fun x hx c hc => ?_, fun x hx c hc => ?_⟩
  · rcases List.mem_append.1 hx with hx | hx
    · exact (h.ty x hx).ext he
    · rw [List.mem_singleton] at hx; subst hx; exact k.ty
  · rcases List.mem_append.1 hx with hx | hx
    · exact h.row x hx c hc
    · rw [List.mem_singleton] at hx; subst hx
      exact k.away c (hr c hc)
  · rcases List.mem_append.1 hx with hx | hx
    · exact h.away x hx c hc
    · rw [List.mem_singleton] at hx; subst hx
      exact k.away c (by omega)
theorem CpsOk.done {A : Option Addr} {cap : Nat} (h : CpsOk w w' R t.args us) (htx : t.con.length ≤ 9223372036854775807)
    (h1 : us.length ≤ cap) (h2 : cap ≤ 9223372036854775807) (h3 : RowOf tyC w' A us) (hA : us ≠ [] → ∀ a, A = some a → w.heap.size ≤ a.block) : CpOk w w' t (.mk t.con t.var A cap us) where
  ty := TyIn.of h1 h2 htx h3 h.ty
  is := by rw [Ty.pure_eq t, ← h.is, Ty.pure_eq]; rfl
  away c hlt := awayB_mk (fun hn a ha => by have := hA hn a ha; omega) (fun u hu => h.away u hu c hlt)
end

set_option maxRecDepth 10000 in
set_option maxHeartbeats 4000000 in
theorem s_copied (t : Ty) : ∀ (w : World), TyIn w t → t.size ≤ 100000 →
    Calls Tryz.prog 134 #[tyV t] w fun e w' => (∃ u, e = .returned (tyV u) ∧ CpOk w w' t u) ∧ Ext w w' := by
  induction t using Ty.ind with
  | h t ih =>
  intro w h hsz
  obtain ⟨W, hW⟩ : ∃ W, W = (w.alloc (.cells #[encStr t.con, .int .i64 t.var, .slice t.A t.args.length t.cap] 32)).alloc (.cells #[.string ⟨#[]⟩, .int .i64 0, .slice none 0 0] 32) := ⟨_, rfl⟩
  have HW := hide hW.symm
  have X0 : Hid (Ext w W) := hide (by rw [hW]; exact ((Ext.refl _).alloc _).alloc _)
  have B1 : Hid (TBox W w.heap.size t) := hide (by rw [hW]; exact (TBox.new w t).ext ((Ext.refl _).alloc _))
  have B2 : Hid (W.heap[w.heap.size + 1]? = some (.cells #[.string ⟨#[]⟩, .int .i64 0, .slice none 0 0] 32 (0, 0))) := hide (by rw [hW]; exact at_newB _ _ _ (by simp))
  have H := hide h
  have IH := hide ih
  have hle := h.le
  have hmx := h.max
  have hlen := t.args_len
  clear h hW ih
  unfold tyV at *
  have hmk := make_zeros t.args.length (by omega) W
  have hs := X0.out.size
  have hWs : W.heap.size = w.heap.size + 2 := by rw [← HW.out]; simp
  obtain ⟨W1, hW1⟩ : ∃ W1, W1 = W.alloc (.cells (zerosT t.args.length) 32) := ⟨_, rfl⟩
  have X1 : Hid (Ext W W1) := hide (by rw [hW1]; exact (Ext.refl _).alloc _)
  have B3 : Hid (W1.heap[w.heap.size + 2]? = some (.cells (rowT [] t.args.length) 32 (0, 0))) := hide (by rw [hW1]; exact at_newB _ _ _ hWs.symm)
  rw [hWs, ← hW1] at hmk
  clear hW1
  have c0 := B1.out.c0
  have c1 := B1.out.c1
  have c2 := B1.out.c2
  have c2' := (B1.out.ext X1.out).c2
  go_enter Tryz.func134, Tryz.ntmps134
  go_upto_region 1 with fail
  rw [HW.out]
  go_wp2
  go_loopw [13] (fun i wr => ∃ (k : Nat) (us : List Ty), k ≤ t.args.length ∧ i = .int .i64 k ∧ Hid (Ext W wr) ∧ Hid (wr.heap[w.heap.size + 2]? = some (.cells (rowT us (t.args.length - k)) 32 (0, 0))) ∧ Hid (CpsOk w wr (fun c => w.heap.size ≤ c ∧ c < w.heap.size + 3) (t.args.take k) us)) (fun i _ => t.args.length - (intOf i).toNat)
  case atStart => exact ⟨0, [], Nat.zero_le _, rfl, X1, B3, hide (CpsOk.nil _ _ _)⟩
  case round =>
    obtain ⟨k, us, hk, rfl, HX, HR, HP⟩ := hrel
    have hul : us.length = k := by have := HP.out.len; rw [List.length_take] at this; omega
    by_cases hlt : k < t.args.length
    · have hlt' : (k : Int) < (t.args.length : Int) := by omega
      have hk0 : (0 : Int) ≤ (k : Int) := by omega
      have XR := hide (X0.out.trans HX.out)
      obtain ⟨b, o, hA, hb, q0, q1, q2⟩ := (H.out.all.ext XR.out).at_ hlt
      have hkm := List.getElem_mem hlt
      have HIH := hide (fun w' (e : Ext w w') => hide (IH.out _ hkm w' ((H.out.all.args _ hkm).ext e) (by have := Ty.size_arg hkm; omega)))
      have Hx := hide (H.out.all.args _ hkm)
      have Htk : Hid (t.args.take (k + 1) = t.args.take k ++ [t.args[k]'hlt]) := hide (List.take_succ_eq_append_getElem hlt)
      obtain ⟨m, hm⟩ : ∃ m, t.args.length - k = m + 1 := ⟨t.args.length - k - 1, by omega⟩
      have hm2 : t.args.length - (k + 1) = m := by omega
      rw [hm] at HR
      generalize t.args[k]'hlt = x at *
      have hsz3 : w.heap.size + 3 ≤ wr.heap.size := by have := lt_of_obj HR.out; omega
      clear hkm
      rw [hA]
      clear hA
      go_wp2_with fail
      refine (HIH.out _ (XR.out.trans ((Ext.refl _).alloc _))).out.mono ?_
      rintro e w3 ⟨⟨u, rfl, hu⟩, hx3⟩
      have E3 := ((Ext.refl wr).alloc (.cells #[encStr x.con, .int .i64 x.var, .slice x.A x.args.length x.cap] 32)).trans hx3
      have HR3 := hide ((E3.heap (lt_of_obj HR.out)).trans HR.out)
      have HP3 : Hid (CpsOk w w3 (fun c => w.heap.size ≤ c ∧ c < w.heap.size + 3) (t.args.take (k + 1)) (us ++ [u])) := hide (by
        rw [Htk.out]
        exact (HP.out.ext ((Ext.refl wr).alloc (.cells #[encStr x.con, .int .i64 x.var, .slice x.A x.args.length x.cap] 32))).snoc hu hx3 (by simp; omega) (fun c hc => by simp; omega))
      have X3 := hide (HX.out.trans E3)
      have HRn := hide (put3 u HR3.out)
      have HPn := hide (HP3.out.grown (put3_grown w3 (w.heap.size + 2) (us.length * 3) (us.length * 3 + 1) (us.length * 3 + 2) (encStr u.con) (.int .i64 u.var) (.slice u.A u.args.length u.cap)) (fun c e => by injection e with e; omega))
      have Xn : Hid (Ext W (((w3.setCell ⟨w.heap.size + 2, us.length * 3, none⟩ (encStr u.con)).setCell ⟨w.heap.size + 2, us.length * 3 + 1, none⟩ (.int .i64 u.var)).setCell ⟨w.heap.size + 2, us.length * 3 + 2, none⟩ (.slice u.A u.args.length u.cap))) := hide (((X3.out.setCell (by simp; omega) _).setCell (by simp; omega) _).setCell (by simp; omega) _)
      have f0 := free_block HR3.out (us.length * 3)
      have f1 := free_block HR3.out (us.length * 3 + 1)
      have f2 := free_block HR3.out (us.length * 3 + 2)
      have k0 := (bytes_block HR3.out (us.length * 3)).trans (row_at3 us m).1
      have k1 := (bytes_block HR3.out (us.length * 3 + 1)).trans (row_at3 us m).2.1
      have k2 := (bytes_block HR3.out (us.length * 3 + 2)).trans (row_at3 us m).2.2
      rw [hul] at f0 f1 f2 k0 k1 k2 HRn HPn Xn
      clear E3 hx3 hu HR3 HP3
      go_wp2
      go_roundw
      case rel => exact ⟨k + 1, us ++ [u], hlt, by go_num, Xn, hide (by rw [hm2]; exact HRn.out), HPn⟩
      case measure => simp [intOf]; omega
    · have hge : ¬ (k : Int) < (t.args.length : Int) := by omega
      have hkn : k = t.args.length := by omega
      have HRd : Hid (wr.heap[w.heap.size + 2]? = some (.cells (us.flatMap tyC.f).toArray 32 (0, 0))) := hide (by have := HR.out; rw [hkn, Nat.sub_self, row_done] at this; exact this)
      have HPd : Hid (CpsOk w wr (fun c => w.heap.size ≤ c ∧ c < w.heap.size + 3) t.args us) := hide (by have := HP.out; rwa [List.take_of_length_le (by omega)] at this)
      have C1 := hide (B1.out.ext HX.out)
      have C2 := hide ((HX.out.heap (lt_of_obj B2.out)).trans B2.out)
      have hun : us.length = t.args.length := by omega
      clear HR HP hkn
      have g1 := C1.out.c0
      have g2 := C1.out.c1
      have g3 := C1.out.c2
      have fb := C1.out.free 2
      have f0 := free_block C2.out 0
      have f1 := free_block C2.out 1
      have f2 := free_block C2.out 2
      have k0 := bytes_block C2.out 0
      have k1 := bytes_block C2.out 1
      have k2 := bytes_block C2.out 2
      simp only [List.getElem?_toArray, List.getElem?_cons_zero, List.getElem?_cons_succ] at k0 k1 k2
      obtain ⟨U, hU⟩ : ∃ U : Ty, U = .mk t.con t.var (some ⟨w.heap.size + 2, 0, none⟩) t.args.length us := ⟨_, rfl⟩
      obtain ⟨WF, hWF⟩ : ∃ WF, WF = (((wr.setCell ⟨w.heap.size, 2, none⟩ (.slice (some ⟨w.heap.size + 2, 0, none⟩) t.args.length t.args.length)).setCell ⟨w.heap.size + 1, 0, none⟩ (encStr t.con)).setCell ⟨w.heap.size + 1, 1, none⟩ (.int .i64 t.var)).setCell ⟨w.heap.size + 1, 2, none⟩ (.slice (some ⟨w.heap.size + 2, 0, none⟩) t.args.length t.args.length) := ⟨_, rfl⟩
      have XF : Hid (Ext w WF) := hide (by rw [hWF]; exact (((( X0.out.trans HX.out).setCell (by simp) _).setCell (by simp) _).setCell (by simp) _).setCell (by simp) _)
      have PF : Hid (CpOk w WF t U) := hide (by
        have h1 := (HPd.out.grown (grown_cell wr w.heap.size 2 (.slice (some ⟨w.heap.size + 2, 0, none⟩) t.args.length t.args.length)) (fun c e => by injection e with e; omega)).grown (put3_grown _ (w.heap.size + 1) 0 1 2 (encStr t.con) (.int .i64 t.var) (.slice (some ⟨w.heap.size + 2, 0, none⟩) t.args.length t.args.length)) (fun c e => by injection e with e; omega)
        rw [hU]
        rw [← hWF] at h1
        have hblk : WF.heap[w.heap.size + 2]? = some (.cells (us.flatMap tyC.f).toArray 32 (0, 0)) := by
          rw [hWF, Below.heap_setCell _ _ _ _ (by simp), Below.heap_setCell _ _ _ _ (by simp), Below.heap_setCell _ _ _ _ (by simp), Below.heap_setCell _ _ _ _ (by simp)]
          exact HRd.out
        exact h1.done H.out.txt (by omega) (by omega) (RowOf.block tyC us hblk) (fun _ a e => by injection e with e; subst e; show w.heap.size ≤ w.heap.size + 2; omega))
      have hUv : tyV U = .agg #[encStr t.con, .int .i64 t.var, .slice (some ⟨w.heap.size + 2, 0, none⟩) t.args.length t.args.length] := by rw [hU]; unfold tyV; show Value.agg #[_, _, .slice _ us.length _] = _; rw [hun]; rfl
      clear HRd HPd hU
      go_wp2
      rw [← hWF]
      refine bodyPost_ret (v := .agg #[encStr t.con, .int .i64 t.var, .slice (some ⟨w.heap.size + 2, 0, none⟩) t.args.length t.args.length]) ?_ rfl ⟨⟨U, by rw [← hUv]; rfl, PF.out⟩, XF.out⟩
      rw [hWF]
      simp [results, Tryz.f134, go_sem, k0, k1, k2]

end Go.Proofs.YtnomibjbjplieaaGreat
