/- Contract: the groups of a graph, in order, which are own, and apart. -/
import Derived.Test.YtbfggmeppakcgaaGreatJA19
/- Contract: the groups of a graph, in order, which are own, and apart. -/
namespace Go.Proofs.YtbfggmeppakcgaaGreat
open Go.RowKit

/-- Groups in memory: own, and apart. -/
structure GrpsOf (tos int : TypeId) (base : Nat) (w : World) (A : Option Addr) (gs : List (List Nat)) (out : List SlV) : Prop where
  is : out.map (·.l) = gs.map zs
  row : RowOf slvC w A out
  ge : ∀ a, A = some a → base ≤ a.block
  own : ∀ i (h : i < out.length), w.ownsRow base int 1 (out[i]'h).val (out[i]'h).l.length ((out[i]'h).l.map (Value.int .i64))
  dis : ∀ i j (hi : i < out.length) (hj : j < out.length), i ≠ j → (out[i]'hi).val.ownBlock = (out[j]'hj).val.ownBlock → (out[i]'hi).val.ownBlock = none
  nb : ∀ i (h : i < out.length) a, A = some a → (out[i]'h).val.ownBlock ≠ some a.block
def GrpsO (tos int : TypeId) (base : Nat) (w : World) (A : Option Addr) (gs : List (List Nat)) : Prop := ∃ out, GrpsOf tos int base w A gs out
/-- Some of them, each once, all told. -/
def Picks (tm : List SlV) (told : Nat → Bool) (out : List SlV) : Prop := ∃ qs : List Nat, out = qs.map (fun q => tm.getD q ⟨undef, []⟩) ∧ qs.Nodup ∧ ∀ q ∈ qs, q < tm.length ∧ told q = true
theorem Picks.start (tm : List SlV) (told : Nat → Bool) : Picks tm told [] := ⟨[], rfl, List.nodup_nil, by simp⟩
theorem Picks.more {tm : List SlV} {told : Nat → Bool} {out : List SlV} (h : Picks tm told out) {q : Nat} (hq : q < tm.length) (ht : told q = false) : Picks tm (tell told q) (out ++ [tm[q]'hq]) := by
  obtain ⟨qs, rfl, h2, h3⟩ := h
  refine ⟨qs ++ [q], by simp [List.getElem?_eq_getElem hq], ?_, fun x hx => ?_⟩
  · rw [List.nodup_append]
    refine ⟨h2, by simp, fun a ha b hb => ?_⟩
    rw [List.mem_singleton] at hb
    subst hb
    intro e
    subst e
    have := (h3 a ha).2
    rw [ht] at this
    cases this
  · rcases List.mem_append.1 hx with hx | hx
    · exact ⟨(h3 x hx).1, by unfold tell; rw [(h3 x hx).2]; rfl⟩
    · rw [List.mem_singleton] at hx
      subst hx
      exact ⟨hq, by unfold tell; simp⟩
theorem own_monoG {w : World} {base base' : Nat} {e : TypeId} {size : Nat} {v : Value} {n : Nat} {xs : List Value} (h : w.ownsRow base e size v n xs) (hb : base' ≤ base) : w.ownsRow base' e size v n xs := by
  rcases h with ⟨h1, h2 | ⟨g, cap, cur, he, hg, h3⟩⟩
  · exact ⟨h1, .inl h2⟩
  · exact ⟨h1, .inr ⟨g, cap, cur, he, Nat.le_trans hb hg, h3⟩⟩
theorem GrpsO.of {tos int ty2 : TypeId} {base B b c1 : Nat} {w : World} {tm out : List SlV} {told : Nat → Bool} {AO : Option Addr} {cO : Nat} {gs : List (List Nat)}
    (T : TosI tos int B w b tm) (P : Picks tm told out) (hO : w.ownsRow c1 ty2 1 (.slice AO out.length cO) out.length (out.map (·.val))) (hi : out.map (·.l) = gs.map zs) (hB : base ≤ B) (hb1 : base ≤ c1) (hc : ∀ i (h : i < tm.length) k, (tm[i]'h).val.ownBlock = some k → k < c1) : GrpsO tos int base w AO gs := by
  obtain ⟨qs, rfl, h2, h3⟩ := P
  have hg : ∀ i (h : i < (qs.map (fun q => tm.getD q ⟨undef, []⟩)).length), ∃ h1 : i < qs.length, ∃ h4 : qs[i]'h1 < tm.length, (qs.map (fun q => tm.getD q ⟨undef, []⟩))[i]'h = tm[qs[i]'h1]'h4 := fun i h => by
    have h1 : i < qs.length := by simpa using h
    have h4 := (h3 _ (List.getElem_mem h1)).1
    exact ⟨h1, h4, by rw [List.getElem_map, List.getD_eq_getElem?_getD, List.getElem?_eq_getElem h4]; rfl⟩
  obtain ⟨A9, c9, e1, _, _, e4, e5⟩ := RowOf.own slvC (e := ty2) (l := qs.map (fun q => tm.getD q ⟨undef, []⟩)) (w := w) (base := c1) (v := .slice AO (qs.map (fun q => tm.getD q ⟨undef, []⟩)).length cO) (by
    show World.ownsRow _ _ _ _ _ _ ((qs.map (fun q => tm.getD q ⟨undef, []⟩)).flatMap fun s => [s.val])
    rw [flat_one]
    exact hO)
  injection e1 with e1
  subst e1
  have hblk : ∀ a, AO = some a → c1 ≤ a.block := fun a ha => by
    subst ha
    rcases hO.2 with ⟨h0, -⟩ | ⟨g, cap, cur, h0, hb, -⟩
    · cases h0
    · injection h0 with h0 _ _
      injection h0 with h0
      subst h0
      exact hb
  refine ⟨_, hi, e4, fun a ha => ?_, fun i h => ?_, fun i j hi hj hne he => ?_, fun i h a ha he => ?_⟩
  · have := hblk a ha
    omega
  · obtain ⟨h1, h4, e⟩ := hg i h
    rw [e]
    exact own_monoG (T.own _ h4) hB
  · obtain ⟨h1, h4, e⟩ := hg i hi
    obtain ⟨h1', h4', e'⟩ := hg j hj
    rw [e, e'] at he
    rw [e]
    refine T.dis _ _ h4 h4' (fun e9 => hne ?_) he
    exact (List.getElem_inj h2).1 e9
  · obtain ⟨h1, h4, e⟩ := hg i h
    rw [e] at he
    have := hc _ h4 _ he
    have := hblk a ha
    omega

set_option maxRecDepth 100000 in
set_option maxHeartbeats 8000000 in
theorem g_groupsO (n : Nat) (A : Option Addr) (cap : Nat) (es : List Edge) (w : World) (h : Edges w A es) (hg : graphOk n es = true) (hlen : es.length ≤ 100000) (m : Nat → Nat → Bool) (hm : ∀ i j, i < n → (m i j = true ↔ SR (nextN es) i j)) :
    Calls Tryz.prog 17 #[.int .i64 n, .slice A es.length cap] w fun e w' => (∃ A' cap', e = .returned (.tuple #[.slice A' (groupsOf n m).length cap', .int .i64 0]) ∧ (groupsOf n m).length ≤ cap' ∧ cap' ≤ 9223372036854775807 ∧ GrpsO 30 3 w.heap.size w' A' (groupsOf n m)) ∧ Ext w w' := by
  obtain ⟨i0, hi, hz0, hz1, hz2⟩ := info_parts int_info
  obtain ⟨i1, hjj, hy0, hy1, hy2⟩ := info_parts ints_info
  have hn : n ≤ 1000 := by unfold graphOk at hg; simp at hg; omega
  have hok : ∀ e ∈ es, edgeOk n e = true := by unfold graphOk at hg; simp at hg; exact hg.2
  have Hc := hide (g_check n A cap es w h hlen)
  rw [hg] at Hc
  have Hr := hide h
  have Hok := hide hok
  have Hm := hide hm
  clear h hg hok hm
  go_enter Tryz.func17, Tryz.ntmps17
  go_wp2_with fail
  refine Hc.out.mono ?_
  rintro e w1 ⟨rfl, l1, d1, rfl⟩
  go_wp2_with fail
  refine (g_next n A cap es _ (RowOf.ext edgeC Hr.out (by repeat (first | exact Ext.refl _ | exact Ext.pre (by simp) | exact Ext.alloc (by assumption) _ | refine Ext.alloc ?_ _ |  refine Ext.more ?_ _ _ | refine Ext.drew ?_ | refine Ext.drewN ?_ _))) hn hlen Hok.out).mono ?_
  rintro e w2 ⟨⟨b, ts, rfl, hts, hT, hL⟩, hx2⟩
  subst hts
  have Hs := hide (succ_next Hok.out rfl hL)
  have Hin := hide (all_in Hok.out rfl hL)
  have HT := hide hT
  have HX2 : Hid (Ext w w2) := hide (Ext.trans (by repeat (first | exact Ext.refl _ | exact Ext.pre (by simp) | exact Ext.alloc (by assumption) _ | refine Ext.alloc ?_ _ |  refine Ext.more ?_ _ _ | refine Ext.drew ?_ | refine Ext.drewN ?_ _)) hx2)
  clear hT hL hx2
  go_wp2
  have W3 : Hid (Wk 62 ((w2.alloc (.cells (Tryz.zeroCells62.setIfInBounds 0 (.slice (some ⟨b, 0, none⟩) ts.length ts.length)) 62)).alloc (.cells #[.pointer (some ⟨w2.heap.size, 0, none⟩)] 56)) w2.heap.size (WR.new (.slice (some ⟨b, 0, none⟩) ts.length ts.length))) := hide (by
    unfold Wk
    rw [← new_walk]
    exact (Below.heap_alloc _ _ _ (by simp)).trans (at_newB _ _ _ rfl))
  have V3 : Hid (((w2.alloc (.cells (Tryz.zeroCells62.setIfInBounds 0 (.slice (some ⟨b, 0, none⟩) ts.length ts.length)) 62)).alloc (.cells #[.pointer (some ⟨w2.heap.size, 0, none⟩)] 56)).heap[w2.heap.size + 1]? = some (.cells #[.pointer (some ⟨w2.heap.size, 0, none⟩)] 56 (0, 0))) := hide (at_newB _ _ _ (by simp))
  have X3 : Hid (Ext w2 ((w2.alloc (.cells (Tryz.zeroCells62.setIfInBounds 0 (.slice (some ⟨b, 0, none⟩) ts.length ts.length)) 62)).alloc (.cells #[.pointer (some ⟨w2.heap.size, 0, none⟩)] 56))) := hide (((Ext.refl _).alloc _).alloc _)
  have hsz3 : ((w2.alloc (.cells (Tryz.zeroCells62.setIfInBounds 0 (.slice (some ⟨b, 0, none⟩) ts.length ts.length)) 62)).alloc (.cells #[.pointer (some ⟨w2.heap.size, 0, none⟩)] 56)).heap.size = w2.heap.size + 2 := by simp
  have Hsz3 := hide hsz3
  clear hsz3
  generalize ((w2.alloc (.cells (Tryz.zeroCells62.setIfInBounds 0 (.slice (some ⟨b, 0, none⟩) ts.length ts.length)) 62)).alloc (.cells #[.pointer (some ⟨w2.heap.size, 0, none⟩)] 56)) = w3 at *
  generalize hZZ : Value.agg (Tryz.zeroCells62.setIfInBounds 0 (.slice (some ⟨b, 0, none⟩) ts.length ts.length)) = ZZ
  clear hZZ
  have Hwb : Hid (w2.heap.size = w2.heap.size) := hide rfl
  generalize hwb : w2.heap.size = wb at *
  have HWB := hide hwb
  clear hwb Hwb
  generalize hnN : ts.length = N at *
  have HN := hide hnN
  clear hnN
  have hbw : b < wb := by rw [← HWB.out]; exact HT.out.lt
  have hv1 : wb < wb + 1 := by omega
  have hN1 : (N : Int) ≤ 1000 := by omega
  go_loopw [29] (fun i wr => ∃ (k : Nat), k ≤ N ∧ i = .int .i64 k ∧ Hid (But (wb + 2) wb w3 wr) ∧ Hid (∃ S sv lv, Mem 62 3 (wb + 2) wr wb (.slice (some ⟨b, 0, none⟩) N N) S sv lv ∧ TInv (succOf ts) N S [] ∧ Counts N S ∧ ∀ x, x < k → 0 < S.index x)) (fun i _ => N - (intOf i).toNat)
  case atStart => exact ⟨0, Nat.zero_le _, rfl, hide (But.refl _ _ _), hide ⟨TS.first, _, _, Mem.first W3.out, TInv.first _ _, Counts.first, fun x hx => absurd hx (Nat.not_lt_zero x)⟩⟩
  case round =>
    obtain ⟨k, hk, rfl, HB, HM⟩ := hrel
    obtain ⟨S, sv, lv, hM, hI, hC, hV⟩ := HM.out
    have hvc : wr.cell? ⟨wb + 1, 0, none⟩ = some (.pointer (some ⟨wb, 0, none⟩)) := by
      have := (HB.out.block (wb + 1) (by omega) (by omega)).trans V3.out
      simp [World.cell?, this]
    by_cases hlt : k < N
    · have hlt' : (k : Int) < (N : Int) := by omega
      have hk0 : (0 : Int) ≤ (k : Int) := by omega
      have hk1 : (k : Int) < 1000 := by omega
      have hci := hM.blk.index_ (v := k) (by omega)
      dsimp only at hci
      have HMT := hide hM
      have HI := hide hI
      have HC := hide hC
      have HV := hide hV
      clear HM hM hI hC hV
      by_cases h0 : S.index k = 0
      · rw [h0] at hci
        simp only [Int.natCast_zero] at hci
        have Hcall := hide (g_visit (wb + 2) wb b N _ (by omega) ts w2 HN.out hn HT.out (Nat.le_of_eq HWB.out) Hin.out _ S [] k sv lv wr rfl HI.out HC.out h0 hlt (by intro g hg; cases hg) (X3.out.below.trans (HB.out.below (Nat.le_of_eq HWB.out) (by omega))) (by have := HB.out.size; have := Hsz3.out; omega) HMT.out)
        clear h0
        go_wp2_with fail
        refine Hcall.out.mono ?_
        rintro e w4 ⟨rfl, hb4, S4, sv4, lv4, hM4, hP4, hC4⟩
        have HB4 := hide (HB.out.trans hb4)
        have HM4 := hide hM4
        have HC4 := hide hC4
        have HP4 := hide hP4
        clear hb4 hM4 hC4 hP4
        go_wp2
        go_roundw
        case rel =>
          refine ⟨k + 1, hlt, by go_num, HB4, hide ⟨S4, sv4, lv4, HM4.out, HP4.out.inv, HC4.out, fun x hx => ?_⟩⟩
          by_cases e : x = k
          · subst e; exact HP4.out.vis
          · have := HV.out x (by omega)
            rw [(HP4.out.keep x this).1]
            exact this
        case measure => simp [intOf]; omega
      · have h1 : ¬ (S.index k : Int) = 0 := by omega
        have h2 : Hid (0 < S.index k) := hide (by omega)
        clear h0
        go_wp2
        go_roundw
        case rel =>
          refine ⟨k + 1, hlt, by go_num, HB, hide ⟨S, sv, lv, HMT.out, HI.out, HC.out, fun x hx => ?_⟩⟩
          by_cases e : x = k
          · subst e; exact h2.out
          · exact HV.out x (by omega)
        case measure => simp [intOf]; omega
    · have hge : (N : Int) ≤ (k : Int) := by omega
      rename World => wA
      have hkN : k = N := by omega
      subst hkN
      clear HM W3 hlt hge
      have HG := hide (hI.grps hV)
      have hKn := hI.least_len
      have HV := hide hV
      have HI := hide hI
      have hst : S.stack = [] := hI.none
      have HMT := hide hM
      obtain ⟨AL, cL, rfl, hL1, hL2, hLr, hLb⟩ := Ints.own hM.ls
      have HLr := hide hLr
      have HLb := hide hLb
      have hlc := hM.blk.least_
      dsimp only at hlc
      have hzl : (zs S.least).length = S.least.length := zs_len _
      rw [hzl] at hlc hL1
      have HWl := hide hM.blk.lt
      have Hzl := hide hzl
      clear hM hI hV hC hLr hLb hst hzl
      generalize hK : S.least.length = K at *
      have HK := hide hK
      clear hK
      have hK1 : (K : Int) ≤ 1000 := by omega
      have hmk := run_make (P := Tryz.prog) wA 29 30 i1 _ Tryz.underlying29 hjj hy0 .i64 .i64 K K (by omega) (Int.le_refl _) (by rw [hy2]; omega) (by omega)
      have hmc : madeCells (Value.slice none 0 0).cells ((K : Int).toNat * i1.size) = (List.replicate K (Value.slice none 0 0)).toArray := by
        rw [hy1]
        exact madeOne _ _ rfl
      rw [hmc] at hmk
      simp only [Int.toNat_natCast] at hmk
      have T0 := hide (TosI.made wA K)
      clear hmc
      generalize hZ : (List.replicate K (Value.slice none 0 0)).toArray = Z at *
      have HZ := hide hZ
      clear hZ
      have XA : Hid (Ext w wA) := hide (HX2.out.trans (Ext.of_below (X3.out.below.trans (HB.out.below (Nat.le_of_eq HWB.out) (by omega))) (Nat.le_refl _)))
      have Hvc := hide hvc
      have hvlt : wb + 1 < wA.heap.size := by have := HB.out.size; have := Hsz3.out; omega
      have hwlt : wb < wA.heap.size := by omega
      have Hgrp : Hid (∀ x, x < k → S.group x < K) := hide HG.out.lt
      go_wp2
      go_loopw [50] (fun i wr => ∃ (k2 : Nat) (tm : List SlV), k2 ≤ k ∧ i = .int .i64 k2 ∧ tm.length = K ∧ Hid (TosI 30 3 wA.heap.size wr wA.heap.size tm) ∧ Hid (∀ g (h : g < tm.length), (tm[g]'h).l = zs (membersL k2 S.group g)) ∧ Hid (Ext wA wr)) (fun i _ => k - (intOf i).toNat)
      case atStart => exact ⟨0, List.replicate K ⟨.slice none 0 0, []⟩, Nat.zero_le _, rfl, List.length_replicate, T0, hide (by intro v h; simp [membersL, zs]), hide (by repeat (first | exact Ext.refl _ | exact Ext.pre (by simp) | exact Ext.alloc (by assumption) _ | refine Ext.alloc ?_ _ |  refine Ext.more ?_ _ _ | refine Ext.drew ?_ | refine Ext.drewN ?_ _))⟩
      case round =>
        obtain ⟨k2, tm, hk2, rfl, htm, HTM, HML, HXM⟩ := hrel
        by_cases hlt : k2 < k
        · have hlt' : (k2 : Int) < (k : Int) := by omega
          have hk0 : (0 : Int) ≤ (k2 : Int) := by omega
          have hk1 : (k2 : Int) < 1000 := by omega
          have hgk := Hgrp.out k2 hlt
          have hc1 : wr.cell? ⟨wb + 1, 0, none⟩ = some (.pointer (some ⟨wb, 0, none⟩)) := (World.cell?_of_block (a := ⟨wb + 1, 0, none⟩) (HXM.out.heap hvlt)).trans Hvc.out
          have hc2 : wr.cell? ⟨wb, 3004 + k2, none⟩ = some (.int .i64 (S.group k2 : Int)) := (World.cell?_of_block (a := ⟨wb, 3004 + k2, none⟩) (HXM.out.heap hwlt)).trans (HMT.out.blk.group_ (v := k2) (by omega))
          have HM1 : Hid (∀ g, membersL (k2 + 1) S.group g = membersL k2 S.group g ++ if S.group k2 == g then [k2] else []) := hide (fun g => by
            unfold membersL
            rw [List.range_succ, List.filter_append]
            congr 1
            simp [List.filter_cons])
          generalize hgv : S.group k2 = g at *
          have hgt : g < tm.length := by omega
          have hg0 : (0 : Int) ≤ (g : Int) := by omega
          have hg1 : (g : Int) < (K : Int) := by omega
          have hcv := HTM.out.cell hgt
          have hbw := HTM.out.lt
          have hll : (tm[g]'hgt).l.length ≤ 1000 := by
            rw [HML.out g hgt, zs_len]
            unfold membersL
            have := List.length_filter_le (fun x => S.group x == g) (List.range k2)
            simp at this
            omega
          have Hown := hide (HTM.out.own g hgt)
          have HV0 : Hid ((tm[g]'hgt).val = (tm[g]'hgt).val) := hide rfl
          generalize hval : (tm[g]'hgt).val = sv2 at *
          generalize hlv : (tm[g]'hgt).l = lv2 at *
          have Hval := hide hval
          have Hlv := hide hlv
          clear hval hlv HV0 hvc hlc hgv
          have hw1 : wb < wr.heap.size := by have := HXM.out.size; omega
          have hw2 : wb + 1 < wr.heap.size := by have := HXM.out.size; omega
          go_wp2
          have hn1 : ¬ wA.heap.size = wb + 1 := by omega
          have hn2 : ¬ wA.heap.size = wb := by omega
          have hn3 : ¬ wb + 1 = wA.heap.size := by omega
          have hn4 : ¬ wb = wA.heap.size := by omega
          have hS0 : wr.drew.cell? ⟨wb + 1, 0, none⟩ = some (.pointer (some ⟨wb, 0, none⟩)) ∧ wr.drew.cell? ⟨wb, 3004 + k2, none⟩ = some (.int .i64 (g : Int)) ∧ wr.drew.cell? ⟨wA.heap.size, g, none⟩ = some sv2 := ⟨hc1, hc2, hcv⟩
          refine but_start 20 (fun w' => w'.cell? ⟨wb + 1, 0, none⟩ = some (.pointer (some ⟨wb, 0, none⟩)) ∧ w'.cell? ⟨wb, 3004 + k2, none⟩ = some (.int .i64 (g : Int)) ∧ w'.cell? ⟨wA.heap.size, g, none⟩ = some sv2) (by kernel_rfl) ?_
          (refine but_takeL (i := 0) (v := ?_) rfl (by kernel_rfl) (by kernel_rfl) (by kernel_rfl) (by kernel_rfl) (fun _ _ _ h => h) (Or.inl ⟨by rfl, ?_⟩) (by assumption) ?_; rotate_left 1; focus (intro w hSw; (try dsimp only at hSw); (try obtain ⟨g1, g2, g3⟩ := hSw); (try obtain ⟨g1, g2⟩ := hSw); go_simp; try with_reducible rfl); try simp only [Act.put, List.setIfInBounds_toArray, List.set_cons_zero, List.set_cons_succ])
          (refine but_takeL (i := 1) (v := ?_) rfl (by kernel_rfl) (by kernel_rfl) (by kernel_rfl) (by kernel_rfl) (fun _ _ _ h => h) (Or.inl ⟨by rfl, ?_⟩) (by assumption) ?_; rotate_left 1; focus (intro w hSw; (try dsimp only at hSw); (try obtain ⟨g1, g2, g3⟩ := hSw); (try obtain ⟨g1, g2⟩ := hSw); go_simp; try with_reducible rfl); try simp only [Act.put, List.setIfInBounds_toArray, List.set_cons_zero, List.set_cons_succ])
          (refine but_takeL (i := 2) (v := ?_) rfl (by kernel_rfl) (by kernel_rfl) (by kernel_rfl) (by kernel_rfl) (fun _ _ _ h => h) (Or.inl ⟨by rfl, ?_⟩) (by assumption) ?_; rotate_left 1; focus (intro w hSw; (try dsimp only at hSw); (try obtain ⟨g1, g2, g3⟩ := hSw); (try obtain ⟨g1, g2⟩ := hSw); go_simp; try with_reducible rfl); try simp only [Act.put, List.setIfInBounds_toArray, List.set_cons_zero, List.set_cons_succ])
          (refine but_takeL (i := 3) (v := ?_) rfl (by kernel_rfl) (by kernel_rfl) (by kernel_rfl) (by kernel_rfl) (fun _ _ _ h => h) (Or.inl ⟨by rfl, ?_⟩) (by assumption) ?_; rotate_left 1; focus (intro w hSw; (try dsimp only at hSw); (try obtain ⟨g1, g2, g3⟩ := hSw); (try obtain ⟨g1, g2⟩ := hSw); go_simp; try with_reducible rfl); try simp only [Act.put, List.setIfInBounds_toArray, List.set_cons_zero, List.set_cons_succ])
          (refine but_takeL (i := 4) (v := ?_) rfl (by kernel_rfl) (by kernel_rfl) (by kernel_rfl) (by kernel_rfl) (fun _ _ _ h => h) (Or.inl ⟨by rfl, ?_⟩) (by assumption) ?_; rotate_left 1; focus (intro w hSw; (try dsimp only at hSw); (try obtain ⟨g1, g2, g3⟩ := hSw); (try obtain ⟨g1, g2⟩ := hSw); go_simp; try with_reducible rfl); try simp only [Act.put, List.setIfInBounds_toArray, List.set_cons_zero, List.set_cons_succ])
          (refine but_takeL (i := 5) (v := ?_) rfl (by kernel_rfl) (by kernel_rfl) (by kernel_rfl) (by kernel_rfl) (fun _ _ _ h => h) (Or.inl ⟨by rfl, ?_⟩) (by assumption) ?_; rotate_left 1; focus (intro w hSw; (try dsimp only at hSw); (try obtain ⟨g1, g2, g3⟩ := hSw); (try obtain ⟨g1, g2⟩ := hSw); go_simp; try with_reducible rfl); try simp only [Act.put, List.setIfInBounds_toArray, List.set_cons_zero, List.set_cons_succ])
          (refine but_takeL (i := 6) (v := ?_) rfl (by kernel_rfl) (by kernel_rfl) (by kernel_rfl) (by kernel_rfl) (fun _ _ _ h => h) (Or.inl ⟨by rfl, ?_⟩) (by assumption) ?_; rotate_left 1; focus (intro w hSw; (try dsimp only at hSw); (try obtain ⟨g1, g2, g3⟩ := hSw); (try obtain ⟨g1, g2⟩ := hSw); go_simp; try with_reducible rfl); try simp only [Act.put, List.setIfInBounds_toArray, List.set_cons_zero, List.set_cons_succ])
          (refine but_takeL (i := 7) (v := ?_) rfl (by kernel_rfl) (by kernel_rfl) (by kernel_rfl) (by kernel_rfl) (fun _ _ _ h => h) (Or.inl ⟨by rfl, ?_⟩) (by assumption) ?_; rotate_left 1; focus (intro w hSw; (try dsimp only at hSw); (try obtain ⟨g1, g2, g3⟩ := hSw); (try obtain ⟨g1, g2⟩ := hSw); go_simp; try with_reducible rfl); try simp only [Act.put, List.setIfInBounds_toArray, List.set_cons_zero, List.set_cons_succ])
          (refine but_takeL (i := 8) (v := ?_) rfl (by kernel_rfl) (by kernel_rfl) (by kernel_rfl) (by kernel_rfl) (fun _ _ _ h => h) (Or.inl ⟨by rfl, ?_⟩) (by assumption) ?_; rotate_left 1; focus (intro w hSw; (try dsimp only at hSw); (try obtain ⟨g1, g2, g3⟩ := hSw); (try obtain ⟨g1, g2⟩ := hSw); go_simp; try with_reducible rfl); try simp only [Act.put, List.setIfInBounds_toArray, List.set_cons_zero, List.set_cons_succ])
          (refine but_takeL (i := 9) (v := ?_) rfl (by kernel_rfl) (by kernel_rfl) (by kernel_rfl) (by kernel_rfl) (fun _ _ _ h => h) (Or.inl ⟨by rfl, ?_⟩) (by assumption) ?_; rotate_left 1; focus (intro w hSw; (try dsimp only at hSw); (try obtain ⟨g1, g2, g3⟩ := hSw); (try obtain ⟨g1, g2⟩ := hSw); go_simp; try with_reducible rfl); try simp only [Act.put, List.setIfInBounds_toArray, List.set_cons_zero, List.set_cons_succ])
          (refine but_takeL (i := 10) (v := ?_) rfl (by kernel_rfl) (by kernel_rfl) (by kernel_rfl) (by kernel_rfl) (fun _ _ _ h => h) (Or.inl ⟨by rfl, ?_⟩) (by assumption) ?_; rotate_left 1; focus (intro w hSw; (try dsimp only at hSw); (try obtain ⟨g1, g2, g3⟩ := hSw); (try obtain ⟨g1, g2⟩ := hSw); go_simp; try with_reducible rfl); try simp only [Act.put, List.setIfInBounds_toArray, List.set_cons_zero, List.set_cons_succ])
          (refine but_takeL (i := 11) (v := ?_) rfl (by kernel_rfl) (by kernel_rfl) (by kernel_rfl) (by kernel_rfl) (fun _ _ _ h => h) (Or.inl ⟨by rfl, ?_⟩) (by assumption) ?_; rotate_left 1; focus (intro w hSw; (try dsimp only at hSw); (try obtain ⟨g1, g2, g3⟩ := hSw); (try obtain ⟨g1, g2⟩ := hSw); go_simp; try with_reducible rfl); try simp only [Act.put, List.setIfInBounds_toArray, List.set_cons_zero, List.set_cons_succ])
          (refine but_takeL (i := 12) (v := ?_) rfl (by kernel_rfl) (by kernel_rfl) (by kernel_rfl) (by kernel_rfl) (fun _ _ _ h => h) (Or.inl ⟨by rfl, ?_⟩) (by assumption) ?_; rotate_left 1; focus (intro w hSw; (try dsimp only at hSw); (try obtain ⟨g1, g2, g3⟩ := hSw); (try obtain ⟨g1, g2⟩ := hSw); go_simp; try with_reducible rfl); try simp only [Act.put, List.setIfInBounds_toArray, List.set_cons_zero, List.set_cons_succ])
          (refine but_takeL (i := 13) (v := ?_) rfl (by kernel_rfl) (by kernel_rfl) (by kernel_rfl) (by kernel_rfl) (fun _ _ _ h => h) (Or.inl ⟨by rfl, ?_⟩) (by assumption) ?_; rotate_left 1; focus (intro w hSw; (try dsimp only at hSw); (try obtain ⟨g1, g2, g3⟩ := hSw); (try obtain ⟨g1, g2⟩ := hSw); go_simp; try with_reducible rfl); try simp only [Act.put, List.setIfInBounds_toArray, List.set_cons_zero, List.set_cons_succ])
          (refine but_takeL (i := 14) (v := ?_) rfl (by kernel_rfl) (by kernel_rfl) (by kernel_rfl) (by kernel_rfl) (fun _ _ _ h => h) (Or.inl ⟨by rfl, ?_⟩) (by assumption) ?_; rotate_left 1; focus (intro w hSw; (try dsimp only at hSw); (try obtain ⟨g1, g2, g3⟩ := hSw); (try obtain ⟨g1, g2⟩ := hSw); go_simp; try with_reducible rfl); try simp only [Act.put, List.setIfInBounds_toArray, List.set_cons_zero, List.set_cons_succ])
          (refine but_takeL (i := 15) (v := ?_) rfl (by kernel_rfl) (by kernel_rfl) (by kernel_rfl) (by kernel_rfl) (fun _ _ _ h => h) (Or.inl ⟨by rfl, ?_⟩) (by assumption) ?_; rotate_left 1; focus (intro w hSw; (try dsimp only at hSw); (try obtain ⟨g1, g2, g3⟩ := hSw); (try obtain ⟨g1, g2⟩ := hSw); go_simp; try with_reducible rfl); try simp only [Act.put, List.setIfInBounds_toArray, List.set_cons_zero, List.set_cons_succ])
          (refine but_takeL (i := 16) (v := ?_) rfl (by kernel_rfl) (by kernel_rfl) (by kernel_rfl) (by kernel_rfl) (fun _ _ _ h => h) (Or.inl ⟨by rfl, ?_⟩) (by assumption) ?_; rotate_left 1; focus (intro w hSw; (try dsimp only at hSw); (try obtain ⟨g1, g2, g3⟩ := hSw); (try obtain ⟨g1, g2⟩ := hSw); go_simp; try with_reducible rfl); try simp only [Act.put, List.setIfInBounds_toArray, List.set_cons_zero, List.set_cons_succ])
          refine but_step (i := 17) (by kernel_rfl) rfl (fun KK hK => ?_)
          go_simp
          refine hK.out _ _ (fun _ => ⟨by simp [go_sem, hw2, hc1], by simp [go_sem, hw1, hc2], by simp [go_sem, hbw, hcv]⟩) ?_
          clear hK KK
          (try simp only [Act.put]); (try simp only [List.setIfInBounds_toArray]); (repeat (first | simp only [List.set_cons_succ] | simp only [List.set_cons_zero]))
          refine but_step (i := 18) (by kernel_rfl) rfl (fun KK hK => ?_)
          refine step_append_rowB _ rfl (.tmp 68) (.tmp 70) 30 rfl wA.heap.size 3 i0 _ 1 8 Tryz.underlying30 hi hz0 hz1 hz2 rfl (by decide) sv2 lv2.length (lv2.map (Value.int .i64)) rfl (own_extB Hown.out (by repeat (first | exact Ext.refl _ | exact Ext.pre (by simp) | exact Ext.alloc (by assumption) _ | refine Ext.alloc ?_ _ |  refine Ext.more ?_ _ _ | refine Ext.drew ?_ | refine Ext.drewN ?_ _))) (some ⟨_, 0, none⟩) 1 1 [.int .i64 k2] rfl (Row.boxV _ (at_newB _ _ _ (by simp))) (by intro u hu; simp at hu; subst hu; rfl) (by unfold maxLen; omega) (by omega) (Ext.size (HXM.out.trans (by repeat (first | exact Ext.refl _ | exact Ext.pre (by simp) | exact Ext.alloc (by assumption) _ | refine Ext.alloc ?_ _ |  refine Ext.more ?_ _ _ | refine Ext.drew ?_ | refine Ext.drewN ?_ _)))) ?_
          intro v3 w4 hown3 hg3 hat3
          obtain ⟨A3, c3, rfl, -, -, -, -⟩ := Ints.own (l := lv2 ++ [(k2 : Int)]) (by simpa using hown3)
          have p3 := TosI.put (l' := lv2 ++ [(k2 : Int)]) (HTM.out.ext (by repeat (first | exact Ext.refl _ | exact Ext.pre (by simp) | exact Ext.alloc (by assumption) _ | refine Ext.alloc ?_ _ |  refine Ext.more ?_ _ _ | refine Ext.drew ?_ | refine Ext.drewN ?_ _))) hgt Hval.out (by simpa using hown3) hg3 hat3
          rw [List.length_append, List.length_singleton] at p3
          have P3 := hide p3
          clear p3
          have X5 := hide (Ext.app (HXM.out.trans (by repeat (first | exact Ext.refl _ | exact Ext.pre (by simp) | exact Ext.alloc (by assumption) _ | refine Ext.alloc ?_ _ |  refine Ext.more ?_ _ _ | refine Ext.drew ?_ | refine Ext.drewN ?_ _))) hg3 (own_extB Hown.out (by repeat (first | exact Ext.refl _ | exact Ext.pre (by simp) | exact Ext.alloc (by assumption) _ | refine Ext.alloc ?_ _ |  refine Ext.more ?_ _ _ | refine Ext.drew ?_ | refine Ext.drewN ?_ _))) (Nat.le_refl _))
          have B3 := TosI.after (HTM.out.ext (by repeat (first | exact Ext.refl _ | exact Ext.pre (by simp) | exact Ext.alloc (by assumption) _ | refine Ext.alloc ?_ _ |  refine Ext.more ?_ _ _ | refine Ext.drew ?_ | refine Ext.drewN ?_ _))) hgt Hval.out hg3
          have hc3 : w4.cell? ⟨wA.heap.size, g, none⟩ = some sv2 := by rw [← Hval.out]; simp [World.cell?, B3, hgt]
          have hf3 : w4.frozen? ⟨wA.heap.size, g, none⟩ = false := by simp [World.frozen?, B3]
          have hd1 : w4.cell? ⟨wb + 1, 0, none⟩ = some (.pointer (some ⟨wb, 0, none⟩)) := (World.cell?_of_block (a := ⟨wb + 1, 0, none⟩) (X5.out.heap hvlt)).trans Hvc.out
          have hd2 : w4.cell? ⟨wb, 3004 + k2, none⟩ = some (.int .i64 (g : Int)) := ((World.cell?_of_block (a := ⟨wb, 3004 + k2, none⟩) (X5.out.heap hwlt)).trans (World.cell?_of_block (a := ⟨wb, 3004 + k2, none⟩) (HXM.out.heap hwlt)).symm).trans hc2
          clear B3
          clear hown3 hg3 hat3
          have hS4 : w4.cell? ⟨wb + 1, 0, none⟩ = some (.pointer (some ⟨wb, 0, none⟩)) ∧ w4.cell? ⟨wb, 3004 + k2, none⟩ = some (.int .i64 (g : Int)) ∧ w4.cell? ⟨wA.heap.size, g, none⟩ = some sv2 := ⟨hd1, hd2, hc3⟩
          refine hK.out _ _ (fun _ => hS4) ?_
          clear hK KK
          (try simp only [Act.put]); (try simp only [List.setIfInBounds_toArray]); (repeat (first | simp only [List.set_cons_succ] | simp only [List.set_cons_zero]))
          (refine but_takeL (i := 19) (v := ?_) rfl (by kernel_rfl) (by kernel_rfl) (by kernel_rfl) (by kernel_rfl) (fun _ _ _ h => h) (Or.inl ⟨by rfl, ?_⟩) (by assumption) ?_; rotate_left 1; focus (intro w hSw; (try dsimp only at hSw); (try obtain ⟨g1, g2, g3⟩ := hSw); (try obtain ⟨g1, g2⟩ := hSw); go_simp; try with_reducible rfl); try simp only [Act.put, List.setIfInBounds_toArray, List.set_cons_zero, List.set_cons_succ])
          refine but_step (i := 20) (by kernel_rfl) rfl (fun KK hK => ?_)
          go_simp
          refine hK.out _ _ (fun h => absurd rfl h) ?_
          clear hK KK
          try simp only [Act.put]
          refine but_done (by kernel_rfl) ?_ _
          all_goals
            go_wp2
            go_roundw
            case rel =>
              refine ⟨k2 + 1, tm.set g ⟨_, lv2 ++ [(k2 : Int)]⟩, hlt, by go_num, by simp [htm], P3, hide (fun u hu => ?_), hide (Ext.setCell X5.out (Nat.le_refl _) _)⟩
              rw [HM1.out u]
              have hu' : u < tm.length := by simpa using hu
              by_cases e : g = u
              · subst e
                simp only [List.getElem_set_self, beq_self_eq_true, ↓reduceIte]
                rw [← Hlv.out, HML.out g hgt]
                simp [zs]
              · rw [List.getElem_set_ne e, HML.out u hu']
                have : (g == u) = false := by simpa using e
                rw [this]; simp
            case measure => simp [intOf]; omega
        · rename World => wB
          have hkk : k2 = k := by omega
          subst hkk
          clear hlt hk2 T0 hmk
          have hge : ¬ (k2 : Int) < (k2 : Int) := by omega
          have hwb1 : wb < wB.heap.size := by have := HXM.out.size; omega
          have hwb2 : wb + 1 < wB.heap.size := by have := HXM.out.size; omega
          have hmk := run_make (P := Tryz.prog) wB 30 3 i0 _ Tryz.underlying30 hi hz0 .i64 .i64 K K (by omega) (Int.le_refl _) (by rw [hz2]; omega) (by omega)
          have hmc : madeCells (Value.int .i64 0).cells ((K : Int).toNat * i0.size) = (List.replicate K (Value.int .i64 0)).toArray := by
            rw [hz1]
            exact madeOne _ _ rfl
          rw [hmc] at hmk
          simp only [Int.toNat_natCast] at hmk
          clear hmc
          have hZ0 : (List.replicate K (Value.int .i64 0)).toArray = cellsOf K fun j => .int .i64 (if j < 0 then (j : Int) else 0) := by
            unfold cellsOf
            simp [List.map_const']
          rw [hZ0] at hmk
          clear hZ0
          generalize hZ : (cellsOf K fun j => .int .i64 (if j < 0 then (j : Int) else 0)) = Z3 at *
          have HZ3 := hide hZ
          clear hZ
          have HB0 : Hid ((wB.alloc (.cells Z3 3)).heap[wB.heap.size]? = some (.cells (cellsOf K fun j => .int .i64 (if j < 0 then (j : Int) else 0)) 3 (0, 0))) := hide (by rw [HZ3.out]; exact at_newB _ _ _ rfl)
          go_wp2
          go_loopw [79] (fun i wr => ∃ (g : Nat), g ≤ K ∧ i = .int .i64 g ∧ Hid (Ext wB wr) ∧ Hid (wr.heap[wB.heap.size]? = some (.cells (cellsOf K fun j => .int .i64 (if j < g then (j : Int) else 0)) 3 (0, 0)))) (fun i _ => K - (intOf i).toNat)
          case atStart => exact ⟨0, Nat.zero_le _, rfl, hide (by repeat (first | exact Ext.refl _ | exact Ext.pre (by simp) | exact Ext.alloc (by assumption) _ | refine Ext.alloc ?_ _ |  refine Ext.more ?_ _ _ | refine Ext.drew ?_ | refine Ext.drewN ?_ _)), HB0⟩
          case round =>
            obtain ⟨g, hgK, rfl, HXg, HBg⟩ := hrel
            by_cases hlt : g < K
            · have hlt' : (g : Int) < (K : Int) := by omega
              have hg0 : (0 : Int) ≤ (g : Int) := by omega
              have hcb : wr.cell? ⟨wB.heap.size, g, none⟩ = some (.int .i64 0) := by
                have h1 := HBg.out
                have h2 := cellsOf_get K (fun j => Value.int .i64 (if j < g then (j : Int) else 0)) hlt
                generalize (cellsOf K fun j => Value.int .i64 (if j < g then (j : Int) else 0)) = cs at *
                simp [World.cell?, h1, h2]
              have hfb : wr.frozen? ⟨wB.heap.size, g, none⟩ = false := by
                have h1 := HBg.out
                generalize (cellsOf K fun j => Value.int .i64 (if j < g then (j : Int) else 0)) = cs at *
                simp [World.frozen?, h1]
              have HBn : Hid ((wr.setCell ⟨wB.heap.size, g, none⟩ (.int .i64 (g : Int))).heap[wB.heap.size]? = some (.cells (cellsOf K fun j => .int .i64 (if j < g + 1 then (j : Int) else 0)) 3 (0, 0))) := hide (by
                have h1 := blk_setCell HBg.out g (.int .i64 (g : Int))
                rw [h1, cellsOf_set]
                intro i hi
                by_cases e : i = g
                · subst e; simp
                · rw [if_neg e]
                  by_cases e2 : i < g
                  · rw [if_pos e2, if_pos (by omega)]
                  · rw [if_neg e2, if_neg (by omega)])
              have hblt : wB.heap.size < wr.heap.size := lt_of_obj HBg.out
              go_wp2
              go_roundw
              case rel => exact ⟨g + 1, hlt, by go_num, hide (Ext.setCell HXg.out (Nat.le_refl _) _), HBn⟩
              case measure => simp [intOf]; omega
            · rename World => wC
              have hgk : g = K := by omega
              subst hgk
              clear hlt hgK HB0 hmk
              have hge : ¬ (g : Int) < (g : Int) := by omega
              have HBf : Hid (wC.heap[wB.heap.size]? = some (.cells (cellsOf g fun j => .int .i64 (j : Int)) 3 (0, 0))) := hide (by
                rw [HBg.out]
                congr 2
                unfold cellsOf
                congr 1
                apply List.map_congr_left
                intro j hj
                rw [if_pos (by simpa using hj)])
              have XAC : Hid (Ext wA wC) := hide (HXM.out.trans HXg.out)
              have Hsort := hide (g_sort g wB.heap.size wb (wb + 1) cL AL S.least wC HK.out (by omega) HBf.out
                ((XAC.out.heap hvlt).trans ((HB.out.block (wb + 1) (by omega) (by omega)).trans V3.out))
                ((World.cell?_of_block (a := ⟨wb, 3003, none⟩) (XAC.out.heap hwlt)).trans hlc) (Nat.lt_of_lt_of_le hwlt XAC.out.size) (RowOf.ext intC HLr.out XAC.out)
                (fun z hz => by obtain ⟨i, hi2, rfl⟩ := List.getElem_of_mem hz; have := HI.out.bound _ (HI.out.lst i hi2).1.1; omega) (by omega) (by omega) (fun c o e => by have := (HLb.out c o e).2; have := HXM.out.size; omega))
              clear hlc hvc
              go_wp2_with fail
              refine Hsort.out.mono ?_
              rintro e w5 ⟨rfl, hgr, by_, hperm, hpw, hby⟩
              have XB5 : Hid (Ext wB w5) := hide (HXg.out.grown hgr (by intro j hj; injection hj with hj; omega))
              have XA5 : Hid (Ext wA w5) := hide (HXM.out.trans XB5.out)
              have Hsrt := hide (HG.out.sorted hperm hpw)
              have hbyl : by_.length = g := by have := hperm.length_eq; simpa using this
              have Hby := hide hby
              have hsA : Below wb w2 wA := by have := X3.out.below.trans (HB.out.below (Nat.le_of_eq HWB.out) (by omega)); rwa [HWB.out] at this
              have HLf : Hid (Left 62 3 30 wb wA wb b ts S.group) := hide (by
                refine ⟨⟨_, HMT.out.blk, by rw [HN.out], rfl⟩, (hsA.block b hbw).trans HT.out.blk, fun i hi2 => ?_⟩
                obtain ⟨A9, c9, e1, e2, e3, e4, e5⟩ := Ints.own (HT.out.own i hi2)
                exact ⟨A9, c9, e1, e2, e3, Row.keep e4 hsA.size (fun c o e hc => hsA.block c (by have := (e5 c o e).2; rw [HWB.out] at this; exact this))⟩)
              have Hsuc : Hid (∀ x, x < k2 → ∀ y ∈ succOf ts x, y < k2) := hide (by
                intro x hx y hy
                unfold succOf at hy
                obtain ⟨z, hz, rfl⟩ := List.mem_map.1 hy
                have hxt : x < ts.length := by have := HN.out; omega
                simp only [List.getD_eq_getElem?_getD, List.getElem?_eq_getElem hxt, Option.getD_some] at hz
                have := Hin.out _ (List.getElem_mem hxt) z hz
                have := HN.out
                omega)
              have Hm2 : Hid (∀ i j, i < k2 → (m i j = true ↔ SR (succOf ts) i j)) := hide (by rw [Hs.out]; exact Hm.out)
              clear hgr hperm hpw hby hsA
              go_wp2
              have M6 : Hid (Marks 60 (w5.alloc (.cells Tryz.zeroCells60 60)) w5.heap.size (fun _ => false)) := hide (by
                unfold Marks
                rw [markCells_none, ← zero_marks]
                exact at_newB _ _ _ rfl)
              have X6 : Hid (Ext w5 (w5.alloc (.cells Tryz.zeroCells60 60))) := hide ((Ext.refl _).alloc _)
              have hs6 : (w5.alloc (.cells Tryz.zeroCells60 60)).heap.size = w5.heap.size + 1 := by simp
              have Hs6 := hide hs6
              clear hs6
              generalize w5.alloc (.cells Tryz.zeroCells60 60) = w6 at *
              go_loopw [14] (fun u wr => ∃ (told : Nat → Bool) (out : List SlV) (gs : List (List Nat)) (AO : Option Addr) (cO : Nat), u = .slice AO out.length cO ∧ out.length ≤ g ∧ Hid (wr.ownsRow (w5.heap.size + 1) 30 1 u out.length (out.map (·.val))) ∧ Hid (Marks 60 wr w5.heap.size told) ∧ Hid (Ext w5 wr) ∧ Hid (out.map (·.l) = gs.map zs) ∧ Hid (Picks tm told out) ∧ Hid (Telling (succOf ts) k2 g m S.group told gs)) (fun u _ => g - lenV u)
              case atStart => exact ⟨fun _ => false, [], [], none, 0, rfl, Nat.zero_le _, hide (World.ownsRow_nil _ _ _ _), M6, X6, hide rfl, hide (Picks.start _ _), hide Telling.start⟩
              case round =>
                obtain ⟨told, out, gs, AO, cO, rfl, hol, HO, HMk, HX5, HOL, HOT, HTell⟩ := hrel
                rename World => wF
                by_cases hlt : out.length < g
                · have hlt' : (out.length : Int) < (g : Int) := by omega
                  have hgl : gs.length = out.length := by have := congrArg List.length HOL.out; simpa using this.symm
                  have Hnx := hide (HTell.out.next HG.out Hsuc.out Hm2.out Hsrt.out.2 (by omega : gs.length < g))
                  go_wp2
                  go_loopw [14, 97] (fun u i wr => ∃ (j : Nat), j ≤ g ∧ u = .slice AO out.length cO ∧ i = .int .i64 j ∧ Hid (Drw wF wr) ∧ Hid (∀ x ∈ by_.take j, (!told x && !waitsB (succOf ts) k2 S.group told x) = false)) (fun _ i _ => g - (intOf i).toNat)
                  case atStart => exact ⟨0, Nat.zero_le _, rfl, rfl, hide (Drw.refl _), hide (by simp)⟩
                  case round =>
                    obtain ⟨j, hj, rfl, rfl, HD, HF⟩ := hrel
                    by_cases hlt2 : j < g
                    · have hlt2' : (j : Int) < (g : Int) := by omega
                      have XF : Hid (Ext w5 wr) := hide (HX5.out.trans HD.out.ext)
                      have hjb : j < by_.length := by omega
                      have hjz : j < (zs by_).length := by rw [zs_len]; exact hjb
                      obtain ⟨b7, o7, e7, hb7, q7⟩ := Ints.at_ (RowOf.ext intC Hby.out XF.out) hjz
                      injection e7 with e7
                      injection e7 with e8 e9
                      rw [← e8, ← e9, Nat.zero_add, zs_get _ hjz hjb] at q7
                      rw [← e8] at hb7
                      clear e8 e9
                      have hqm := List.getElem_mem hjb
                      have Hfnd := hide (fun h1 h2 => find_here (p := fun x => !told x && !waitsB (succOf ts) k2 S.group told x) hjb h1 h2)
                      have Htk : Hid (by_.take (j + 1) = by_.take j ++ [by_[j]'hjb]) := hide (List.take_succ_eq_append_getElem hjb)
                      generalize hqv : by_[j]'hjb = q at *
                      have hqg : q < g := (Hsrt.out.2 q).1 hqm
                      have hqt : q < tm.length := by omega
                      have hq1 : (q : Int) < (g : Int) := by omega
                      have hq0 : (0 : Int) ≤ (q : Int) := by omega
                      have hq2 : (q : Int) < 1000 := by omega
                      clear hqv hqm
                      have hct := (HMk.out.ext HD.out.ext).cell (j := q) (by omega)
                      have hvc2 : wr.cell? ⟨wb + 1, 0, none⟩ = some (.pointer (some ⟨wb, 0, none⟩)) := (World.cell?_of_block (a := ⟨wb + 1, 0, none⟩) ((XA5.out.trans XF.out).heap hvlt)).trans Hvc.out
                      have hcm := (HTM.out.ext (XB5.out.trans XF.out)).cell hqt
                      obtain ⟨A2, c2, ev, hl2a, hl2b, hIm, -⟩ := Ints.own (HTM.out.own q hqt)
                      have Hms := HML.out q hqt
                      have Hmem : Hid (tm[q]'hqt ∈ tm) := hide (List.getElem_mem hqt)
                      have Hev := hide ev
                      have Htl := hide Hms
                      rw [ev] at hcm
                      rw [Hms] at hcm hIm hl2a
                      rw [zs_len] at hcm hl2a
                      have HIm := hide hIm
                      have Hmsn : Hid (∀ x ∈ membersL k2 S.group q, x < k2) := hide (fun x hx => (mem_members.1 hx).1)
                      have hmsl : (membersL k2 S.group q).length ≤ 1000 := by
                        unfold membersL
                        have := List.length_filter_le (fun x => S.group x == q) (List.range k2)
                        simp at this
                        omega
                      have HW : Hid (∀ w', Ext wr w' → Hid (Calls Tryz.prog 27 #[.pointer (some ⟨wb, 0, none⟩), .int .i64 q, .slice A2 (membersL k2 S.group q).length c2, .pointer (some ⟨w5.heap.size, 0, none⟩)] w' fun e w'' => e = .returned (.bool (waitsB (succOf ts) k2 S.group told q)) ∧ Drw w' w'')) := hide (fun w' e =>
                        g_waits wb wb b w5.heap.size k2 q c2 A2 ts S.group told (membersL k2 S.group q) w' HN.out hn Hin.out (HLf.out.ext ((XA5.out.trans XF.out).trans e)) ((HMk.out.ext HD.out.ext).ext e) (RowOf.ext intC HIm.out ((XB5.out.trans XF.out).trans e)) Hmsn.out hmsl (fun x hx => by have := Hgrp.out x hx; omega))
                      clear hIm ev Hms
                      cases htq : told q
                      · rw [htq] at hct
                        cases hwq : waitsB (succOf ts) k2 S.group told q
                        · rw [hwq] at HW
                          have HF2 := hide (Hfnd.out HF.out (by rw [htq, hwq]; rfl))
                          have HTm := hide (HTell.out.more HG.out HG.out.le_n Hsuc.out Hm2.out Hsrt.out.1 Hsrt.out.2 HF2.out)
                          have HPk := hide (Picks.more HOT.out hqt htq)
                          clear htq hwq Hfnd
                          go_wp2
                          go_quiet ((go_at_call 27; exact Calls.quiet_of (HW.out _ (by repeat (first | exact Ext.refl _ | exact Ext.pre (by simp) | exact Ext.alloc (by assumption) _ | refine Ext.alloc ?_ _ |  refine Ext.more ?_ _ _ | refine Ext.drew ?_ | refine Ext.drewN ?_ _))).out))
                          have DG : Hid (Drw wF (wr.drewN nq)) := hide (HD.out.on _)
                          have XG : Hid (Ext wr (wr.drewN nq)) := hide ((Ext.refl _).drewN _)
                          generalize wr.drewN nq = wG at *
                          have MG := hide (HMk.out.ext DG.out.ext)
                          have hcG := MG.out.cell (j := q) (by omega)
                          have hfG := MG.out.free
                          have XF5 : Hid (Ext w5 wG) := hide (HX5.out.trans DG.out.ext)
                          have hcM : wG.cell? ⟨wA.heap.size, q, none⟩ = some (.slice A2 (membersL k2 S.group q).length c2) := by
                            have h1 := (HTM.out.ext (XB5.out.trans XF5.out)).cell hqt
                            have h2 := Htl.out
                            rw [Hev.out, h2, zs_len] at h1
                            exact h1
                          have hw5 : w5.heap.size < wG.heap.size := lt_of_obj MG.out
                          have hA5 : wA.heap.size < w5.heap.size := Nat.lt_of_lt_of_le HTM.out.lt XB5.out.size
                          have hn5 : ¬ w5.heap.size = wA.heap.size := by omega
                          have hn6 : ¬ wA.heap.size = w5.heap.size := by omega
                          have OG := hide (own_set (i := q) (x := .bool true) (own_extB HO.out DG.out.ext) (Nat.lt_succ_self w5.heap.size))
                          have MS := hide (MG.out.set q)
                          have XS : Hid (Ext w5 (wG.setCell ⟨w5.heap.size, q, none⟩ (.bool true))) := hide (Ext.setCell XF5.out (Nat.le_refl _) _)
                          clear hct hvc2 hcm q7 hb7
                          go_wp2_with (at_builtin; refine wpList_append_row _ rfl _ _ 29 rfl (w5.heap.size + 1) 30 i1 _ 1 24 Tryz.underlying29 hjj hy0 hy1 hy2 rfl (by decide) (.slice AO out.length cO) out.length (out.map (·.val)) rfl (OG.out.alloc _) _ 1 1 [.slice A2 (membersL k2 S.group q).length c2] rfl ?c2 ?c3 ?c4 ?c5 ?c6 ?_)
                          case c2 => exact Row.boxV _ (at_newB _ _ _ (by simp))
                          case c3 => first | rfl | (intro y hy; simp at hy; subst hy; rfl)
                          case c4 => unfold maxLen; omega
                          case c5 => omega
                          case c6 => simp; omega
                          intro v7 w7 hown7 hg7 hat7
                          have X7 := hide (Ext.app (XS.out.alloc _) hg7 (OG.out.alloc _) (Nat.le_succ w5.heap.size))
                          have M7 : Hid (Marks 60 w7 w5.heap.size (tell told q)) := hide (by
                            have e1 : (fun i => i == q || told i) = tell told q := by
                              funext i
                              unfold tell
                              rw [Bool.or_comm]
                            have h1 := MS.out
                            rw [e1] at h1
                            exact ((hg7.block w5.heap.size (by simp; omega) (fun e => by have := (OG.out.lt _ e.symm).1; omega)).trans (Below.heap_alloc _ _ _ (by simp; omega))).trans h1)
                          have O7 : Hid (w7.ownsRow (w5.heap.size + 1) 30 1 v7 (out ++ [tm[q]'hqt]).length ((out ++ [tm[q]'hqt]).map (·.val))) := hide (by
                            rw [List.length_append, List.length_singleton, List.map_append, List.map_singleton, Hev.out, Htl.out, zs_len]
                            exact hown7)
                          obtain ⟨A7, c7, rfl, -, -⟩ := own_slice O7.out
                          clear hown7 hg7 hat7 OG MS XS MG hcG hfG
                          have hol2 : (out ++ [tm[q]'hqt]).length ≤ g := by simp; omega
                          go_wp2
                          go_roundw
                          case rel =>
                            refine ⟨tell told q, out ++ [tm[q]'hqt], gs ++ [membersL k2 S.group q], A7, c7, rfl, hol2, O7, M7, X7, hide ?_, HPk, HTm⟩
                            rw [List.map_append, List.map_append, HOL.out, List.map_singleton, List.map_singleton, Htl.out]
                          case measure => simp [lenV]; omega
                        · rw [hwq] at HW
                          have HF2 : Hid (∀ x ∈ by_.take (j + 1), (!told x && !waitsB (succOf ts) k2 S.group told x) = false) := hide (fun x hx => by
                            rw [Htk.out] at hx
                            rcases List.mem_append.1 hx with hx | hx
                            · exact HF.out x hx
                            · simp at hx; rw [hx, hwq]; simp)
                          clear htq hwq
                          go_wp2
                          go_quiet ((go_at_call 27; exact Calls.quiet_of (HW.out _ (by repeat (first | exact Ext.refl _ | exact Ext.pre (by simp) | exact Ext.alloc (by assumption) _ | refine Ext.alloc ?_ _ |  refine Ext.more ?_ _ _ | refine Ext.drew ?_ | refine Ext.drewN ?_ _))).out))
                          go_wp2
                          go_roundw
                          case rel => exact ⟨j + 1, hlt2, rfl, by go_num, hide (HD.out.on _), HF2⟩
                          case measure => simp [intOf]; omega
                      · rw [htq] at hct
                        have HF2 : Hid (∀ x ∈ by_.take (j + 1), (!told x && !waitsB (succOf ts) k2 S.group told x) = false) := hide (fun x hx => by
                          rw [Htk.out] at hx
                          rcases List.mem_append.1 hx with hx | hx
                          · exact HF.out x hx
                          · simp at hx; rw [hx, htq]; rfl)
                        clear htq
                        go_wp2
                        go_quiet (fail)
                        go_wp2
                        go_roundw
                        case rel => exact ⟨j + 1, hlt2, rfl, by go_num, hide (HD.out.on _), HF2⟩
                        case measure => simp [intOf]; omega
                    · exfalso
                      obtain ⟨g', hg'⟩ := Hnx.out
                      have h1 := List.find?_some hg'
                      have h2 := List.mem_of_find?_eq_some hg'
                      have h3 := HF.out g' (by rw [List.take_of_length_le (by omega)]; exact h2)
                      rw [h1] at h3
                      cases h3
                · have hge4 : ¬ (out.length : Int) < (g : Int) := by omega
                  have hgl : gs.length = out.length := by have := congrArg List.length HOL.out; simpa using this.symm
                  have hgs : gs = groupsOf k2 m := HTell.out.done HG.out (by omega)
                  have HR : Hid (GrpsO 30 3 w.heap.size wF AO (groupsOf k2 m)) := hide (GrpsO.of (HTM.out.ext (XB5.out.trans HX5.out)) HOT.out HO.out (by rw [HOL.out, hgs]) XA.out.size (by have := XA.out.size; have := XA5.out.size; omega) (fun i h k e => by have := ((HTM.out.own i h).lt k e).2; have := XB5.out.size; omega))
                  obtain ⟨A9, c9, e1, e2, e3⟩ := own_slice HO.out
                  injection e1 with e1 e4 e5
                  have hoc : out.length ≤ cO := by omega
                  have hoc2 : cO ≤ 9223372036854775807 := by omega
                  clear e1 e2 e3 e4 e5
                  have hlen2 : (groupsOf k2 m).length = out.length := by rw [← hgs]; exact hgl
                  have Hln := hide hlen2
                  clear hgs hgl hlen2
                  go_wp2
                  go_ret2
                  have hN2 := HN.out
                  rw [hN2, Hln.out]
                  exact ⟨⟨AO, cO, rfl, hoc, hoc2, HR.out⟩, XA.out.trans (XA5.out.trans HX5.out)⟩

end Go.Proofs.YtbfggmeppakcgaaGreat
