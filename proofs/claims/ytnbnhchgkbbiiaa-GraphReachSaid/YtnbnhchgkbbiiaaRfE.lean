/- Contracts on the reference: the groups of any graph, the first that goes round, all vertices in order; whether groups are the same. -/
import Derived.Test.YtnbnhchgkbbiiaaRfD
import Derived.Test.YtnbnhchgkbbiiaaOrdr
import Derived.Test.YtnbnhchgkbbiiaaBut
namespace Go.Proofs.Ytnbnhchgkbbiiaa
open Go.RowKit

set_option maxRecDepth 10000 in
set_option maxHeartbeats 2000000 in
theorem r_groupsA (n : Int) (A : Option Addr) (cap : Nat) (es : List Edge) (w : World) (h : Edges w A es) (hlen : es.length ≤ 100000) :
    Calls Try.prog 13 #[.int .i64 n, .slice A es.length cap] w fun e w' => (∃ A' cap', e = .returned (.tuple #[.slice A' (grpsL n es).length cap', .int .i64 (okN n es)]) ∧ (grpsL n es).length ≤ cap' ∧ cap' ≤ 9223372036854775807 ∧ Grps w' A' (grpsL n es)) ∧ Ext w w' := by
  cases hg : graphOk n es
  · have hG : grpsL n es = [] := by unfold grpsL; rw [hg]; rfl
    have hN : okN n es = 1 := by unfold okN; rw [hg]; rfl
    rw [hG, hN]
    clear hG hN
    have Hc := hide (r_check n A cap es w h hlen)
    rw [hg] at Hc
    clear hg h
    go_enter Try.func13, Try.ntmps13
    go_wp2_with fail
    refine Hc.out.mono ?_
    rintro e w1 ⟨rfl, l1, d1, rfl⟩
    go_wp2
    go_ret2
    exact ⟨⟨none, 0, rfl, Nat.le_refl _, by omega, Grps.nil _⟩, (by repeat (first | exact Ext.refl _ | exact Ext.pre (by simp) | exact Ext.alloc (by assumption) _ | refine Ext.alloc ?_ _ |  refine Ext.more ?_ _ _ | refine Ext.drew ?_ | refine Ext.drewN ?_ _))⟩
  · have h0 : 0 ≤ n := by unfold graphOk at hg; simp at hg; omega
    obtain ⟨k, rfl⟩ := Int.eq_ofNat_of_zero_le h0
    have hG : grpsL k es = groupsOf k (reachB es) := by unfold grpsL; rw [hg]; rfl
    have hN : okN k es = 0 := by unfold okN; rw [hg]; rfl
    rw [hG, hN]
    exact r_groups k A cap es w h hg hlen

/-- A group of one goes round, if its vertex is reached from itself. -/
theorem round_ref {n : Int} {es : List Edge} {g : List Nat} (h : g ∈ grpsL n es) : (decide (1 < g.length) || reachB es (g.getD 0 0) (g.getD 0 0)) = roundL es g := by
  unfold roundL
  cases hd : decide (1 < g.length)
  · have hl : g.length = 1 := by have := (grps_mem h).1; simp at hd; omega
    unfold grpsL at h
    split at h
    · rename_i hg
      have h0 : 0 ≤ n := by unfold graphOk at hg; simp at hg; omega
      obtain ⟨k, rfl⟩ := Int.eq_ofNat_of_zero_le h0
      have hok : ∀ e ∈ es, edgeOk k e = true := by unfold graphOk at hg; simp at hg; exact hg.2
      obtain ⟨a, ha, _, e⟩ := selGo_mem _ _ _ h
      obtain ⟨x, hx⟩ : ∃ x, g = [x] := List.length_eq_one_iff.1 hl
      rw [hx] at e ⊢
      have ha2 : a < k := ha
      have hs : ∀ x, x < k → ∀ y ∈ nextN es x, y < k := by
        intro x _ y hy
        have := (mem_next hok).1 hy
        unfold pairsN at this
        obtain ⟨e, he, e2⟩ := List.mem_map.1 this
        have := hok e he
        unfold edgeOk at this
        simp at this
        injection e2
        omega
      obtain ⟨h1, h2⟩ := comp_one (succ := nextN es) (n := k) (m := reachB es) hs (fun i j _ => reachB_iff es i j) ha2 e.symm
      subst h1
      simp only [List.getD_cons_zero, Bool.false_or]
      apply bool_eq
      rw [reachB_iff, h2, mem_next hok, List.any_eq_true]
      unfold pairsN
      simp only [List.mem_map, edge_beq, Bool.and_eq_true, beq_iff_eq]
      constructor
      · rintro ⟨e, he, e2⟩
        injection e2 with e3 e4
        have := hok e he
        unfold edgeOk at this
        simp at this
        exact ⟨e, he, by omega, by omega⟩
      · rintro ⟨e, he, e3, e4⟩
        exact ⟨e, he, by rw [e3, e4]; rfl⟩
    · cases h
  · rfl

set_option maxRecDepth 10000 in
set_option maxHeartbeats 4000000 in
theorem r_cycle (n : Int) (A : Option Addr) (cap : Nat) (es : List Edge) (w : World) (h : Edges w A es) (hlen : es.length ≤ 100000) :
    Calls Try.prog 21 #[.int .i64 n, .slice A es.length cap] w fun e w' => (∃ A' cap', e = .returned (.slice A' (cycleL n es).length cap') ∧ (cycleL n es).length ≤ cap' ∧ cap' ≤ 9223372036854775807 ∧ Ints w' A' (zs (cycleL n es))) ∧ Ext w w' := by
  have Hr := hide h
  have Hmem := hide (fun g (hg : g ∈ grpsL n es) => grps_mem hg)
  have Hrr := hide (fun g (hg : g ∈ grpsL n es) => round_ref hg)
  have Hok : Hid (∀ g ∈ grpsL n es, graphOk n es = true) := hide (fun g hg => by
    unfold grpsL at hg
    split at hg
    · assumption
    · cases hg)
  have hgl := grps_len n es
  have Hgr := hide (r_groupsA n A cap es w h hlen)
  have HR : Hid ((((grpsL n es).drop 0).find? (roundL es)).getD [] = cycleL n es) := hide rfl
  generalize cycleL n es = R at *
  clear h
  generalize grpsL n es = gs at *
  go_enter Try.func21, Try.ntmps21
  go_wp2_with fail
  refine Hgr.out.mono ?_
  rintro e w1 ⟨⟨A1, c1, rfl, h1, h2, hG⟩, hx1⟩
  have HG := hide hG
  have HX1 := hide hx1
  clear hG hx1
  go_wp2
  go_loopw [7] (fun i wr => ∃ k : Nat, k ≤ gs.length ∧ i = .int .i64 k ∧ Hid (Ext w1 wr) ∧ Hid (((gs.drop k).find? (roundL es)).getD [] = R)) (fun i _ => gs.length - (intOf i).toNat)
  case atStart => exact ⟨0, Nat.zero_le _, rfl, hide (Ext.refl _), HR⟩
  case round =>
    obtain ⟨k, hk, rfl, HX, HK⟩ := hrel
    by_cases hlt : k < gs.length
    · have hlt' : (k : Int) < (gs.length : Int) := by omega
      obtain ⟨b, o, A2, c2, rfl, hb, q1, q2, q3, q4⟩ := (HG.out.ext HX.out).at_ hlt
      have HI := hide q4
      obtain ⟨m1, m2, m3⟩ := Hmem.out _ (List.getElem_mem hlt)
      have Hr2 := hide (Hrr.out _ (List.getElem_mem hlt))
      have hok := Hok.out _ (List.getElem_mem hlt)
      have HK2 : Hid ((if roundL es (gs[k]'hlt) then some (gs[k]'hlt) else (gs.drop (k + 1)).find? (roundL es)).getD [] = R) := hide (by rw [← find_drop]; exact HK.out)
      clear q4
      generalize gs[k]'hlt = g at *
      have hz : 0 < (zs g).length := by rw [zs_len]; exact m1
      obtain ⟨b5, o5, rfl, hb5, q5⟩ := Ints.at_ HI.out hz
      rw [zs_get _ hz m1, Nat.add_zero] at q5
      have hv := m3 _ (List.getElem_mem m1)
      have Hv : Hid (g.getD 0 0 = g[0]'m1) := hide (by simp [m1])
      generalize g[0]'m1 = v at *
      have h0 : 0 ≤ n := by unfold graphOk at hok; simp at hok; omega
      obtain ⟨N, hN⟩ := Int.eq_ofNat_of_zero_le h0
      have hN2 := hide hN
      have hm : N ≤ 1000 := by unfold graphOk at hok; simp at hok; omega
      have hoke : ∀ e ∈ es, edgeOk N e = true := by unfold graphOk at hok; simp at hok; rw [hN] at hok; exact hok.2
      have hvN : v < N := by omega
      have Hmk : Hid (∀ w', Ext wr w' → Hid (Calls Try.prog 43 #[.int .i64 n, .slice A es.length cap, .int .i64 v] w' fun e w'' => (∃ b M, e = .returned (.slice (some ⟨b, 0, none⟩) N N) ∧ w'.heap.size ≤ b ∧ BoolB 4 w'' b N M ∧ ∀ j, M j = true ↔ SR (nextN es) v j) ∧ Ext w' w'')) := hide (fun w' e => by
        rw [hN]
        exact r_marks N v A cap es w' (RowOf.ext edgeC Hr.out ((HX1.out.trans HX.out).trans e)) hm hlen hoke hvN)
      have hvi : (v : Int) < (N : Int) := by omega
      have hvi0 : (0 : Int) ≤ (v : Int) := by omega
      have hl0 : (0 : Int) < (g.length : Int) := by omega
      clear hok hoke h0 m3 hv hN
      by_cases hg1 : 1 < g.length
      · have hrt : roundL es g = true := by rw [← Hr2.out]; simp [hg1]
        rw [hrt] at HK2
        have hR : R = g := HK2.out.symm
        clear HK2 HK HR hrt Hr2
        subst hR
        have hd : (R.length : Int) > 1 := by omega
        have hd2 : decide ((R.length : Int) > 1) = true := by simpa using hd
        go_wp2
        go_quiet (fail)
        go_wp2
        go_ret
        exact ⟨⟨some ⟨b5, o5, none⟩, c2, rfl, q2, q3, RowOf.ext intC HI.out (by repeat (first | exact Ext.refl _ | exact Ext.pre (by simp) | exact Ext.alloc (by assumption) _ | refine Ext.alloc ?_ _ |  refine Ext.more ?_ _ _ | refine Ext.drew ?_ | refine Ext.drewN ?_ _))⟩, (HX1.out.trans HX.out).trans (by repeat (first | exact Ext.refl _ | exact Ext.pre (by simp) | exact Ext.alloc (by assumption) _ | refine Ext.alloc ?_ _ |  refine Ext.more ?_ _ _ | refine Ext.drew ?_ | refine Ext.drewN ?_ _))⟩
      · have hrt : roundL es g = reachB es v v := by
          rw [← Hr2.out, Hv.out]
          have : decide (1 < g.length) = false := by simpa using hg1
          rw [this, Bool.false_or]
        rw [hrt] at HK2
        have hd : ¬ (g.length : Int) > 1 := by omega
        have hd2 : decide ((g.length : Int) > 1) = false := by simpa using hd
        have Hq1 := hide q1
        have Hq5 := hide q5
        clear hrt Hr2 HK HR
        go_wp2
        have hS0 : wr.drew.cell? ⟨b, o + k, none⟩ = some (.slice (some ⟨b5, o5, none⟩) g.length c2) ∧ wr.drew.cell? ⟨b5, o5, none⟩ = some (.int .i64 (v : Int)) := ⟨q1, q5⟩
        refine but_startN 99 25 #[false, false, false, false, false, false, false, false, false, false, false, false, false, false, false, false, false, false, false, false, false, false, false, false, false] (fun w' => w'.cell? ⟨b, o + k, none⟩ = some (.slice (some ⟨b5, o5, none⟩) g.length c2) ∧ w'.cell? ⟨b5, o5, none⟩ = some (.int .i64 (v : Int))) (by kernel_rfl) (by kernel_rfl) (by kernel_rfl) ?_
        (refine but_takeL (i := 0) (v := ?_) rfl (by kernel_rfl) (by kernel_rfl) (by kernel_rfl) (by kernel_rfl) (fun _ _ _ h => h) (Or.inl ⟨by kernel_rfl, ?_⟩) (by assumption) ?_; rotate_left 1; (focus (intro w hSw; (try dsimp only at hSw); (try obtain ⟨g1, g2, g3⟩ := hSw); (try obtain ⟨g1, g2⟩ := hSw); go_simp; try with_reducible rfl)); simp only [Act.put, List.setIfInBounds_toArray, List.set_cons_zero, List.set_cons_succ])
        (refine but_takeL (i := 1) (v := ?_) rfl (by kernel_rfl) (by kernel_rfl) (by kernel_rfl) (by kernel_rfl) (fun _ _ _ h => h) (Or.inl ⟨by kernel_rfl, ?_⟩) (by assumption) ?_; rotate_left 1; (focus (intro w hSw; (try dsimp only at hSw); (try obtain ⟨g1, g2, g3⟩ := hSw); (try obtain ⟨g1, g2⟩ := hSw); go_simp; try with_reducible rfl)); simp only [Act.put, List.setIfInBounds_toArray, List.set_cons_zero, List.set_cons_succ])
        (refine but_takeL (i := 2) (v := ?_) rfl (by kernel_rfl) (by kernel_rfl) (by kernel_rfl) (by kernel_rfl) (fun _ _ _ h => h) (Or.inl ⟨by kernel_rfl, ?_⟩) (by assumption) ?_; rotate_left 1; (focus (intro w hSw; (try dsimp only at hSw); (try obtain ⟨g1, g2, g3⟩ := hSw); (try obtain ⟨g1, g2⟩ := hSw); go_simp; try with_reducible rfl)); simp only [Act.put, List.setIfInBounds_toArray, List.set_cons_zero, List.set_cons_succ])
        (refine but_takeL (i := 3) (v := ?_) rfl (by kernel_rfl) (by kernel_rfl) (by kernel_rfl) (by kernel_rfl) (fun _ _ _ h => h) (Or.inl ⟨by kernel_rfl, ?_⟩) (by assumption) ?_; rotate_left 1; (focus (intro w hSw; (try dsimp only at hSw); (try obtain ⟨g1, g2, g3⟩ := hSw); (try obtain ⟨g1, g2⟩ := hSw); go_simp; try with_reducible rfl)); simp only [Act.put, List.setIfInBounds_toArray, List.set_cons_zero, List.set_cons_succ])
        (refine but_takeL (i := 4) (v := ?_) rfl (by kernel_rfl) (by kernel_rfl) (by kernel_rfl) (by kernel_rfl) (fun _ _ _ h => h) (Or.inl ⟨by kernel_rfl, ?_⟩) (by assumption) ?_; rotate_left 1; (focus (intro w hSw; (try dsimp only at hSw); (try obtain ⟨g1, g2, g3⟩ := hSw); (try obtain ⟨g1, g2⟩ := hSw); go_simp; try with_reducible rfl)); simp only [Act.put, List.setIfInBounds_toArray, List.set_cons_zero, List.set_cons_succ])
        (refine but_takeL (i := 5) (v := ?_) rfl (by kernel_rfl) (by kernel_rfl) (by kernel_rfl) (by kernel_rfl) (fun _ _ _ h => h) (Or.inl ⟨by kernel_rfl, ?_⟩) (by assumption) ?_; rotate_left 1; (focus (intro w hSw; (try dsimp only at hSw); (try obtain ⟨g1, g2, g3⟩ := hSw); (try obtain ⟨g1, g2⟩ := hSw); go_simp; try with_reducible rfl)); simp only [Act.put, List.setIfInBounds_toArray, List.set_cons_zero, List.set_cons_succ])
        (refine but_takeL (i := 6) (v := ?_) rfl (by kernel_rfl) (by kernel_rfl) (by kernel_rfl) (by kernel_rfl) (fun _ _ _ h => h) (Or.inl ⟨by kernel_rfl, ?_⟩) (by assumption) ?_; rotate_left 1; (focus (intro w hSw; (try dsimp only at hSw); (try obtain ⟨g1, g2, g3⟩ := hSw); (try obtain ⟨g1, g2⟩ := hSw); go_simp; try with_reducible rfl)); simp only [Act.put, List.setIfInBounds_toArray, List.set_cons_zero, List.set_cons_succ])
        (refine but_takeL (i := 7) (v := ?_) rfl (by kernel_rfl) (by kernel_rfl) (by kernel_rfl) (by kernel_rfl) (fun _ _ _ h => h) (Or.inl ⟨by kernel_rfl, ?_⟩) (by assumption) ?_; rotate_left 1; (focus (intro w hSw; (try dsimp only at hSw); (try obtain ⟨g1, g2, g3⟩ := hSw); (try obtain ⟨g1, g2⟩ := hSw); go_simp; try with_reducible rfl)); simp only [Act.put, List.setIfInBounds_toArray, List.set_cons_zero, List.set_cons_succ])
        (refine but_takeL (i := 8) (v := ?_) rfl (by kernel_rfl) (by kernel_rfl) (by kernel_rfl) (by kernel_rfl) (fun _ _ _ h => h) (Or.inl ⟨by kernel_rfl, ?_⟩) (by assumption) ?_; rotate_left 1; (focus (intro w hSw; (try dsimp only at hSw); (try obtain ⟨g1, g2, g3⟩ := hSw); (try obtain ⟨g1, g2⟩ := hSw); go_simp; try with_reducible rfl)); simp only [Act.put, List.setIfInBounds_toArray, List.set_cons_zero, List.set_cons_succ])
        (refine but_takeL (i := 9) (v := ?_) rfl (by kernel_rfl) (by kernel_rfl) (by kernel_rfl) (by kernel_rfl) (fun _ _ _ h => h) (Or.inl ⟨by kernel_rfl, ?_⟩) (by assumption) ?_; rotate_left 1; (focus (intro w hSw; (try dsimp only at hSw); (try obtain ⟨g1, g2, g3⟩ := hSw); (try obtain ⟨g1, g2⟩ := hSw); go_simp; try with_reducible rfl)); simp only [Act.put, List.setIfInBounds_toArray, List.set_cons_zero, List.set_cons_succ])
        (refine but_takeL (i := 10) (v := ?_) rfl (by kernel_rfl) (by kernel_rfl) (by kernel_rfl) (by kernel_rfl) (fun _ _ _ h => h) (Or.inl ⟨by kernel_rfl, ?_⟩) (by assumption) ?_; rotate_left 1; (focus (intro w hSw; (try dsimp only at hSw); (try obtain ⟨g1, g2, g3⟩ := hSw); (try obtain ⟨g1, g2⟩ := hSw); go_simp; try with_reducible rfl)); simp only [Act.put, List.setIfInBounds_toArray, List.set_cons_zero, List.set_cons_succ])
        (refine but_takeL (i := 11) (v := ?_) rfl (by kernel_rfl) (by kernel_rfl) (by kernel_rfl) (by kernel_rfl) (fun _ _ _ h => h) (Or.inl ⟨by kernel_rfl, ?_⟩) (by assumption) ?_; rotate_left 1; (focus (intro w hSw; (try dsimp only at hSw); (try obtain ⟨g1, g2, g3⟩ := hSw); (try obtain ⟨g1, g2⟩ := hSw); go_simp; try with_reducible rfl)); simp only [Act.put, List.setIfInBounds_toArray, List.set_cons_zero, List.set_cons_succ])
        (refine but_takeL (i := 12) (v := ?_) rfl (by kernel_rfl) (by kernel_rfl) (by kernel_rfl) (by kernel_rfl) (fun _ _ _ h => h) (Or.inl ⟨by kernel_rfl, ?_⟩) (by assumption) ?_; rotate_left 1; (focus (intro w hSw; (try dsimp only at hSw); (try obtain ⟨g1, g2, g3⟩ := hSw); (try obtain ⟨g1, g2⟩ := hSw); go_simp; try with_reducible rfl)); simp only [Act.put, List.setIfInBounds_toArray, List.set_cons_zero, List.set_cons_succ])
        (refine but_takeL (i := 13) (v := ?_) rfl (by kernel_rfl) (by kernel_rfl) (by kernel_rfl) (by kernel_rfl) (fun _ _ _ h => h) (Or.inl ⟨by kernel_rfl, ?_⟩) (by assumption) ?_; rotate_left 1; (focus (intro w hSw; (try dsimp only at hSw); (try obtain ⟨g1, g2, g3⟩ := hSw); (try obtain ⟨g1, g2⟩ := hSw); go_simp; try with_reducible rfl)); simp only [Act.put, List.setIfInBounds_toArray, List.set_cons_zero, List.set_cons_succ])
        (refine but_takeL (i := 14) (v := ?_) rfl (by kernel_rfl) (by kernel_rfl) (by kernel_rfl) (by kernel_rfl) (fun _ _ _ h => h) (Or.inl ⟨by kernel_rfl, ?_⟩) (by assumption) ?_; rotate_left 1; (focus (intro w hSw; (try dsimp only at hSw); (try obtain ⟨g1, g2, g3⟩ := hSw); (try obtain ⟨g1, g2⟩ := hSw); go_simp; try with_reducible rfl)); simp only [Act.put, List.setIfInBounds_toArray, List.set_cons_zero, List.set_cons_succ])
        (refine but_takeL (i := 16) (v := ?_) rfl (by kernel_rfl) (by kernel_rfl) (by kernel_rfl) (by kernel_rfl) (fun _ _ _ h => h) (Or.inl ⟨by kernel_rfl, ?_⟩) (by assumption) ?_; rotate_left 1; (focus (intro w hSw; (try dsimp only at hSw); (try obtain ⟨g1, g2, g3⟩ := hSw); (try obtain ⟨g1, g2⟩ := hSw); go_simp; try with_reducible rfl)); simp only [Act.put, List.setIfInBounds_toArray, List.set_cons_zero, List.set_cons_succ])
        (refine but_takeL (i := 17) (v := ?_) rfl (by kernel_rfl) (by kernel_rfl) (by kernel_rfl) (by kernel_rfl) (fun _ _ _ h => h) (Or.inl ⟨by kernel_rfl, ?_⟩) (by assumption) ?_; rotate_left 1; (focus (intro w hSw; (try dsimp only at hSw); (try obtain ⟨g1, g2, g3⟩ := hSw); (try obtain ⟨g1, g2⟩ := hSw); go_simp; try with_reducible rfl)); simp only [Act.put, List.setIfInBounds_toArray, List.set_cons_zero, List.set_cons_succ])
        (refine but_takeL (i := 18) (v := ?_) rfl (by kernel_rfl) (by kernel_rfl) (by kernel_rfl) (by kernel_rfl) (fun _ _ _ h => h) (Or.inl ⟨by kernel_rfl, ?_⟩) (by assumption) ?_; rotate_left 1; (focus (intro w hSw; (try dsimp only at hSw); (try obtain ⟨g1, g2, g3⟩ := hSw); (try obtain ⟨g1, g2⟩ := hSw); go_simp; try with_reducible rfl)); simp only [Act.put, List.setIfInBounds_toArray, List.set_cons_zero, List.set_cons_succ])
        (refine but_takeL (i := 19) (v := ?_) rfl (by kernel_rfl) (by kernel_rfl) (by kernel_rfl) (by kernel_rfl) (fun _ _ _ h => h) (Or.inl ⟨by kernel_rfl, ?_⟩) (by assumption) ?_; rotate_left 1; (focus (intro w hSw; (try dsimp only at hSw); (try obtain ⟨g1, g2, g3⟩ := hSw); (try obtain ⟨g1, g2⟩ := hSw); go_simp; try with_reducible rfl)); simp only [Act.put, List.setIfInBounds_toArray, List.set_cons_zero, List.set_cons_succ])
        (refine but_takeL (i := 20) (v := ?_) rfl (by kernel_rfl) (by kernel_rfl) (by kernel_rfl) (by kernel_rfl) (fun _ _ _ h => h) (Or.inl ⟨by kernel_rfl, ?_⟩) (by assumption) ?_; rotate_left 1; (focus (intro w hSw; (try dsimp only at hSw); (try obtain ⟨g1, g2, g3⟩ := hSw); (try obtain ⟨g1, g2⟩ := hSw); go_simp; try with_reducible rfl)); simp only [Act.put, List.setIfInBounds_toArray, List.set_cons_zero, List.set_cons_succ])
        (refine but_takeL (i := 21) (v := ?_) rfl (by kernel_rfl) (by kernel_rfl) (by kernel_rfl) (by kernel_rfl) (fun _ _ _ h => h) (Or.inl ⟨by kernel_rfl, ?_⟩) (by assumption) ?_; rotate_left 1; (focus (intro w hSw; (try dsimp only at hSw); (try obtain ⟨g1, g2, g3⟩ := hSw); (try obtain ⟨g1, g2⟩ := hSw); go_simp; try with_reducible rfl)); simp only [Act.put, List.setIfInBounds_toArray, List.set_cons_zero, List.set_cons_succ])
        refine but_step (i := 15) (by kernel_rfl) rfl (fun KK hK => ?_)
        go_simp
        refine Calls.mono (Hmk.out _ (Ext.refl wr).drew).out ?_
        rintro e w8 ⟨⟨bm, M, rfl, -, hB, hM⟩, hx8⟩
        have X8 : Hid (Ext wr w8) := hide (((Ext.refl wr).drew).trans hx8)
        have hMe : M = reachB es v := funext fun x => bool_eq ((hM x).trans (reachB_iff es v x).symm)
        subst hMe
        have hcb := hB.cell hvN
        have h81 : w8.cell? ⟨b, o + k, none⟩ = some (.slice (some ⟨b5, o5, none⟩) g.length c2) := (World.cell?_of_block (a := ⟨b, o + k, none⟩) (X8.out.heap hb)).trans Hq1.out
        have h85 : w8.cell? ⟨b5, o5, none⟩ = some (.int .i64 (v : Int)) := (World.cell?_of_block (a := ⟨b5, o5, none⟩) (X8.out.heap hb5)).trans Hq5.out
        clear hx8 hB hM
        refine hK.out _ _ (fun _ => ⟨h81, h85⟩) ?_
        have hS8 := And.intro h81 h85
        clear hK KK
        simp only [List.setIfInBounds_toArray, List.set_cons_zero, List.set_cons_succ]
        refine but_step (i := 22) (by kernel_rfl) rfl (fun KK hK => ?_)
        go_simp
        refine hK.out _ _ (fun _ => hS8) ?_
        clear hK KK
        simp only [List.setIfInBounds_toArray, List.set_cons_zero, List.set_cons_succ]
        refine but_step (i := 23) (by kernel_rfl) rfl (fun KK hK => ?_)
        go_simp
        refine hK.out _ _ (fun _ => hS8) ?_
        clear hK KK
        simp only [List.setIfInBounds_toArray, List.set_cons_zero, List.set_cons_succ]
        refine but_step (i := 24) (by kernel_rfl) rfl (fun KK hK => ?_)
        go_simp
        refine hK.out _ _ (fun _ => hS8) ?_
        clear hK KK
        simp only [List.setIfInBounds_toArray, List.set_cons_zero, List.set_cons_succ]
        refine but_done (by kernel_rfl) ?_ _
        clear hS0 hS8
        cases hvv : reachB es v v
        · rw [hvv] at HK2
          clear hvv
          go_wp2
          go_roundw
          case rel => exact ⟨k + 1, hlt, by go_num, hide (HX.out.trans X8.out), hide HK2.out⟩
          case measure => simp [intOf]; omega
        · rw [hvv] at HK2
          have hR : R = g := HK2.out.symm
          clear hvv HK2
          subst hR
          go_wp2
          go_ret
          exact ⟨⟨some ⟨b5, o5, none⟩, c2, rfl, q2, q3, RowOf.ext intC HI.out X8.out⟩, (HX1.out.trans HX.out).trans X8.out⟩
    · have hge : (gs.length : Int) ≤ (k : Int) := by omega
      have hR : R = [] := by
        have := HK.out
        rw [List.drop_eq_nil_of_le (by omega)] at this
        exact this.symm
      clear HK HR
      subst hR
      go_wp2
      go_ret
      exact ⟨⟨none, 0, rfl, Nat.le_refl _, by omega, RowOf.nil _ _ _⟩, HX1.out.trans HX.out⟩

set_option maxRecDepth 10000 in
set_option maxHeartbeats 4000000 in
theorem r_order (n : Int) (A : Option Addr) (cap : Nat) (es : List Edge) (w : World) (h : Edges w A es) (hlen : es.length ≤ 100000) :
    Calls Try.prog 15 #[.int .i64 n, .slice A es.length cap] w fun e w' => (∃ A' cap', e = .returned (.tuple #[.slice A' (orderL n es).length cap', .int .i64 (orderN n es)]) ∧ (orderL n es).length ≤ cap' ∧ cap' ≤ 9223372036854775807 ∧ Ints w' A' (zs (orderL n es))) ∧ Ext w w' := by
  obtain ⟨i0, hi, hz0, hz1, hz2⟩ := info_parts int_info
  have Hr := hide h
  have Hmem := hide (fun g (hg : g ∈ grpsL n es) => grps_mem hg)
  have hgl := grps_len n es
  have Hgr := hide (r_groupsA n A cap es w h hlen)
  have Hcy := hide (fun w' (e : Ext w w') => hide (r_cycle n A cap es w' (RowOf.ext edgeC h e) hlen))
  cases hok : graphOk n es
  · have e1 : orderL n es = [] := by unfold orderL; rw [hok]; rfl
    have e2 : orderN n es = 1 := by unfold orderN; rw [hok]; rfl
    have e3 : okN n es = 1 := by unfold okN; rw [hok]; rfl
    rw [e1, e2]
    rw [e3] at Hgr
    clear e1 e2 e3 hok h
    generalize grpsL n es = gs at *
    go_enter Try.func15, Try.ntmps15
    go_wp2_with fail
    refine Hgr.out.mono ?_
    rintro e w1 ⟨⟨A1, c1, rfl, -, -, -⟩, hx1⟩
    go_wp2
    go_ret2
    exact ⟨⟨none, 0, rfl, Nat.le_refl _, by omega, RowOf.nil _ _ _⟩, hx1⟩
  · have e3 : okN n es = 0 := by unfold okN; rw [hok]; rfl
    have HL : Hid (orderL n es = if (grpsL n es).any (roundL es) then [] else (grpsL n es).flatten) := hide (by unfold orderL; rw [hok]; cases (grpsL n es).any (roundL es) <;> rfl)
    have HN : Hid (orderN n es = if (grpsL n es).any (roundL es) then 9 else 0) := hide (by unfold orderN; rw [hok]; rfl)
    have HC : Hid ((0 < (cycleL n es).length) ↔ (grpsL n es).any (roundL es) = true) := hide (by
      unfold cycleL
      rw [List.any_eq_true]
      cases hf : (grpsL n es).find? (roundL es)
      · rw [List.find?_eq_none] at hf
        simp only [Option.getD_none, List.length_nil, Nat.lt_irrefl, false_iff]
        rintro ⟨x, hx, h2⟩
        exact hf x hx h2
      · rename_i g
        have h1 := List.mem_of_find?_eq_some hf
        have h2 := List.find?_some hf
        simp only [Option.getD_some]
        exact ⟨fun _ => ⟨g, h1, h2⟩, fun _ => (grps_mem h1).1⟩)
    rw [e3] at Hgr
    clear e3 hok h
    generalize orderL n es = OL at *
    generalize orderN n es = ON at *
    generalize grpsL n es = gs at *
    generalize cycleL n es = CY at *
    generalize hAny : gs.any (roundL es) = R at *
    clear hAny
    cases R
    · have hcy : CY.length = 0 := by have := HC.out; simp at this; simp [this]
      have e4 : OL = gs.flatten := HL.out
      have e5 : ON = 0 := HN.out
      rw [hcy] at Hcy
      clear HL HN HC hcy
      have E4 := hide e4
      clear e4
      subst e5
      go_enter Try.func15, Try.ntmps15
      go_wp2_with fail
      refine Hgr.out.mono ?_
      rintro e w1 ⟨⟨A1, c1, rfl, h1, h2, hG⟩, hx1⟩
      have HX1 := hide hx1
      have HG1 := hide hG
      clear hG hx1
      go_wp2_with fail
      refine (Hcy.out _ HX1.out).out.mono ?_
      rintro e w2 ⟨⟨A2, c2, rfl, -, -, -⟩, hx2⟩
      have HG := hide (HG1.out.ext hx2)
      have HX2 := hide (HX1.out.trans hx2)
      clear hx2 HG1
      go_wp2
      go_loopw [8, 9] (fun u i wr => ∃ k : Nat, k ≤ gs.length ∧ i = .int .i64 k ∧ (gs.take k).flatten.length ≤ k * 1000 ∧ Hid (Ext w2 wr) ∧ Hid (wr.ownsRow w2.heap.size 3 1 u (gs.take k).flatten.length ((zs (gs.take k).flatten).map (Value.int .i64)))) (fun _ i _ => gs.length - (intOf i).toNat)
      case atStart => exact ⟨0, Nat.zero_le _, rfl, by simp, hide (Ext.refl _), hide (World.ownsRow_nil _ _ _ _)⟩
      case round =>
        obtain ⟨k, hk, rfl, hfl, HX, HO⟩ := hrel
        by_cases hlt : k < gs.length
        · have hlt' : (k : Int) < (gs.length : Int) := by omega
          obtain ⟨b, o, A3, c3, rfl, hb, q1, q2, q3, q4⟩ := (HG.out.ext HX.out).at_ hlt
          have HI := hide q4
          obtain ⟨m1, m2, _⟩ := Hmem.out _ (List.getElem_mem hlt)
          have Htk : Hid ((gs.take (k + 1)).flatten = (gs.take k).flatten ++ gs[k]'hlt) := hide (by rw [List.take_succ_eq_append_getElem hlt, List.flatten_append]; simp)
          clear q4
          generalize gs[k]'hlt = g at *
          generalize hF : (gs.take k).flatten = F at *
          have HF := hide hF
          clear hF
          go_wp2_with (at_builtin; refine wpList_append_row _ rfl _ _ 31 rfl w2.heap.size 3 i0 _ 1 8 Try.underlying31 hi hz0 hz1 hz2 rfl (by decide) u8 F.length ((zs F).map (Value.int .i64)) rfl HO.out A3 g.length c3 ((zs g).map (Value.int .i64)) rfl ?c2 ?c3 ?c4 ?c5 ?c6 ?_)
          case c2 => have := Ints.row HI.out; rwa [zs_len] at this
          case c3 => exact one_ints _
          case c4 => unfold maxLen; omega
          case c5 => omega
          case c6 => exact HX.out.size
          intro v4 w4 hown4 hg4 _
          have X4 := hide (Ext.app HX.out hg4 HO.out (Nat.le_refl _))
          have O4 := hide hown4
          clear hown4 hg4
          go_wp2
          go_roundw
          case rel =>
            refine ⟨k + 1, hlt, by go_num, ?_, X4, hide ?_⟩
            · rw [Htk.out, List.length_append]; omega
            · rw [Htk.out]
              have e1 : zs (F ++ g) = zs F ++ zs g := by unfold zs; rw [List.map_append]
              rw [List.length_append, e1, List.map_append]
              exact O4.out
          case measure => simp [intOf]; omega
        · have hge : (gs.length : Int) ≤ (k : Int) := by omega
          have e6 : gs.take k = gs := List.take_of_length_le (by omega)
          rw [e6, ← E4.out] at HO
          clear e6
          obtain ⟨A5, c5, rfl, p1, p2, p3, _⟩ := Ints.own (l := zs OL) (by rw [zs_len]; exact HO.out)
          have P3 := hide p3
          rw [zs_len] at p1
          clear p3
          go_wp2
          go_ret2
          rw [zs_len]
          exact ⟨⟨A5, c5, rfl, p1, p2, P3.out⟩, HX2.out.trans HX.out⟩
    · have hcy : 0 < CY.length := HC.out.2 rfl
      have e4 : OL = [] := HL.out
      have e5 : ON = 9 := HN.out
      clear HL HN HC
      subst e4 e5
      have hcy2 : (0 : Int) < (CY.length : Int) := by omega
      have hcy3 : (CY.length : Int) > 0 := hcy2
      go_enter Try.func15, Try.ntmps15
      go_wp2_with fail
      refine Hgr.out.mono ?_
      rintro e w1 ⟨⟨A1, c1, rfl, h1, h2, hG⟩, hx1⟩
      have HX1 := hide hx1
      clear hG hx1
      go_wp2_with fail
      refine (Hcy.out _ HX1.out).out.mono ?_
      rintro e w2 ⟨⟨A2, c2, rfl, -, -, -⟩, hx2⟩
      have HX2 := hide hx2
      clear hx2
      go_wp2
      go_ret2
      exact ⟨⟨none, 0, rfl, Nat.le_refl _, by omega, RowOf.nil _ _ _⟩, HX1.out.trans HX2.out⟩

end Go.Proofs.Ytnbnhchgkbbiiaa
