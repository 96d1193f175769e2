/- Contracts: groups alike; a vertex's group; not too many vertices and edges. -/
import Derived.Test.YtnbnhchgkbbiiaaRfE
import Derived.Test.YtnbnhchgkbbiiaaRInt
namespace Go.Proofs.Ytnbnhchgkbbiiaa
open Go.RowKit

theorem alike_groups {gs hs : List (List Nat)} (hlen : gs.length = hs.length) (h : ∀ i, i < gs.length → gs.getD i [] = hs.getD i []) : gs = hs := by
  apply List.ext_getElem hlen
  intro i h1 h2
  have := h i h1
  simpa [h1, h2] using this
theorem alike_nats {l m : List Nat} (hlen : l.length = m.length) (h : ∀ i, i < l.length → l.getD i 0 = m.getD i 0) : l = m := by
  apply List.ext_getElem hlen
  intro i h1 h2
  have := h i h1
  simpa [h1, h2] using this

set_option maxRecDepth 10000 in
set_option maxHeartbeats 4000000 in
theorem r_same (A B : Option Addr) (cap cap' : Nat) (gs hs : List (List Nat)) (w : World) (hg : Grps w A gs) (hh : Grps w B hs) (hgl : gs.length ≤ 1000) :
    Calls Try.prog 18 #[.slice A gs.length cap, .slice B hs.length cap'] w fun e w' => e = .returned (.bool (decide (gs = hs))) ∧ Ext w w' := by
  by_cases hlen : gs.length = hs.length
  · have Hall : Hid ((∀ j, j < gs.length → gs.getD j [] = hs.getD j []) → decide (gs = hs) = true) := hide (fun hall => decide_eq_true (alike_groups hlen hall))
    have Hne : Hid (∀ j, gs.getD j [] ≠ hs.getD j [] → decide (gs = hs) = false) := hide (fun j hj => decide_eq_false (fun e => hj (by rw [e])))
    have HG := hide hg
    have HH := hide hh
    have Hlen := hide hlen
    clear hg hh
    generalize decide (gs = hs) = R at *
    rw [← hlen]
    clear hlen
    go_enter Try.func18, Try.ntmps18
    go_wp2
    go_loopw [5] (fun i wr => ∃ j : Nat, j ≤ gs.length ∧ i = .int .i64 j ∧ Hid (∀ i, i < j → gs.getD i [] = hs.getD i []) ∧ Hid (Ext w wr)) (fun i _ => gs.length - (intOf i).toNat)
    case atStart => exact ⟨0, Nat.zero_le _, rfl, hide (fun i hi => absurd hi (by omega)), hide (by repeat (first | exact Ext.refl _ | exact Ext.pre (by simp) | exact Ext.alloc (by assumption) _ | refine Ext.alloc ?_ _ |  refine Ext.more ?_ _ _ | refine Ext.drew ?_ | refine Ext.drewN ?_ _))⟩
    case round =>
      obtain ⟨j, hj, rfl, Hj, HX⟩ := hrel
      by_cases hlt : j < gs.length
      · have hlt2 : j < hs.length := by rw [← Hlen.out]; exact hlt
        obtain ⟨b, o, A1, c1, rfl, hb, q1, p1, p2, p3⟩ := (HG.out.ext HX.out).at_ hlt
        obtain ⟨b', o', A2, c2, rfl, hb', q2, r1, r2, r3⟩ := (HH.out.ext HX.out).at_ hlt2
        have hlt' : (j : Int) < (gs.length : Int) := by omega
        have hj0 : (0 : Int) ≤ (j : Int) := by omega
        have HI := hide p3
        have HI2 := hide r3
        have Hy : Hid (gs.getD j [] = gs[j]'hlt) := hide (by simp [hlt])
        have Hz : Hid (hs.getD j [] = hs[j]'hlt2) := hide (by simp [hlt2])
        clear p3 r3
        generalize gs[j]'hlt = g at *
        generalize hs[j]'hlt2 = h at *
        by_cases hgl2 : g.length = h.length
        · have hd : ((g.length : Int) != (h.length : Int)) = false := by simp; omega
          have hd2 : ((g.length : Int) == (h.length : Int)) = true := by simp; omega
          have Hgl2 := hide hgl2
          rw [← hgl2] at q2 hd hd2
          clear hgl2
          rename World => wA
          go_wp2
          go_quiet (fail)
          go_wp2
          go_loopw [6] (fun i wr => ∃ k : Nat, k ≤ g.length ∧ i = .int .i64 k ∧ Hid (∀ i, i < k → g.getD i 0 = h.getD i 0) ∧ Hid (Ext wA wr)) (fun i _ => g.length - (intOf i).toNat)
          case atStart => exact ⟨0, Nat.zero_le _, rfl, hide (fun i hi => absurd hi (by omega)), hide (by repeat (first | exact Ext.refl _ | exact Ext.pre (by simp) | exact Ext.alloc (by assumption) _ | refine Ext.alloc ?_ _ |  refine Ext.more ?_ _ _ | refine Ext.drew ?_ | refine Ext.drewN ?_ _))⟩
          case round =>
            obtain ⟨k, hk, rfl, Hk, HXk⟩ := hrel
            have qq1 : wr.cell? ⟨b, o + j, none⟩ = some (.slice A1 g.length c1) := (World.cell?_of_block (a := ⟨b, o + j, none⟩) (HXk.out.heap hb)).trans q1
            have qq2 : wr.cell? ⟨b', o' + j, none⟩ = some (.slice A2 g.length c2) := (World.cell?_of_block (a := ⟨b', o' + j, none⟩) (HXk.out.heap hb')).trans q2
            by_cases hlt3 : k < g.length
            · have hlt4 : k < h.length := by rw [← Hgl2.out]; exact hlt3
              have hz1 : k < (zs g).length := by rw [zs_len]; exact hlt3
              have hz2 : k < (zs h).length := by rw [zs_len]; exact hlt4
              obtain ⟨b3, o3, rfl, hb3, q3⟩ := Ints.at_ (RowOf.ext intC HI.out HXk.out) hz1
              obtain ⟨b4, o4, rfl, hb4, q4⟩ := Ints.at_ (RowOf.ext intC HI2.out HXk.out) hz2
              rw [zs_get _ hz1 hlt3] at q3
              rw [zs_get _ hz2 hlt4] at q4
              have Hy3 : Hid (g.getD k 0 = g[k]'hlt3) := hide (by simp [hlt3])
              have Hz3 : Hid (h.getD k 0 = h[k]'hlt4) := hide (by simp [hlt4])
              have hlt3' : (k : Int) < (g.length : Int) := by omega
              have hk0 : (0 : Int) ≤ (k : Int) := by omega
              generalize g[k]'hlt3 = x at *
              generalize h[k]'hlt4 = y at *
              by_cases hxy : x = y
              · subst hxy
                go_wp2
                go_quiet (fail)
                go_wp2
                go_roundw
                case rel =>
                  refine ⟨k + 1, hlt3, by go_num, hide (fun i hi => ?_), hide (HXk.out.trans (by repeat (first | exact Ext.refl _ | exact Ext.pre (by simp) | exact Ext.alloc (by assumption) _ | refine Ext.alloc ?_ _ |  refine Ext.more ?_ _ _ | refine Ext.drew ?_ | refine Ext.drewN ?_ _)))⟩
                  by_cases hij : i = k
                  · subst hij; rw [Hy3.out, Hz3.out]
                  · exact Hk.out i (by omega)
                case measure => simp [intOf]; omega
              · have hR := Hne.out j (by rw [Hy.out, Hz.out]; intro e; exact hxy (by rw [← Hy3.out, ← Hz3.out, e]))
                have hxy1 : ((x : Int) == (y : Int)) = false := by simp; omega
                have hxy2 : ((x : Int) != (y : Int)) = true := by simp; omega
                clear Hall Hne
                subst hR
                go_wp2
                go_quiet (fail)
                go_wp2
                go_ret
                exact ⟨rfl, (HX.out.trans HXk.out).trans (by repeat (first | exact Ext.refl _ | exact Ext.pre (by simp) | exact Ext.alloc (by assumption) _ | refine Ext.alloc ?_ _ |  refine Ext.more ?_ _ _ | refine Ext.drew ?_ | refine Ext.drewN ?_ _))⟩
            · have hge : (g.length : Int) ≤ (k : Int) := by omega
              have hgh : g = h := alike_nats Hgl2.out (fun i hi => Hk.out i (by omega))
              have HJ : Hid (∀ i, i < j + 1 → gs.getD i [] = hs.getD i []) := hide (fun i hi => by
                by_cases hij : i = j
                · subst hij; rw [Hy.out, Hz.out, hgh]
                · exact Hj.out i (by omega))
              clear hgh
              go_wp2
              go_roundw
              case rel => exact ⟨j + 1, hlt, by go_num, HJ, hide (HX.out.trans HXk.out)⟩
              case measure => simp [intOf]; omega
        · have hR := Hne.out j (by rw [Hy.out, Hz.out]; intro e; exact hgl2 (by rw [e]))
          have hd : ((g.length : Int) != (h.length : Int)) = true := by simp; omega
          have hd2 : ((g.length : Int) == (h.length : Int)) = false := by simp; omega
          clear Hall Hne
          subst hR
          go_wp2
          go_quiet (fail)
          go_wp2
          go_ret
          exact ⟨rfl, HX.out.trans (by repeat (first | exact Ext.refl _ | exact Ext.pre (by simp) | exact Ext.alloc (by assumption) _ | refine Ext.alloc ?_ _ |  refine Ext.more ?_ _ _ | refine Ext.drew ?_ | refine Ext.drewN ?_ _))⟩
      · have hge : (gs.length : Int) ≤ (j : Int) := by omega
        have hR := Hall.out (fun i hi => Hj.out i (by omega))
        clear Hall Hne
        subst hR
        go_wp2
        go_ret
        exact ⟨rfl, HX.out⟩
  · have hR : decide (gs = hs) = false := decide_eq_false (fun e => hlen (by rw [e]))
    rw [hR]
    have hd : ((gs.length : Int) != (hs.length : Int)) = true := by simp; omega
    have hd2 : ((gs.length : Int) == (hs.length : Int)) = false := by simp; omega
    clear hR hg hh
    go_enter Try.func18, Try.ntmps18
    go_wp2
    go_ret
    exact ⟨rfl, (by repeat (first | exact Ext.refl _ | exact Ext.pre (by simp) | exact Ext.alloc (by assumption) _ | refine Ext.alloc ?_ _ |  refine Ext.more ?_ _ _ | refine Ext.drew ?_ | refine Ext.drewN ?_ _))⟩

/-- The group of a vertex; -1: none. -/
def atG (gs : List (List Nat)) (v : Int) : Int := if gs.any (fun g => g.any fun x => (x : Int) == v) then (gs.findIdx (fun g => g.any fun x => (x : Int) == v) : Nat) else -1
theorem atG_here {gs : List (List Nat)} {v : Int} {k : Nat} (hk : k < gs.length) (h : ∀ j, j < k → ((gs.getD j []).any fun x => (x : Int) == v) = false) (hx : ((gs[k]'hk).any fun x => (x : Int) == v) = true) : atG gs v = k := by
  have h1 : gs.any (fun g => g.any fun x => (x : Int) == v) = true := List.any_eq_true.2 ⟨gs[k]'hk, List.getElem_mem hk, hx⟩
  unfold atG
  rw [if_pos h1]
  congr 1
  rw [List.findIdx_eq hk]
  refine ⟨hx, fun j hj => ?_⟩
  have := h j hj
  have hj2 : j < gs.length := by omega
  simpa [hj2] using this
theorem atG_no {gs : List (List Nat)} {v : Int} (h : ∀ j, j < gs.length → ((gs.getD j []).any fun x => (x : Int) == v) = false) : atG gs v = -1 := by
  unfold atG
  rw [if_neg]
  intro h1
  obtain ⟨g, hg, e⟩ := List.any_eq_true.1 h1
  obtain ⟨j, hj, rfl⟩ := List.getElem_of_mem hg
  have := h j hj
  simp [hj] at this
  simp at e
  obtain ⟨x, hx, hxe⟩ := e
  exact this x hx hxe

set_option maxRecDepth 10000 in
set_option maxHeartbeats 4000000 in
theorem l_at (A : Option Addr) (cap : Nat) (gs : List (List Nat)) (v : Int) (w : World) (hg : Grps w A gs) (hgl : gs.length ≤ 1000) :
    Calls Try.prog 24 #[.slice A gs.length cap, .int .i64 v] w fun e w' => e = .returned (.int .i64 (atG gs v)) ∧ w' = w := by
  have HH := hide (fun k hk => atG_here (gs := gs) (v := v) (k := k) hk)
  have HN := hide (fun h => atG_no (gs := gs) (v := v) h)
  have HG := hide hg
  clear hg
  generalize atG gs v = R at *
  go_enter Try.func24, Try.ntmps24
  go_wp2
  go_loop [5] (fun i => ∃ j : Nat, j ≤ gs.length ∧ i = .int .i64 j ∧ Hid (∀ i, i < j → ((gs.getD i []).any fun x => (x : Int) == v) = false)) (fun i => gs.length - (intOf i).toNat)
  case atStart => exact ⟨0, Nat.zero_le _, rfl, hide (fun i hi => absurd hi (by omega))⟩
  case round =>
    obtain ⟨j, hj, rfl, Hj⟩ := hrel
    by_cases hlt : j < gs.length
    · obtain ⟨b, o, A1, c1, rfl, hb, q1, p1, p2, p3⟩ := HG.out.at_ hlt
      have hlt' : (j : Int) < (gs.length : Int) := by omega
      have hj0 : (0 : Int) ≤ (j : Int) := by omega
      have HI := hide p3
      have HHj := hide (HH.out j hlt Hj.out)
      have Hst : Hid (((gs[j]'hlt).any fun x => (x : Int) == v) = false → ∀ i, i < j + 1 → ((gs.getD i []).any fun x => (x : Int) == v) = false) := hide (fun hh i hi => by
        by_cases e : i = j
        · rw [e]; simpa [hlt] using hh
        · exact Hj.out i (by omega))
      clear p3
      generalize gs[j]'hlt = g at *
      go_wp2
      go_loop [6] (fun i => ∃ k : Nat, k ≤ g.length ∧ i = .int .i64 k ∧ Hid (∀ i, i < k → ((g.getD i 0 : Nat) : Int) ≠ v)) (fun i => g.length - (intOf i).toNat)
      case atStart => exact ⟨0, Nat.zero_le _, rfl, hide (fun i hi => absurd hi (by omega))⟩
      case round =>
        obtain ⟨k, hk, rfl, Hk⟩ := hrel
        by_cases hlt3 : k < g.length
        · have hz1 : k < (zs g).length := by rw [zs_len]; exact hlt3
          obtain ⟨b3, o3, rfl, hb3, q3⟩ := Ints.at_ HI.out hz1
          rw [zs_get _ hz1 hlt3] at q3
          have Hy3 : Hid (g.getD k 0 = g[k]'hlt3) := hide (by simp [hlt3])
          have Hm3 : Hid (g[k]'hlt3 ∈ g) := hide (List.getElem_mem hlt3)
          have hlt3' : (k : Int) < (g.length : Int) := by omega
          have hk0 : (0 : Int) ≤ (k : Int) := by omega
          generalize g[k]'hlt3 = x at *
          by_cases hxy : (x : Int) = v
          · have hR := HHj.out (List.any_eq_true.2 ⟨x, Hm3.out, by simpa using hxy⟩)
            have hxy1 : ((x : Int) == v) = true := by simpa using hxy
            have Hxy := hide hxy
            clear HH HN HHj hxy
            subst hR
            go_wp2
            go_ret
            exact ⟨rfl, rfl⟩
          · have hxy1 : ((x : Int) == v) = false := by simpa using hxy
            go_wp2
            go_round
            case rel =>
              refine ⟨k + 1, hlt3, by go_num, hide (fun i hi => ?_)⟩
              by_cases hij : i = k
              · rw [hij, Hy3.out]; exact hxy
              · exact Hk.out i (by omega)
            case measure => simp [intOf]; omega
        · have hge : (g.length : Int) ≤ (k : Int) := by omega
          have HJ := hide (Hst.out (by
            rw [List.any_eq_false]
            intro x hx
            obtain ⟨i, hi, rfl⟩ := List.getElem_of_mem hx
            have := Hk.out i (by omega)
            simpa [hi] using this))
          go_wp2
          go_round
          case rel => exact ⟨j + 1, hlt, by go_num, HJ⟩
          case measure => simp [intOf]; omega
    · have hge : (gs.length : Int) ≤ (j : Int) := by omega
      have hR := HN.out (fun i hi => Hj.out i (by omega))
      clear HH HN
      subst hR
      go_wp2
      go_ret
      exact ⟨rfl, rfl⟩

theorem l_few (n : Int) (A : Option Addr) (cap : Nat) (es : List Edge) (w : World) :
    Calls Try.prog 10 #[.int .i64 n, .slice A es.length cap] w fun e w' => e = .returned (.bool (decide (n ≤ 40) && decide (es.length ≤ 150))) ∧ w' = w := by
  by_cases h1 : n ≤ 40
  · by_cases h2 : es.length ≤ 150
    · have h3 : (es.length : Int) ≤ 150 := by omega
      have e1 : decide (n ≤ 40) = true := by simpa using h1
      have e2 : decide (es.length ≤ 150) = true := by simpa using h2
      rw [e1, e2]
      go_enter Try.func10, Try.ntmps10
      go_wp2
      go_ret
      exact ⟨rfl, rfl⟩
    · have h3 : ¬ (es.length : Int) ≤ 150 := by omega
      have e1 : decide (n ≤ 40) = true := by simpa using h1
      have e2 : decide (es.length ≤ 150) = false := by simpa using h2
      rw [e1, e2]
      go_enter Try.func10, Try.ntmps10
      go_wp2
      go_ret
      exact ⟨rfl, rfl⟩
  · have e1 : decide (n ≤ 40) = false := by simpa using h1
    rw [e1]
    go_enter Try.func10, Try.ntmps10
    go_wp2
    go_ret
    exact ⟨rfl, rfl⟩

end Go.Proofs.Ytnbnhchgkbbiiaa
