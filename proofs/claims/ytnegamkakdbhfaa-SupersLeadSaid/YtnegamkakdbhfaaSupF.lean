/- Contracts: the program's check; may classes be; all above one. -/
import Derived.Test.YtnegamkakdbhfaaSupE
import Derived.Test.YtnegamkakdbhfaaSupD
namespace Go.Proofs.Ytnegamkakdbhfaa
open Go.RowKit

set_option maxRecDepth 10000 in
set_option maxHeartbeats 4000000 in
theorem sup_check (A : Option Addr) (cap : Nat) (l : List Cls) (w : World) (h : Classes w A l) (hl : l.length ≤ 9) (hs : ∀ c ∈ l, c.sup.length ≤ 9) :
    Calls Try.prog 43 #[.slice A l.length cap] w fun e w' => e = .returned (.tuple #[.int .i64 (checkL l).1, .int .i64 (checkL l).2]) ∧ Ext w w' := by
  have F1 := hide (fun k => @check_1 l k)
  have F2 := hide (@check_2 l)
  have F3 := hide (@check_3 l)
  have F4 := hide (@check_4 l)
  have HC := hide h
  have HS := hide hs
  have HT : Hid (∀ i (h : i < l.length), twiceB l i = decide (atI l (l[i]'h).name < (i : Int))) := hide (fun i h => by unfold twiceB; rw [nameAt_eq h])
  have HB : Hid (∀ i (h : i < l.length), badB l i = !knownB (names l) (l[i]'h).sup) := hide (fun i h => by unfold badB; rw [supAt_eq h])
  have HSo : Hid ((∀ j, j < l.length → twiceB l j = false) → (∀ j, j < l.length → badB l j = false) → Sound l) := hide (fun h1 h2 => ⟨firstI_none _ _ h1, firstI_none _ _ h2⟩)
  have hle : l.length ≤ 9223372036854775807 := by omega
  clear h hs
  generalize checkL l = R at *
  go_enter Try.func43, Try.ntmps43
  go_wp2
  go_loop [10] (fun i => ∃ k : Nat, k ≤ l.length ∧ i = .int .i64 k ∧ Hid (∀ j, j < k → twiceB l j = false)) (fun i => l.length - (intOf i).toNat)
  case atStart => exact ⟨0, Nat.zero_le _, rfl, hide (fun j hj => absurd hj (by omega))⟩
  case round =>
    obtain ⟨k, hk, rfl, HJ⟩ := hrel
    by_cases hlt : k < l.length
    · obtain ⟨b, o, rfl, hb, q0, q1, q2⟩ := HC.out.at_ hlt
      have hlt' : (k : Int) < (l.length : Int) := by omega
      have Hk := hide (HT.out k hlt)
      generalize (l[k]'hlt).name = y at *
      have Ha := hide (sup_at (some ⟨b, o, none⟩) cap l y w HC.out hle)
      clear q1 q2
      generalize atI l y = a at *
      by_cases h1 : a < (k : Int)
      · have hR := F1.out k hlt HJ.out (by rw [Hk.out]; simpa using h1)
        subst hR
        go_wp2_with fail
        refine Ha.out.mono ?_
        rintro e w1 ⟨rfl, rfl⟩
        go_wp2
        go_ret2
        exact ⟨rfl, (by repeat (first | exact Ext.refl _ | exact Ext.pre (by simp) | exact Ext.alloc (by assumption) _ | refine Ext.alloc ?_ _ |  refine Ext.more ?_ _ _ | refine Ext.drew ?_ | refine Ext.drewN ?_ _))⟩
      · have Hk' : Hid (twiceB l k = false) := hide (by rw [Hk.out]; simpa using h1)
        go_wp2_with fail
        refine Ha.out.mono ?_
        rintro e w1 ⟨rfl, rfl⟩
        go_wp2
        go_round
        case rel =>
          refine ⟨k + 1, hlt, by go_num, hide (fun j hj => ?_)⟩
          by_cases e : j = k
          · subst e; exact Hk'.out
          · exact HJ.out j (by omega)
        case measure => simp [intOf]; omega
    · have hge : (l.length : Int) ≤ (k : Int) := by omega
      have J1 : Hid (∀ j, j < l.length → twiceB l j = false) := hide (fun j hj => HJ.out j (by omega))
      clear HJ HT F1
      go_wp2
      go_loopw [26] (fun i wr => ∃ k : Nat, k ≤ l.length ∧ i = .int .i64 k ∧ Hid (∀ j, j < k → badB l j = false) ∧ Hid (Ext w wr)) (fun i _ => l.length - (intOf i).toNat)
      case atStart => exact ⟨0, Nat.zero_le _, rfl, hide (fun j hj => absurd hj (by omega)), hide (by repeat (first | exact Ext.refl _ | exact Ext.pre (by simp) | exact Ext.alloc (by assumption) _ | refine Ext.alloc ?_ _ |  refine Ext.more ?_ _ _ | refine Ext.drew ?_ | refine Ext.drewN ?_ _))⟩
      case round =>
        obtain ⟨m, hm, rfl, HJ, HX⟩ := hrel
        by_cases hlt : m < l.length
        · obtain ⟨b, o, rfl, hb, q0, q1, q2⟩ := (HC.out.ext HX.out).at_ hlt
          have hlt' : (m : Int) < (l.length : Int) := by omega
          have Hk := hide (HB.out m hlt)
          have Hst := hide (HC.out.sup _ (List.getElem_mem hlt))
          have hcl := (HC.out.le _ (List.getElem_mem hlt))
          generalize (l[m]'hlt).name = y at *
          generalize (l[m]'hlt).sup = S at *
          generalize (l[m]'hlt).A = A1 at *
          generalize (l[m]'hlt).cap = c1 at *
          generalize (l[m]'hlt).meth = mt at *
          obtain ⟨hcl1, hcl2⟩ := hcl
          have Hkn := hide (sup_known (some ⟨b, o, none⟩) cap l ⟨y, A1, c1, S, mt⟩ wr (HC.out.ext HX.out) hle (Hst.out.ext HX.out) hcl1 hcl2)
          simp only at Hkn
          cases h1 : knownB (names l) S
          · rw [h1] at Hkn Hk
            have hR := F2.out J1.out hlt HJ.out (by rw [Hk.out]; rfl)
            subst hR
            go_wp2_with fail
            refine Hkn.out.mono ?_
            rintro e w1 ⟨rfl, l1, d1, rfl⟩
            go_wp2
            go_ret2
            exact ⟨rfl, HX.out.trans (by repeat (first | exact Ext.refl _ | exact Ext.pre (by simp) | exact Ext.alloc (by assumption) _ | refine Ext.alloc ?_ _ |  refine Ext.more ?_ _ _ | refine Ext.drew ?_ | refine Ext.drewN ?_ _))⟩
          · rw [h1] at Hkn Hk
            go_wp2_with fail
            refine Hkn.out.mono ?_
            rintro e w1 ⟨rfl, l1, d1, rfl⟩
            go_wp2
            go_roundw
            case rel =>
              refine ⟨m + 1, hlt, by go_num, hide (fun j hj => ?_), hide (HX.out.trans (by repeat (first | exact Ext.refl _ | exact Ext.pre (by simp) | exact Ext.alloc (by assumption) _ | refine Ext.alloc ?_ _ |  refine Ext.more ?_ _ _ | refine Ext.drew ?_ | refine Ext.drewN ?_ _)))⟩
              by_cases e : j = m
              · subst e; rw [Hk.out]; rfl
              · exact HJ.out j (by omega)
            case measure => simp [intOf]; omega
        · have hge3 : (l.length : Int) ≤ (m : Int) := by omega
          have J2 : Hid (∀ j, j < l.length → badB l j = false) := hide (fun j hj => HJ.out j (by omega))
          have SO := hide (HSo.out J1.out J2.out)
          have Hgo := hide (graph_ok SO.out hl)
          have Hcy : Hid (∀ i p, i < l.length → (∀ x, p x = true ↔ SR (nextN (edgesL l)) i x) → (markedL p l.length).any (· == (i : Int)) = cycB l i) := hide (by
            intro i p hi hp
            rw [marked_any p hi, Bool.eq_iff_iff, hp, reach_eq SO.out hi, cyc_reach SO.out hi])
          clear HJ HB F2 HSo
          go_wp2_with fail
          refine (sup_edges A cap l wr (HC.out.ext HX.out) hl HS.out).mono ?_
          rintro e w1 ⟨⟨A9, c9, rfl, p1, p2, p3⟩, hx⟩
          have HE := hide p3
          have HX1 := hide (HX.out.trans hx)
          have hlen9 : (edgesL l).length ≤ 100000 := by have := edgesTo_len l HS.out l.length (Nat.le_refl _); unfold edgesTo at this; unfold edgesL; omega
          clear p3 hx
          generalize edgesL l = ES at *
          go_wp2
          go_loopw [42] (fun i wr => ∃ k : Nat, k ≤ l.length ∧ i = .int .i64 k ∧ Hid (∀ j, j < k → cycB l j = false) ∧ Hid (Ext w1 wr)) (fun i _ => l.length - (intOf i).toNat)
          case atStart => exact ⟨0, Nat.zero_le _, rfl, hide (fun j hj => absurd hj (by omega)), hide (by repeat (first | exact Ext.refl _ | exact Ext.pre (by simp) | exact Ext.alloc (by assumption) _ | refine Ext.alloc ?_ _ |  refine Ext.more ?_ _ _ | refine Ext.drew ?_ | refine Ext.drewN ?_ _))⟩
          case round =>
            obtain ⟨k, hk, rfl, HJ, HX2⟩ := hrel
            by_cases hlt : k < l.length
            · have hlt' : (k : Int) < (l.length : Int) := by omega
              have hk0 : (0 : Int) ≤ (k : Int) := by omega
              go_wp2_with fail
              refine (g_reach l.length k A9 c9 ES wr (RowOf.ext edgeC HE.out HX2.out) Hgo.out hlen9 hlt).mono ?_
              rintro e w3 ⟨⟨A3, c3, p, rfl, g1, g2, g3, g4⟩, l3, d3, rfl⟩
              have G3 := hide g3
              have Hc := hide (Hcy.out k p hlt g4)
              clear g3 g4
              have Hh := hide (has_i A3 c3 (markedL p l.length) k _ G3.out (by omega))
              cases h1 : cycB l k
              · rw [Hc.out, h1] at Hh
                go_wp2_with fail
                refine Hh.out.mono ?_
                rintro e w4 ⟨rfl, rfl⟩
                go_wp2
                go_roundw
                case rel =>
                  refine ⟨k + 1, hlt, by go_num, hide (fun j hj => ?_), hide (HX2.out.trans (by repeat (first | exact Ext.refl _ | exact Ext.pre (by simp) | exact Ext.alloc (by assumption) _ | refine Ext.alloc ?_ _ |  refine Ext.more ?_ _ _ | refine Ext.drew ?_ | refine Ext.drewN ?_ _)))⟩
                  by_cases e : j = k
                  · subst e; exact h1
                  · exact HJ.out j (by omega)
                case measure => simp [intOf]; omega
              · rw [Hc.out, h1] at Hh
                have hR := F3.out J1.out J2.out hlt HJ.out h1
                subst hR
                go_wp2_with fail
                refine Hh.out.mono ?_
                rintro e w4 ⟨rfl, rfl⟩
                go_wp2
                go_ret2
                exact ⟨rfl, HX1.out.trans (HX2.out.trans (by repeat (first | exact Ext.refl _ | exact Ext.pre (by simp) | exact Ext.alloc (by assumption) _ | refine Ext.alloc ?_ _ |  refine Ext.more ?_ _ _ | refine Ext.drew ?_ | refine Ext.drewN ?_ _)))⟩
            · have hge4 : (l.length : Int) ≤ (k : Int) := by omega
              have hR := F4.out J1.out J2.out (fun j hj => HJ.out j (by omega))
              subst hR
              go_wp2
              go_ret2
              exact ⟨rfl, HX1.out.trans HX2.out⟩

set_option maxRecDepth 10000 in
set_option maxHeartbeats 1000000 in
theorem sup_sound (A : Option Addr) (cap : Nat) (l : List Cls) (w : World) (h : Classes w A l) (hl : l.length ≤ 9) (hs : ∀ c ∈ l, c.sup.length ≤ 9) :
    Calls Try.prog 80 #[.slice A l.length cap] w fun e w' => e = .returned (.bool (okL l)) ∧ Ext w w' := by
  have H := hide (sup_check A cap l w h hl hs)
  clear h hs
  unfold okL
  generalize checkL l = R at *
  go_enter Try.func80, Try.ntmps80
  go_wp2_with fail
  refine H.out.mono ?_
  rintro e w1 ⟨rfl, l1, d1, rfl⟩
  go_wp2
  go_ret
  exact ⟨rfl, (by repeat (first | exact Ext.refl _ | exact Ext.pre (by simp) | exact Ext.alloc (by assumption) _ | refine Ext.alloc ?_ _ |  refine Ext.more ?_ _ _ | refine Ext.drew ?_ | refine Ext.drewN ?_ _))⟩
set_option maxRecDepth 10000 in
set_option maxHeartbeats 1000000 in
theorem ref_ok (A : Option Addr) (cap : Nat) (l : List Cls) (w : World) (h : Classes w A l) (hl : l.length ≤ 9) (hs : ∀ c ∈ l, c.sup.length ≤ 9) :
    Calls Try.prog 82 #[.slice A l.length cap] w fun e w' => e = .returned (.bool (okL l)) ∧ Ext w w' := by
  have H := hide (ref_check A cap l w h hl hs)
  clear h hs
  unfold okL
  generalize checkL l = R at *
  go_enter Try.func82, Try.ntmps82
  go_wp2_with fail
  refine H.out.mono ?_
  rintro e w1 ⟨rfl, l1, d1, rfl⟩
  go_wp2
  go_ret
  exact ⟨rfl, (by repeat (first | exact Ext.refl _ | exact Ext.pre (by simp) | exact Ext.alloc (by assumption) _ | refine Ext.alloc ?_ _ |  refine Ext.more ?_ _ _ | refine Ext.drew ?_ | refine Ext.drewN ?_ _))⟩

end Go.Proofs.Ytnegamkakdbhfaa
