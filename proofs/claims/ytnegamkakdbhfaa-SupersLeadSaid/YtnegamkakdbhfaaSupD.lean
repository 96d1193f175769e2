/- Contract: the reference's check. -/
import Derived.Test.YtnegamkakdbhfaaSupC
import Derived.Deep.RegionHeld3
namespace Go.Proofs.Ytnegamkakdbhfaa
open Go.RowKit

set_option maxRecDepth 10000 in
set_option maxHeartbeats 4000000 in
theorem ref_check (A : Option Addr) (cap : Nat) (l : List Cls) (w : World) (h : Classes w A l) (hl : l.length ≤ 9) (hs : ∀ c ∈ l, c.sup.length ≤ 9) :
    Calls Try.prog 44 #[.slice A l.length cap] w fun e w' => e = .returned (.tuple #[.int .i64 (checkL l).1, .int .i64 (checkL l).2]) ∧ Ext w w' := by
  have F1 := hide (fun k => @check_1 l k)
  have F2 := hide (@check_2 l)
  have F3 := hide (@check_3 l)
  have F4 := hide (@check_4 l)
  have HC := hide h
  have HS := hide hs
  have HT : Hid (∀ i (h : i < l.length), twiceB l i = decide (atI l (l[i]'h).name < (i : Int))) := hide (fun i h => by unfold twiceB; rw [nameAt_eq h])
  have HB : Hid (∀ i (h : i < l.length), badB l i = !((List.range (l[i]'h).sup.length).all (knownK (names l) (l[i]'h).sup))) := hide (fun i h => by unfold badB; rw [supAt_eq h]; rfl)
  have HY : Hid (∀ i (h : i < l.length), cycB l i = (aboveL l (l[i]'h).name).any (· == (l[i]'h).name)) := hide (fun i h => by unfold cycB; rw [nameAt_eq h])
  have hle : l.length ≤ 9223372036854775807 := by omega
  clear h hs
  generalize checkL l = R at *
  go_enter Try.func44, Try.ntmps44
  go_wp2
  go_loop [4] (fun i => ∃ k : Nat, k ≤ l.length ∧ i = .int .i64 k ∧ Hid (∀ j, j < k → twiceB l j = false)) (fun i => l.length - (intOf i).toNat)
  case atStart => exact ⟨0, Nat.zero_le _, rfl, hide (fun j hj => absurd hj (by omega))⟩
  case round =>
    obtain ⟨k, hk, rfl, HJ⟩ := hrel
    by_cases hlt : k < l.length
    · obtain ⟨b, o, rfl, hb, q0, q1, q2⟩ := HC.out.at_ hlt
      have hlt' : (k : Int) < (l.length : Int) := by omega
      have Hk := hide (HT.out k hlt)
      generalize (l[k]'hlt).name = y at *
      have Ha := hide (ref_at22 (some ⟨b, o, none⟩) cap l y w HC.out hle)
      clear q1 q2
      generalize atI l y = a at *
      by_cases h1 : a < (k : Int)
      · have hR := F1.out k hlt HJ.out (by rw [Hk.out]; simpa using h1)
        subst hR
        go_wp2_with fail
        refine Ha.out.mono ?_
        rintro e w1 ⟨rfl, rfl⟩
        go_wp2
        go_ret2
        exact ⟨rfl, (by repeat (first | exact Ext.refl _ | exact Ext.pre (by simp) | exact Ext.alloc (by assumption) _ | refine Ext.alloc ?_ _ |  refine Ext.more ?_ _ _ | refine Ext.drew ?_ | refine Ext.drewN ?_ _))⟩
      · have Hk' : Hid (twiceB l k = false) := hide (by rw [Hk.out]; simpa using h1)
        go_wp2_with fail
        refine Ha.out.mono ?_
        rintro e w1 ⟨rfl, rfl⟩
        go_wp2
        go_round
        case rel =>
          refine ⟨k + 1, hlt, by go_num, hide (fun j hj => ?_)⟩
          by_cases e : j = k
          · subst e; exact Hk'.out
          · exact HJ.out j (by omega)
        case measure => simp [intOf]; omega
    · have hge : (l.length : Int) ≤ (k : Int) := by omega
      have J1 : Hid (∀ j, j < l.length → twiceB l j = false) := hide (fun j hj => HJ.out j (by omega))
      clear HJ HT F1
      go_wp2
      go_loopw [5] (fun i wr => ∃ k : Nat, k ≤ l.length ∧ i = .int .i64 k ∧ Hid (∀ j, j < k → badB l j = false) ∧ Hid (Ext w wr)) (fun i _ => l.length - (intOf i).toNat)
      case atStart => exact ⟨0, Nat.zero_le _, rfl, hide (fun j hj => absurd hj (by omega)), hide (by repeat (first | exact Ext.refl _ | exact Ext.pre (by simp) | exact Ext.alloc (by assumption) _ | refine Ext.alloc ?_ _ |  refine Ext.more ?_ _ _ | refine Ext.drew ?_ | refine Ext.drewN ?_ _))⟩
      case round =>
        obtain ⟨m, hm, rfl, HJ, HXo⟩ := hrel
        obtain ⟨wo, rfl⟩ : ∃ wo : World, wo = wr := ⟨_, rfl⟩
        by_cases hlt : m < l.length
        · obtain ⟨b, o, rfl, hb, q0, q1, q2⟩ := (HC.out.ext HXo.out).at_ hlt
          have hlt' : (m : Int) < (l.length : Int) := by omega
          have Hk := hide (HB.out m hlt)
          have Hst := hide (HC.out.sup _ (List.getElem_mem hlt))
          have hsl := HS.out _ (List.getElem_mem hlt)
          have hcl := (HC.out.le _ (List.getElem_mem hlt)).1
          clear q0 q2
          generalize (l[m]'hlt).sup = S at *
          generalize (l[m]'hlt).A = A1 at *
          generalize (l[m]'hlt).cap = c1 at *
          go_wp2
          go_loopw [7] (fun i wr => ∃ k : Nat, k ≤ S.length ∧ i = .int .i64 k ∧ Hid (∀ j, j < k → knownK (names l) S j = true) ∧ Hid (Ext w wr)) (fun i _ => S.length - (intOf i).toNat)
          case atStart => exact ⟨0, Nat.zero_le _, rfl, hide (fun j hj => absurd hj (by omega)), HXo⟩
          case round =>
            obtain ⟨k, hk, rfl, HJ2, HX2⟩ := hrel
            by_cases hlt2 : k < S.length
            · obtain ⟨b2, o2, rfl, hb2, z0⟩ := (Hst.out.ext HX2.out).at_ hlt2
              have hlt2' : (k : Int) < (S.length : Int) := by omega
              have hk0 : (0 : Int) ≤ (k : Int) := by omega
              have hk1 : (k : Int) ≤ (S.length : Int) := by omega
              have hk2 : (k : Int) ≤ (c1 : Int) := by omega
              have Hkk : Hid (knownK (names l) S k = ((names l).any (· == S.getD k []) && !((S.take k).any (· == S.getD k [])))) := hide rfl
              generalize S.getD k [] = y at *
              have Ha := fun w' (e : Ext wr w') => hide (ref_at22 (some ⟨b, o, none⟩) cap l y w' (HC.out.ext (HX2.out.trans e)) hle)
              have Hh := fun w' (e : Ext wr w') => hide (ref_has_take (some ⟨b2, o2, none⟩) c1 S k y w' (Hst.out.ext (HX2.out.trans e)) hk (by omega))
              have hneg := atI_neg l y
              generalize atI l y = a at *
              have HA := hide Ha
              have HH := hide Hh
              clear Ha Hh
              cases h1 : (names l).any (· == y)
              · rw [h1] at hneg Hkk
                simp only [Bool.not_false, decide_eq_true_eq] at hneg
                have hR := F2.out J1.out hlt HJ.out (by rw [Hk.out, allR_no hlt2 (by rw [Hkk.out]; rfl)]; rfl)
                subst hR
                go_wp2
                go_quiet ((go_at_call 55; exact Calls.quiet_of_same (HA.out _ (by repeat (first | exact Ext.refl _ | exact Ext.pre (by simp) | exact Ext.alloc (by assumption) _ | refine Ext.alloc ?_ _ |  refine Ext.more ?_ _ _ | refine Ext.drew ?_ | refine Ext.drewN ?_ _))).out))
                go_wp2
                go_ret2
                exact ⟨rfl, HX2.out.trans (by repeat (first | exact Ext.refl _ | exact Ext.pre (by simp) | exact Ext.alloc (by assumption) _ | refine Ext.alloc ?_ _ |  refine Ext.more ?_ _ _ | refine Ext.drew ?_ | refine Ext.drewN ?_ _))⟩
              · rw [h1] at hneg Hkk
                simp only [Bool.not_true, decide_eq_false_iff_not] at hneg
                have hneg' : decide (a < 0) = false := by simpa using hneg
                cases h2 : (S.take k).any (· == y)
                · rw [h2] at HH Hkk
                  go_wp2
                  go_quiet ((first | (go_at_call 55; exact Calls.quiet_of_same (HA.out _ (by repeat (first | exact Ext.refl _ | exact Ext.pre (by simp) | exact Ext.alloc (by assumption) _ | refine Ext.alloc ?_ _ |  refine Ext.more ?_ _ _ | refine Ext.drew ?_ | refine Ext.drewN ?_ _))).out) | (go_at_call 56; exact Calls.quiet_of_same (HH.out _ (by repeat (first | exact Ext.refl _ | exact Ext.pre (by simp) | exact Ext.alloc (by assumption) _ | refine Ext.alloc ?_ _ |  refine Ext.more ?_ _ _ | refine Ext.drew ?_ | refine Ext.drewN ?_ _))).out)))
                  go_wp2
                  go_roundw
                  case rel =>
                    refine ⟨k + 1, hlt2, by go_num, hide (fun j hj => ?_), hide (HX2.out.trans (by repeat (first | exact Ext.refl _ | exact Ext.pre (by simp) | exact Ext.alloc (by assumption) _ | refine Ext.alloc ?_ _ |  refine Ext.more ?_ _ _ | refine Ext.drew ?_ | refine Ext.drewN ?_ _)))⟩
                    by_cases e : j = k
                    · subst e; rw [Hkk.out]; rfl
                    · exact HJ2.out j (by omega)
                  case measure => simp [intOf]; omega
                · rw [h2] at HH Hkk
                  have hR := F2.out J1.out hlt HJ.out (by rw [Hk.out, allR_no hlt2 (by rw [Hkk.out]; rfl)]; rfl)
                  subst hR
                  go_wp2
                  go_quiet ((first | (go_at_call 55; exact Calls.quiet_of_same (HA.out _ (by repeat (first | exact Ext.refl _ | exact Ext.pre (by simp) | exact Ext.alloc (by assumption) _ | refine Ext.alloc ?_ _ |  refine Ext.more ?_ _ _ | refine Ext.drew ?_ | refine Ext.drewN ?_ _))).out) | (go_at_call 56; exact Calls.quiet_of_same (HH.out _ (by repeat (first | exact Ext.refl _ | exact Ext.pre (by simp) | exact Ext.alloc (by assumption) _ | refine Ext.alloc ?_ _ |  refine Ext.more ?_ _ _ | refine Ext.drew ?_ | refine Ext.drewN ?_ _))).out)))
                  go_wp2
                  go_ret2
                  exact ⟨rfl, HX2.out.trans (by repeat (first | exact Ext.refl _ | exact Ext.pre (by simp) | exact Ext.alloc (by assumption) _ | refine Ext.alloc ?_ _ |  refine Ext.more ?_ _ _ | refine Ext.drew ?_ | refine Ext.drewN ?_ _))⟩
            · have hge2 : (S.length : Int) ≤ (k : Int) := by omega
              have Hbm : Hid (badB l m = false) := hide (by rw [Hk.out, allR_yes (fun j hj => HJ2.out j (by omega))]; rfl)
              go_wp2
              go_roundw
              case rel =>
                refine ⟨m + 1, hlt, by go_num, hide (fun j hj => ?_), HX2⟩
                by_cases e : j = m
                · subst e; exact Hbm.out
                · exact HJ.out j (by omega)
              case measure => simp [intOf]; omega
        · have hge3 : (l.length : Int) ≤ (m : Int) := by omega
          have J2 : Hid (∀ j, j < l.length → badB l j = false) := hide (fun j hj => HJ.out j (by omega))
          clear HJ HB F2
          go_wp2
          go_loopw [8] (fun i wr => ∃ k : Nat, k ≤ l.length ∧ i = .int .i64 k ∧ Hid (∀ j, j < k → cycB l j = false) ∧ Hid (Ext w wr)) (fun i _ => l.length - (intOf i).toNat)
          case atStart => exact ⟨0, Nat.zero_le _, rfl, hide (fun j hj => absurd hj (by omega)), HXo⟩
          case round =>
            obtain ⟨k, hk, rfl, HJ, HX⟩ := hrel
            by_cases hlt : k < l.length
            · obtain ⟨b, o, rfl, hb, q0, q1, q2⟩ := (HC.out.ext HX.out).at_ hlt
              have hlt' : (k : Int) < (l.length : Int) := by omega
              have hk0 : (0 : Int) ≤ (k : Int) := by omega
              have Hk := hide (HY.out k hlt)
              clear q1 q2
              generalize (l[k]'hlt).name = y at *
              have Hab := hide (fun w' (e : Ext w w') => hide (ref_above (some ⟨b, o, none⟩) cap l y w' (HC.out.ext e) hl HS.out))
              generalize aboveL l y = V at *
              cases h1 : V.any (· == y)
              · have Hk' := hide (Hk.out.trans h1)
                go_wp2
                go_region_held3 (fun w' => w'.cell? ⟨b, o + k * 3, none⟩ = some (.string ⟨y.toArray⟩)) (first | assumption | go_keep) (first
                  | (go_at_call 79
                     refine Calls.mono (Hab.out _ ?e).out ?_
                     case e => (refine Ext.trans HX.out ?_; (repeat (first | exact Ext.refl _ | exact Ext.pre (by simp) | exact Ext.alloc (by assumption) _ | refine Ext.alloc ?_ _ | refine Ext.more ?_ _ _ | refine Ext.drew ?_ | refine Ext.drewN ?_ _)); done)
                     rintro e w3 ⟨⟨A3, c3, rfl, g1, g2, g3⟩, hx3⟩
                     have S3 := hide g3
                     have X3 : Hid (Ext wr w3) := hide (Ext.trans (by repeat (first | exact Ext.refl _ | exact Ext.pre (by simp) | exact Ext.alloc (by assumption) _ | refine Ext.alloc ?_ _ |  refine Ext.more ?_ _ _ | refine Ext.drew ?_ | refine Ext.drewN ?_ _)) hx3)
                     have q3 : w3.cell? ⟨b, o + k * 3, none⟩ = some (.string ⟨y.toArray⟩) := (World.cell?_of_block (a := ⟨b, o + k * 3, none⟩) (X3.out.heap hb)).trans q0
                     clear g3 hx3)
                  | (go_at_call 56
                     refine Calls.mono (ref_has A3 c3 V y _ (S3.out.ext (by repeat (first | exact Ext.refl _ | exact Ext.pre (by simp) | exact Ext.alloc (by assumption) _ | refine Ext.alloc ?_ _ |  refine Ext.more ?_ _ _ | refine Ext.drew ?_ | refine Ext.drewN ?_ _))) (by omega)) ?_
                     rintro e w4 ⟨rfl, rfl⟩))
                all_goals
                  go_wp2
                  go_roundw
                  case rel =>
                    refine ⟨k + 1, hlt, by go_num, hide (fun j hj => ?_), hide (HX.out.trans (X3.out.trans (by repeat (first | exact Ext.refl _ | exact Ext.pre (by simp) | exact Ext.alloc (by assumption) _ | refine Ext.alloc ?_ _ |  refine Ext.more ?_ _ _ | refine Ext.drew ?_ | refine Ext.drewN ?_ _))))⟩
                    by_cases e : j = k
                    · subst e; exact Hk'.out
                    · exact HJ.out j (by omega)
                  case measure => simp [intOf]; omega
              · have hR := F3.out J1.out J2.out hlt HJ.out (Hk.out.trans h1)
                subst hR
                go_wp2
                go_region_held3 (fun w' => w'.cell? ⟨b, o + k * 3, none⟩ = some (.string ⟨y.toArray⟩)) (first | assumption | go_keep) (first
                  | (go_at_call 79
                     refine Calls.mono (Hab.out _ ?e).out ?_
                     case e => (refine Ext.trans HX.out ?_; (repeat (first | exact Ext.refl _ | exact Ext.pre (by simp) | exact Ext.alloc (by assumption) _ | refine Ext.alloc ?_ _ | refine Ext.more ?_ _ _ | refine Ext.drew ?_ | refine Ext.drewN ?_ _)); done)
                     rintro e w3 ⟨⟨A3, c3, rfl, g1, g2, g3⟩, hx3⟩
                     have S3 := hide g3
                     have X3 : Hid (Ext wr w3) := hide (Ext.trans (by repeat (first | exact Ext.refl _ | exact Ext.pre (by simp) | exact Ext.alloc (by assumption) _ | refine Ext.alloc ?_ _ |  refine Ext.more ?_ _ _ | refine Ext.drew ?_ | refine Ext.drewN ?_ _)) hx3)
                     have q3 : w3.cell? ⟨b, o + k * 3, none⟩ = some (.string ⟨y.toArray⟩) := (World.cell?_of_block (a := ⟨b, o + k * 3, none⟩) (X3.out.heap hb)).trans q0
                     clear g3 hx3)
                  | (go_at_call 56
                     refine Calls.mono (ref_has A3 c3 V y _ (S3.out.ext (by repeat (first | exact Ext.refl _ | exact Ext.pre (by simp) | exact Ext.alloc (by assumption) _ | refine Ext.alloc ?_ _ |  refine Ext.more ?_ _ _ | refine Ext.drew ?_ | refine Ext.drewN ?_ _))) (by omega)) ?_
                     rintro e w4 ⟨rfl, rfl⟩))
                all_goals
                  go_wp2
                  go_ret2
                  exact ⟨rfl, HX.out.trans (X3.out.trans (by repeat (first | exact Ext.refl _ | exact Ext.pre (by simp) | exact Ext.alloc (by assumption) _ | refine Ext.alloc ?_ _ |  refine Ext.more ?_ _ _ | refine Ext.drew ?_ | refine Ext.drewN ?_ _)))⟩
            · have hge4 : (l.length : Int) ≤ (k : Int) := by omega
              have hR := F4.out J1.out J2.out (fun j hj => HJ.out j (by omega))
              subst hR
              go_wp2
              go_ret2
              exact ⟨rfl, HX.out⟩

end Go.Proofs.Ytnegamkakdbhfaa
