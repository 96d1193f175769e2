/- Contracts: are all classes above one there, each once; the check (the reference's). -/
import Derived.Test.YtnegamkakdbhfaaSupQ
import Derived.Test.YtnegamkakdbhfaaSupB
import Derived.Deep.QuietTactic
import Derived.BigQuiet
namespace Go.Proofs.Ytnegamkakdbhfaa
open Go.RowKit

theorem allR_yes {p : Nat → Bool} {n : Nat} (h : ∀ j, j < n → p j = true) : (List.range n).all p = true := by
  rw [List.all_eq_true]; intro j hj; exact h j (by simpa using hj)
theorem allR_no {p : Nat → Bool} {n k : Nat} (hk : k < n) (h : p k = false) : (List.range n).all p = false := by
  rw [List.all_eq_false]; exact ⟨k, by simpa using hk, by simp [h]⟩
theorem atI_neg (l : List Cls) (x : Str) : decide (atI l x < 0) = !(names l).any (· == x) := by
  have := idxI_ge (names l) x
  unfold atI
  rw [← this]
  by_cases h : idxI (names l) x < 0
  · simp [h]
  · simp [h]; omega
def knownK (ns s : List Str) (k : Nat) : Bool := ns.any (· == s.getD k []) && !((s.take k).any (· == s.getD k []))
theorem has_s_take (A : Option Addr) (cap : Nat) (l : List Str) (k : Nat) (x : Str) (w : World) (h : Strs w A l) (hk : k ≤ l.length) (hle : l.length ≤ 9223372036854775807) :
    Calls Try.prog 83 #[.slice A k cap, encStr x] w fun e w' => e = .returned (.bool ((l.take k).any (· == x))) ∧ w' = w := by
  have := has_s A cap (l.take k) x w (h.take hk) (by rw [List.length_take]; omega)
  rwa [List.length_take, Nat.min_eq_left hk] at this
theorem ref_has_take (A : Option Addr) (cap : Nat) (l : List Str) (k : Nat) (x : Str) (w : World) (h : Strs w A l) (hk : k ≤ l.length) (hle : l.length ≤ 9223372036854775807) :
    Calls Try.prog 56 #[.slice A k cap, encStr x] w fun e w' => e = .returned (.bool ((l.take k).any (· == x))) ∧ w' = w := by
  have := ref_has A cap (l.take k) x w (h.take hk) (by rw [List.length_take]; omega)
  rwa [List.length_take, Nat.min_eq_left hk] at this

set_option maxRecDepth 10000 in
set_option maxHeartbeats 2000000 in
theorem sup_known (A : Option Addr) (cap : Nat) (l : List Cls) (c : Cls) (w : World) (h : Classes w A l) (hl : l.length ≤ 9223372036854775807) (hs : Strs w c.A c.sup) (hc : c.sup.length ≤ c.cap) (hc2 : c.cap ≤ 9223372036854775807) :
    Calls Try.prog 75 #[.slice A l.length cap, .agg #[encStr c.name, .slice c.A c.sup.length c.cap, c.meth]] w fun e w' => e = .returned (.bool (knownB (names l) c.sup)) ∧ Ext w w' := by
  have HK : Hid (knownB (names l) c.sup = (List.range c.sup.length).all (knownK (names l) c.sup)) := hide rfl
  have HN : Hid (∀ k, knownK (names l) c.sup k = ((names l).any (· == c.sup.getD k []) && !((c.sup.take k).any (· == c.sup.getD k [])))) := hide (fun k => rfl)
  have Hcl := hide h
  have Hst := hide hs
  obtain ⟨nm, A1, c1, S, mt⟩ := c
  simp only at *
  clear h hs
  have hc3 : (S.length : Int) ≤ (c1 : Int) := by omega
  generalize knownB (names l) S = R at *
  go_enter Try.func75, Try.ntmps75
  go_wp2
  go_loopw [10] (fun i wr => ∃ k : Nat, k ≤ S.length ∧ i = .int .i64 k ∧ Hid (∀ j, j < k → knownK (names l) S j = true) ∧ Hid (∃ d, wr = (w.alloc (.cells #[encStr nm, .slice A1 S.length c1, mt] 79)).drewN d)) (fun i _ => S.length - (intOf i).toNat)
  case atStart => exact ⟨0, Nat.zero_le _, rfl, hide (fun j hj => absurd hj (by omega)), hide ⟨0, rfl⟩⟩
  case round =>
    obtain ⟨k, hk, rfl, HJ, HW⟩ := hrel
    obtain ⟨d, rfl⟩ := HW.out
    by_cases hlt : k < S.length
    · obtain ⟨b, o, rfl, hb, q0⟩ := Hst.out.at_ hlt
      have hlt' : (k : Int) < (S.length : Int) := by omega
      have hk0 : (0 : Int) ≤ (k : Int) := by omega
      have hk1 : (k : Int) ≤ (S.length : Int) := by omega
      have hk2 : (k : Int) ≤ (c1 : Int) := by omega
      have Hk := hide (HN.out k)
      generalize S.getD k [] = y at *
      have Ha := fun w' e => hide (sup_at A cap l y w' (Hcl.out.ext e) hl)
      have Hh := fun w' e => hide (has_s_take (some ⟨b, o, none⟩) c1 S k y w' (Hst.out.ext e) hk (by omega))
      have hneg := atI_neg l y
      generalize atI l y = a at *
      have HA := hide Ha
      have HH := hide Hh
      clear Ha Hh
      cases h1 : (names l).any (· == y)
      · rw [h1] at hneg Hk
        simp only [Bool.not_false, decide_eq_true_eq] at hneg
        have hR : R = false := by rw [HK.out]; exact allR_no hlt (by rw [Hk.out]; rfl)
        subst hR
        go_wp2_with fail
        refine (HA.out _ (by repeat (first | exact Ext.refl _ | exact Ext.pre (by simp) | exact Ext.alloc (by assumption) _ | refine Ext.alloc ?_ _ |  refine Ext.more ?_ _ _ | refine Ext.drew ?_ | refine Ext.drewN ?_ _))).out.mono ?_
        rintro e w1 ⟨rfl, rfl⟩
        go_wp2
        go_ret
        exact ⟨rfl, (by repeat (first | exact Ext.refl _ | exact Ext.pre (by simp) | exact Ext.alloc (by assumption) _ | refine Ext.alloc ?_ _ |  refine Ext.more ?_ _ _ | refine Ext.drew ?_ | refine Ext.drewN ?_ _))⟩
      · rw [h1] at hneg Hk
        simp only [Bool.not_true, decide_eq_false_iff_not] at hneg
        cases h2 : (S.take k).any (· == y)
        · rw [h2] at HH Hk
          go_wp2_with fail
          refine (HA.out _ (by repeat (first | exact Ext.refl _ | exact Ext.pre (by simp) | exact Ext.alloc (by assumption) _ | refine Ext.alloc ?_ _ |  refine Ext.more ?_ _ _ | refine Ext.drew ?_ | refine Ext.drewN ?_ _))).out.mono ?_
          rintro e w1 ⟨rfl, rfl⟩
          go_wp2_with fail
          refine (HH.out _ (by repeat (first | exact Ext.refl _ | exact Ext.pre (by simp) | exact Ext.alloc (by assumption) _ | refine Ext.alloc ?_ _ |  refine Ext.more ?_ _ _ | refine Ext.drew ?_ | refine Ext.drewN ?_ _))).out.mono ?_
          rintro e w1 ⟨rfl, rfl⟩
          go_wp2
          go_roundw
          case rel =>
            refine ⟨k + 1, hlt, by go_num, hide (fun j hj => ?_), hide ⟨_, rfl⟩⟩
            by_cases e : j = k
            · subst e; rw [Hk.out]; rfl
            · exact HJ.out j (by omega)
          case measure => simp [intOf]; omega
        · rw [h2] at HH Hk
          have hR : R = false := by rw [HK.out]; exact allR_no hlt (by rw [Hk.out]; rfl)
          subst hR
          go_wp2_with fail
          refine (HA.out _ (by repeat (first | exact Ext.refl _ | exact Ext.pre (by simp) | exact Ext.alloc (by assumption) _ | refine Ext.alloc ?_ _ |  refine Ext.more ?_ _ _ | refine Ext.drew ?_ | refine Ext.drewN ?_ _))).out.mono ?_
          rintro e w1 ⟨rfl, rfl⟩
          go_wp2_with fail
          refine (HH.out _ (by repeat (first | exact Ext.refl _ | exact Ext.pre (by simp) | exact Ext.alloc (by assumption) _ | refine Ext.alloc ?_ _ |  refine Ext.more ?_ _ _ | refine Ext.drew ?_ | refine Ext.drewN ?_ _))).out.mono ?_
          rintro e w1 ⟨rfl, rfl⟩
          go_wp2
          go_ret
          exact ⟨rfl, (by repeat (first | exact Ext.refl _ | exact Ext.pre (by simp) | exact Ext.alloc (by assumption) _ | refine Ext.alloc ?_ _ |  refine Ext.more ?_ _ _ | refine Ext.drew ?_ | refine Ext.drewN ?_ _))⟩
    · have hge : (S.length : Int) ≤ (k : Int) := by omega
      have hR : R = true := by rw [HK.out]; exact allR_yes (fun j hj => HJ.out j (by omega))
      subst hR
      go_wp2
      go_ret
      exact ⟨rfl, (by repeat (first | exact Ext.refl _ | exact Ext.pre (by simp) | exact Ext.alloc (by assumption) _ | refine Ext.alloc ?_ _ |  refine Ext.more ?_ _ _ | refine Ext.drew ?_ | refine Ext.drewN ?_ _))⟩

end Go.Proofs.Ytnegamkakdbhfaa
