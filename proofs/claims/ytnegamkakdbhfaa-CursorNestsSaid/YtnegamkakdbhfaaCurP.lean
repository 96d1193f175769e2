/- 'CursorNests': as deep as 200, and back, and again. -/
import Derived.Test.YtnegamkakdbhfaaCurL
import Derived.WalkSpells
import Derived.WalkLawsBesides
import Derived.Deep.QuietTactic
import Derived.BigQuiet
namespace Go.Proofs.Ytnegamkakdbhfaa
open Go.RowKit

def atNest (m : M) (n : Nat) : M := { m with nest := n }
theorem atNest_enterB {m : M} {n : Nat} (he : m.err = 0) (hn : n < 200) : (atNest m n).enterB = true := by simp [M.enterB, atNest, he, hn]
theorem atNest_enter {m : M} {n : Nat} (he : m.err = 0) (hn : n < 200) : (atNest m n).enter = atNest m (n + 1) := by
  unfold M.enter; rw [atNest_enterB he hn]; rfl
theorem atNest_leave {m : M} {n : Nat} (he : m.err = 0) : (atNest m (n + 1)).leave = atNest m n := by simp [M.leave, atNest, he]
theorem atNest_full {m : M} (he : m.err = 0) : (atNest m 200).enterB = false ∧ (atNest m 200).enter = (atNest m 200).fail 2 ∧ ((atNest m 200).fail 2).enterB = false ∧
    ((atNest m 200).fail 2).doneP = (atNest m 200).peek.pos ∧ ((atNest m 200).fail 2).doneE = 2 := by
  simp [M.enterB, M.enter, atNest, M.fail, M.doneP, M.doneE, M.peek, he]

set_option maxRecDepth 10000 in
set_option maxHeartbeats 2000000 in
theorem law_nests (A : Option Addr) (cap : Nat) (l : List Tok) (back : Int) (w : World) (h : Toks w A l) (hle : l.length ≤ cap) (hcap : cap ≤ 9223372036854775807) :
    Calls Try.prog 4 #[.slice A l.length cap, .int .i64 back] w fun e w' => e = .returned (.bool true) ∧ Ext w w' := by
  by_cases hl : l.length ≤ 100
  · go_enter Try.func4, Try.ntmps4
    go_wp2_with fail
    refine (few_yes _ _ _ _ _ _ _ hl (by omega)).mono ?_
    rintro e w' ⟨rfl, rfl⟩
    go_wp2_with fail
    refine (cur_new A cap l _ h hl hle hcap).mono ?_
    rintro e w1 ⟨⟨c, A1, cap1, rfl, hc1, hA1, hcur⟩, hx1⟩
    have he0 : (initM l).err = 0 := rfl
    have hn0 : initM l = atNest (initM l) 0 := rfl
    have hrl : (initM l).rest.length ≤ 100 := by
      have : (initM l).rest.length ≤ l.length := (List.takeWhile_sublist _).length_le
      omega
    rw [hn0] at hcur
    generalize hm : initM l = m at *
    have Hcur : Hid (∃ k, Cur w1 c A1 cap1 m.rest k (atNest m 0)) := hide ⟨0, hcur⟩
    have Hx := hide hx1
    have He := hide he0
    clear hcur hx1 hn0 hm h he0 hA1
    obtain ⟨K, hK, eK⟩ : ∃ K : Nat, K ≤ 200 ∧ wrap64 ((IntKind.u64.wrap back).tmod 201) = (K : Int) := by
      have h0 : 0 ≤ IntKind.u64.wrap back := by simp only [IntKind.wrap, IntKind.signed, IntKind.bits]; simp; omega
      rw [Int.tmod_eq_emod_of_nonneg h0]
      generalize IntKind.u64.wrap back = x at *
      refine ⟨(x % 201).toNat, by omega, ?_⟩
      rw [IntWalk.wrap64_in _ (by omega)]
      omega
    have EK := hide eK
    clear eK
    go_wp2_with fail
    rw [EK.out]
    go_loopw [7] (fun iv wr => ∃ i : Nat, i ≤ 200 ∧ iv = .int .i64 i ∧ Hid (∃ k, Cur wr c A1 cap1 m.rest k (atNest m i)) ∧ Hid (Ext w wr)) (fun iv _ => 200 - (intOf iv).toNat)
    case atStart => exact ⟨0, by omega, rfl, Hcur, Hx⟩
    case round =>
      obtain ⟨i, hi, rfl, HC, HX⟩ := hrel
      by_cases hlt : i < 200
      · have hlt' : (i : Int) < 200 := by omega
        obtain ⟨k, hk⟩ := HC.out
        have hE := atNest_enterB He.out hlt
        have HE := hide (atNest_enter He.out hlt)
        have HK := hide hk
        clear HC hk
        go_wp2_with fail
        refine (cur_enter HK.out).mono ?_
        rintro e w2 ⟨rfl, k2, d2, u2⟩
        rw [HE.out] at d2 u2
        have HC2 : Hid (∃ k, Cur w2 c A1 cap1 m.rest k (atNest m (i + 1))) := hide ⟨k2, HK.out.upd d2 u2⟩
        have HX2 := hide (HX.out.upd u2 hc1)
        clear d2 u2
        go_wp2
        go_roundw
        case rel => exact ⟨i + 1, hlt, by go_num, HC2, HX2⟩
        case measure => simp [intOf]; omega
      · have hi2 : i = 200 := by omega
        rw [hi2] at HC
        have hge : (200 : Int) ≤ (i : Int) := by omega
        clear hlt Hcur Hx hi2
        have hK' : (K : Int) ≤ 200 := by omega
        go_wp2_with fail
        go_loopw [8] (fun iv wr => ∃ j : Nat, j ≤ K ∧ iv = .int .i64 j ∧ Hid (∃ k, Cur wr c A1 cap1 m.rest k (atNest m (200 - j))) ∧ Hid (Ext w wr)) (fun iv _ => K - (intOf iv).toNat)
        case atStart => exact ⟨0, by omega, rfl, HC, HX⟩
        case round =>
          clear HC HX
          obtain ⟨j, hj, rfl, HC, HX⟩ := hrel
          by_cases hlt : j < K
          · have hlt' : (j : Int) < (K : Int) := by omega
            obtain ⟨k, hk⟩ := HC.out
            have HE : Hid ((atNest m (200 - j)).leave = atNest m (200 - (j + 1))) := hide (by
              rw [show 200 - j = 200 - (j + 1) + 1 by omega]; exact atNest_leave He.out)
            have HK := hide hk
            clear HC hk
            go_wp2_with fail
            refine (cur_leave HK.out).mono ?_
            rintro e w2 ⟨rfl, k2, d2, u2⟩
            rw [HE.out] at d2 u2
            have HC2 : Hid (∃ k, Cur w2 c A1 cap1 m.rest k (atNest m (200 - (j + 1)))) := hide ⟨k2, HK.out.upd d2 u2⟩
            have HX2 := hide (HX.out.upd u2 hc1)
            clear d2 u2
            go_wp2
            go_roundw
            case rel => exact ⟨j + 1, hlt, by go_num, HC2, HX2⟩
            case measure => simp [intOf]; omega
          · have hjK : j = K := by omega
            subst hjK
            clear hlt
            go_wp2_with fail
            go_loopw [9] (fun iv wr => ∃ i : Nat, i ≤ j ∧ iv = .int .i64 i ∧ Hid (∃ k, Cur wr c A1 cap1 m.rest k (atNest m (200 - j + i))) ∧ Hid (Ext w wr)) (fun iv _ => j - (intOf iv).toNat)
            case atStart => exact ⟨0, by omega, rfl, HC, HX⟩
            case round =>
              clear HC HX
              obtain ⟨i, hi, rfl, HC, HX⟩ := hrel
              by_cases hlt : i < j
              · have hlt' : (i : Int) < (j : Int) := by omega
                obtain ⟨k, hk⟩ := HC.out
                have hE : (atNest m (200 - j + i)).enterB = true := atNest_enterB He.out (by omega)
                have HE : Hid ((atNest m (200 - j + i)).enter = atNest m (200 - j + (i + 1))) := hide (atNest_enter He.out (by omega))
                have HK := hide hk
                clear HC hk
                go_wp2_with fail
                refine (cur_enter HK.out).mono ?_
                rintro e w2 ⟨rfl, k2, d2, u2⟩
                rw [HE.out] at d2 u2
                have HC2 : Hid (∃ k, Cur w2 c A1 cap1 m.rest k (atNest m (200 - j + (i + 1)))) := hide ⟨k2, HK.out.upd d2 u2⟩
                have HX2 := hide (HX.out.upd u2 hc1)
                clear d2 u2
                go_wp2
                go_roundw
                case rel => exact ⟨i + 1, hlt, by go_num, HC2, HX2⟩
                case measure => simp [intOf]; omega
              · have hij : i = j := by omega
                subst hij
                clear hlt
                obtain ⟨k, hk⟩ := HC.out
                rw [show 200 - i + i = 200 by omega] at hk
                obtain ⟨b1, b2, b3, b4, b5⟩ := atNest_full He.out
                have B2 := hide b2
                have HK := hide hk
                clear HC hk b2
                go_wp2_with fail
                refine (cur_peek HK.out).mono ?_
                rintro e w2 ⟨rfl, x2⟩
                have HK2 := hide (HK.out.ext x2)
                have HX2 := hide (HX.out.trans x2)
                clear HK HX x2
                go_wp2_with fail
                refine (cur_enter HK2.out).mono ?_
                rintro e w3 ⟨rfl, k3, d3, u3⟩
                rw [B2.out] at d3 u3
                have HK3 := hide (HK2.out.upd d3 u3)
                have HX3 := hide (HX2.out.upd u3 hc1)
                clear HK2 HX2 d3 u3
                go_wp2_with fail
                refine (cur_done HK3.out).mono ?_
                rintro e w4 ⟨rfl, x4⟩
                have HK4 := hide (HK3.out.ext x4)
                have HX4 := hide (HX3.out.trans x4)
                clear HK3 HX3 x4
                go_wp2_with fail
                refine (cur_enter HK4.out).mono ?_
                rintro e w5 ⟨rfl, k5, d5, u5⟩
                have HX5 := hide (HX4.out.upd u5 hc1)
                clear HK4 HX4 d5 u5
                go_wp2_with fail
                refine (awake05 _).mono ?_
                rintro e w6 ⟨rfl, x6⟩
                have HX6 := hide (HX5.out.trans x6)
                clear HX5 x6
                go_wp2
                go_ret
                exact ⟨rfl, HX6.out⟩
  · go_enter Try.func4, Try.ntmps4
    go_wp2_with fail
    refine (few_no _ _ _ _ _ _ _ (fun h => hl h.1)).mono ?_
    rintro e w' ⟨rfl, rfl⟩
    go_wp2_with fail
    refine (awake05 _).mono ?_
    rintro e w' ⟨rfl, l1, d1, rfl⟩
    go_wp2
    go_ret
    exact ⟨rfl, (by repeat (first | exact Ext.refl _ | exact Ext.alloc (by assumption) _ | refine Ext.alloc ?_ _ | refine Ext.more ?_ _ _ | refine Ext.drew ?_ | refine Ext.drewN ?_ _))⟩

end Go.Proofs.Ytnegamkakdbhfaa
