/- Looking ahead: the reference's and the program's, against the plain model. -/
import Derived.Test.YtnegamkakdbhfaaCurB
import Derived.Test.YtnegamkakdbhfaaCurE
import Derived.WalkSpells
import Derived.WalkLawsBesides
import Derived.Deep.QuietTactic
import Derived.BigQuiet
namespace Go.Proofs.Ytnegamkakdbhfaa
open Go.RowKit

theorem drop_tok {ts : List Tok} {k : Nat} (h : k < ts.length) : ts.drop k = tokAt ts k :: ts.drop (k + 1) := by
  rw [List.drop_eq_getElem_cons h]; simp [tokAt, h]

set_option maxRecDepth 10000 in
set_option maxHeartbeats 1000000 in
theorem ref_ahead (A : Option Addr) (cap : Nat) (m : M) (s : ByteArray) (w : World) (h : RefC w A cap m) (hts : m.rest.length ≤ 100) :
    Calls Try.prog 30 #[refV A cap m, .string s] w fun e w' => e = .returned (.bool (m.ahead s)) ∧ Ext w w' := by
  by_cases he : m.err = 0
  · have he' : (m.err != 0) = false := by simpa using he
    have HR : Hid (m.ahead s = aheadL s (m.rest.drop 0) 0) := hide (by simp [M.ahead, he])
    generalize m.ahead s = R at *
    have Hrow := hide h.row
    clear h he
    have hn : m.rest.length ≤ 100 := hts
    clear hts
    simp only [refV]
    go_enter Try.func30, Try.ntmps30
    go_wp2
    go_loopw [5, 6] (fun dv iv wr => ∃ k dd : Nat, k ≤ m.rest.length ∧ dd ≤ k ∧ dv = .int .i64 dd ∧ iv = .int .i64 k ∧ Hid (R = aheadL s (m.rest.drop k) dd) ∧
      Ext (w.alloc (.cells #[.slice A m.rest.length cap, .int .i64 0, .int .i64 m.ep, .int .i64 0, .string ⟨#[]⟩, .int .i64 m.nest, .int .i64 m.err, .int .i64 m.pos] 31)) wr)
      (fun _ iv _ => m.rest.length - (intOf iv).toNat)
    case atStart => exact ⟨0, 0, Nat.zero_le _, Nat.le_refl _, rfl, rfl, HR, Ext.refl _⟩
    case round =>
      obtain ⟨k, dd, hk, hdd, rfl, rfl, HR, l0, d0, rfl⟩ := hrel
      by_cases hlt : k < m.rest.length
      · obtain ⟨b, o, rfl, hb, c0, c1, c2, c3⟩ := Hrow.out.at_ hlt
        have Hd := hide (drop_tok hlt)
        generalize tokAt m.rest k = t at *
        have hlt' : (k : Int) < (m.rest.length : Int) := by omega
        cases hb1 : wordB t ⟨#[40]⟩
        · cases hb2 : wordB t ⟨#[123]⟩
          · cases hb3 : (wordB t ⟨#[41]⟩ || wordB t ⟨#[125]⟩)
            · rw [Bool.or_eq_false_iff] at hb3
              obtain ⟨hb3, hb4⟩ := hb3
              rcases Nat.eq_zero_or_pos dd with hz | hz
              · subst hz
                cases hb5 : wordB t ⟨#[59]⟩
                · cases hb6 : wordB t s
                  · go_wp2_with (go_at_call 73; refine (ref_word _ _ _).mono ?_; rintro e w' ⟨rfl, l1, d1, rfl⟩)
                    go_roundw
                    case rel => exact ⟨k + 1, 0, hlt, by omega, by go_num, by go_num, hide (by rw [HR.out, Hd.out]; simp [aheadL, hb1, hb2, hb3, hb4, hb5, hb6]), (by repeat (first | exact Ext.refl _ | exact Ext.alloc (by assumption) _ | refine Ext.alloc ?_ _ | refine Ext.more ?_ _ _ | refine Ext.drew ?_ | refine Ext.drewN ?_ _))⟩
                    case measure => simp [intOf]; omega
                  · have hR : R = true := by rw [HR.out, Hd.out]; simp [aheadL, hb1, hb2, hb3, hb4, hb5, hb6]
                    subst hR
                    go_wp2_with (go_at_call 73; refine (ref_word _ _ _).mono ?_; rintro e w' ⟨rfl, l1, d1, rfl⟩)
                    go_ret
                    exact ⟨rfl, (by repeat (first | exact Ext.refl _ | exact Ext.alloc (by assumption) _ | refine Ext.alloc ?_ _ | refine Ext.more ?_ _ _ | refine Ext.drew ?_ | refine Ext.drewN ?_ _))⟩
                · have hR : R = false := by rw [HR.out, Hd.out]; simp [aheadL, hb1, hb2, hb3, hb4, hb5]
                  subst hR
                  go_wp2_with (go_at_call 73; refine (ref_word _ _ _).mono ?_; rintro e w' ⟨rfl, l1, d1, rfl⟩)
                  go_ret
                  exact ⟨rfl, (by repeat (first | exact Ext.refl _ | exact Ext.alloc (by assumption) _ | refine Ext.alloc ?_ _ | refine Ext.more ?_ _ _ | refine Ext.drew ?_ | refine Ext.drewN ?_ _))⟩
              · have hz' : ((dd : Int) == 0) = false := by simp; omega
                have hz2 : ¬ (dd : Int) < 0 := by omega
                have Hz : Hid (dd ≠ 0) := hide (by omega)
                go_wp2_with (go_at_call 73; refine (ref_word _ _ _).mono ?_; rintro e w' ⟨rfl, l1, d1, rfl⟩)
                go_roundw
                case rel => exact ⟨k + 1, dd, hlt, by omega, by go_num, by go_num, hide (by rw [HR.out, Hd.out]; simp [aheadL, hb1, hb2, hb3, hb4, Hz.out]), (by repeat (first | exact Ext.refl _ | exact Ext.alloc (by assumption) _ | refine Ext.alloc ?_ _ | refine Ext.more ?_ _ _ | refine Ext.drew ?_ | refine Ext.drewN ?_ _))⟩
                case measure => simp [intOf]; omega
            · rcases Nat.eq_zero_or_pos dd with hz | hz
              · subst hz
                have Hb3 := hide hb3
                have hR : R = false := by rw [HR.out, Hd.out]; simp only [aheadL, hb1, hb2, hb3]; simp
                subst hR
                cases hb3' : wordB t ⟨#[41]⟩
                · have hb4 : wordB t ⟨#[125]⟩ = true := by simpa [hb3'] using hb3
                  clear hb3
                  go_wp2_with (go_at_call 73; refine (ref_word _ _ _).mono ?_; rintro e w' ⟨rfl, l1, d1, rfl⟩)
                  go_ret
                  exact ⟨rfl, (by repeat (first | exact Ext.refl _ | exact Ext.alloc (by assumption) _ | refine Ext.alloc ?_ _ | refine Ext.more ?_ _ _ | refine Ext.drew ?_ | refine Ext.drewN ?_ _))⟩
                · clear hb3
                  go_wp2_with (go_at_call 73; refine (ref_word _ _ _).mono ?_; rintro e w' ⟨rfl, l1, d1, rfl⟩)
                  go_ret
                  exact ⟨rfl, (by repeat (first | exact Ext.refl _ | exact Ext.alloc (by assumption) _ | refine Ext.alloc ?_ _ | refine Ext.more ?_ _ _ | refine Ext.drew ?_ | refine Ext.drewN ?_ _))⟩
              · have hs : ((dd - 1 : Nat) : Int) = (dd : Int) - 1 := by omega
                have Hs := hide hs
                have hz2 : ¬ ((dd : Int) - 1 < 0) := by omega
                have HR' : Hid (R = aheadL s (m.rest.drop (k + 1)) (dd - 1)) := hide (by rw [HR.out, Hd.out]; simp only [aheadL, hb1, hb2, hb3]; simp; omega)
                clear hs
                cases hb3' : wordB t ⟨#[41]⟩
                · have hb4 : wordB t ⟨#[125]⟩ = true := by simpa [hb3'] using hb3
                  clear hb3
                  go_wp2_with (go_at_call 73; refine (ref_word _ _ _).mono ?_; rintro e w' ⟨rfl, l1, d1, rfl⟩)
                  go_roundw
                  case rel => exact ⟨k + 1, dd - 1, hlt, by omega, by rw [Hs.out], by go_num, HR', (by repeat (first | exact Ext.refl _ | exact Ext.alloc (by assumption) _ | refine Ext.alloc ?_ _ | refine Ext.more ?_ _ _ | refine Ext.drew ?_ | refine Ext.drewN ?_ _))⟩
                  case measure => simp [intOf]; omega
                · clear hb3
                  go_wp2_with (go_at_call 73; refine (ref_word _ _ _).mono ?_; rintro e w' ⟨rfl, l1, d1, rfl⟩)
                  go_roundw
                  case rel => exact ⟨k + 1, dd - 1, hlt, by omega, by rw [Hs.out], by go_num, HR', (by repeat (first | exact Ext.refl _ | exact Ext.alloc (by assumption) _ | refine Ext.alloc ?_ _ | refine Ext.more ?_ _ _ | refine Ext.drew ?_ | refine Ext.drewN ?_ _))⟩
                  case measure => simp [intOf]; omega
          · go_wp2_with (go_at_call 73; refine (ref_word _ _ _).mono ?_; rintro e w' ⟨rfl, l1, d1, rfl⟩)
            go_roundw
            case rel => exact ⟨k + 1, dd + 1, hlt, by omega, by go_num, by go_num, hide (by rw [HR.out, Hd.out]; simp [aheadL, hb1, hb2]), (by repeat (first | exact Ext.refl _ | exact Ext.alloc (by assumption) _ | refine Ext.alloc ?_ _ | refine Ext.more ?_ _ _ | refine Ext.drew ?_ | refine Ext.drewN ?_ _))⟩
            case measure => simp [intOf]; omega
        · go_wp2_with (go_at_call 73; refine (ref_word _ _ _).mono ?_; rintro e w' ⟨rfl, l1, d1, rfl⟩)
          go_roundw
          case rel => exact ⟨k + 1, dd + 1, hlt, by omega, by go_num, by go_num, hide (by rw [HR.out, Hd.out]; simp [aheadL, hb1]), (by repeat (first | exact Ext.refl _ | exact Ext.alloc (by assumption) _ | refine Ext.alloc ?_ _ | refine Ext.more ?_ _ _ | refine Ext.drew ?_ | refine Ext.drewN ?_ _))⟩
          case measure => simp [intOf]; omega
      · have hR : R = false := by rw [HR.out, List.drop_of_length_le (by omega)]; rfl
        subst hR
        have hge : (m.rest.length : Int) ≤ (k : Int) := by omega
        go_wp2
        go_ret
        exact ⟨rfl, (by repeat (first | exact Ext.refl _ | exact Ext.alloc (by assumption) _ | refine Ext.alloc ?_ _ | refine Ext.more ?_ _ _ | refine Ext.drew ?_ | refine Ext.drewN ?_ _))⟩
  · have he' : (m.err != 0) = true := by simpa using he
    have ev : m.ahead s = false := by simp [M.ahead, he]
    rw [ev]
    clear h he ev
    go_enter Try.func30, Try.ntmps30
    go_wp2
    go_ret
    exact ⟨rfl, (by repeat (first | exact Ext.refl _ | exact Ext.alloc (by assumption) _ | refine Ext.alloc ?_ _ | refine Ext.more ?_ _ _ | refine Ext.drew ?_ | refine Ext.drewN ?_ _))⟩

end Go.Proofs.Ytnegamkakdbhfaa
