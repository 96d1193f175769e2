/- Looking ahead, the program's, against the plain model. -/
import Derived.Test.YtnegamkakdbhfaaCurF
import Derived.WalkSpells
import Derived.WalkLawsBesides
import Derived.Deep.QuietTactic
import Derived.BigQuiet
namespace Go.Proofs.Ytnegamkakdbhfaa
open Go.RowKit

set_option maxRecDepth 10000 in
set_option maxHeartbeats 1000000 in
theorem cur_ahead {w : World} {c cap k : Nat} {A : Option Addr} {ts : List Tok} {m : M} (h : Cur w c A cap ts k m) (hts : ts.length ≤ 100) (s : ByteArray) :
    Calls Try.prog 29 #[.pointer (some ⟨c, 0, none⟩), .string s] w fun e w' => e = .returned (.bool (m.ahead s)) ∧ Ext w w' := by
  have Hf := hide fun W (hW : Ext w W) => cur_failed (h.ext hW)
  have hc := h.lt
  by_cases he : m.err = 0
  · have he' : (m.err != 0) = false := by simpa using he
    have h0 : w.cell? ⟨c, 0, none⟩ = some (.slice A ts.length cap) := h.cell 0
    have h5 : w.cell? ⟨c, 5, none⟩ = some (.int .i64 k) := h.cell 5
    have hle := h.le
    have hk := h.cd.le
    have hk' : (k : Int) ≤ (ts.length : Int) := by omega
    have hle' : (ts.length : Int) ≤ (cap : Int) := by omega
    have Hrow := hide (h.row.cut hk hle)
    have HR : Hid (m.ahead s = aheadL s (ts.drop k) 0) := hide (by rw [← h.cd.rest.out]; simp [M.ahead, he])
    generalize m.ahead s = R at *
    have hrl0 : (ts.drop k).length ≤ 100 := by simp; omega
    clear h he
    by_cases hck : cap = k
    · have hkl : k = ts.length := by omega
      have hR : R = false := by rw [HR.out, List.drop_of_length_le (by omega)]; rfl
      subst hR
      subst hck
      have hkl' : ts.length - cap = 0 := by omega
      have hge : ¬ ((0 : Int) < ((ts.length - cap : Nat) : Int)) := by omega
      have hge2 : ((ts.length - cap : Nat) : Int) ≤ 0 := by omega
      clear hkl
      go_enter Try.func29, Try.ntmps29
      go_wp2_with fail
      refine (Hf.out _ (by repeat (first | exact Ext.refl _ | exact Ext.alloc (by assumption) _ | refine Ext.alloc ?_ _ | refine Ext.more ?_ _ _ | refine Ext.drew ?_ | refine Ext.drewN ?_ _))).mono ?_
      rintro e w' ⟨rfl, rfl⟩
      go_wp2
      go_quiet (fail)
      go_wp2
      refine wp_loop_rounds 1 ?_
      rw [rounds_succ]
      go_wp2
      go_ret
      exact ⟨rfl, (by repeat (first | exact Ext.refl _ | exact Ext.alloc (by assumption) _ | refine Ext.alloc ?_ _ | refine Ext.more ?_ _ _ | refine Ext.drew ?_ | refine Ext.drewN ?_ _))⟩
    · rw [if_neg hck] at Hrow
      go_enter Try.func29, Try.ntmps29
      go_wp2_with fail
      refine (Hf.out _ (by repeat (first | exact Ext.refl _ | exact Ext.alloc (by assumption) _ | refine Ext.alloc ?_ _ | refine Ext.more ?_ _ _ | refine Ext.drew ?_ | refine Ext.drewN ?_ _))).mono ?_
      rintro e w' ⟨rfl, rfl⟩
      go_wp2
      go_quiet (fail)
      go_wp2
      generalize Option.map (fun x : Addr => x.add (k * 4)) A = A' at Hrow ⊢
      have hn : ts.length - k = (ts.drop k).length := by simp
      rw [hn]
      clear hn
      generalize ts.drop k = rest at *
      clear h0 h5 hk' hle' hle hk hck
      go_loopw [5, 20] (fun dv iv wr => ∃ k' dd : Nat, k' ≤ rest.length ∧ dd ≤ k' ∧ dv = .int .i64 dd ∧ iv = .int .i64 k' ∧ Hid (R = aheadL s (rest.drop k') dd) ∧ Ext w' wr) (fun _ iv _ => rest.length - (intOf iv).toNat)
      case atStart => exact ⟨0, 0, Nat.zero_le _, Nat.le_refl _, rfl, rfl, HR, (by repeat (first | exact Ext.refl _ | exact Ext.alloc (by assumption) _ | refine Ext.alloc ?_ _ | refine Ext.more ?_ _ _ | refine Ext.drew ?_ | refine Ext.drewN ?_ _))⟩
      case round =>
        obtain ⟨k', dd, hk, hdd, rfl, rfl, HR, l0, d0, rfl⟩ := hrel
        by_cases hlt : k' < rest.length
        · obtain ⟨b, o, rfl, hb, c0, c1, c2, c3⟩ := Hrow.out.at_ hlt
          have Hd := hide (drop_tok hlt)
          generalize tokAt rest k' = t at *
          have hlt' : (k' : Int) < (rest.length : Int) := by omega
          cases hb1 : (wordB t ⟨#[40]⟩ || wordB t ⟨#[123]⟩)
          · cases hb3 : (wordB t ⟨#[41]⟩ || wordB t ⟨#[125]⟩)
            · rcases Nat.eq_zero_or_pos dd with hz | hz
              · subst hz
                cases hb5 : wordB t ⟨#[59]⟩
                · cases hb6 : wordB t s
                  · have HR' : Hid (R = aheadL s (rest.drop (k' + 1)) 0) := hide (by rw [HR.out, Hd.out]; simp only [aheadL, hb1, hb3, hb5, hb6]; simp)
                    go_wp2_with fail
                    refine (cur_among2 _ _ ⟨#[40]⟩ ⟨#[123]⟩ _ (by simp [go_sem]) (by simp [go_sem]) (by simp [go_sem])).mono ?_
                    rintro e w1 ⟨rfl, l1, d1, rfl⟩
                    go_wp2_with fail
                    refine (cur_among2 _ _ ⟨#[41]⟩ ⟨#[125]⟩ _ (by simp [go_sem]) (by simp [go_sem]) (by simp [go_sem])).mono ?_
                    rintro e w1 ⟨rfl, l2, d2, rfl⟩
                    go_wp2_with fail
                    refine (cur_among1 _ _ ⟨#[59]⟩ _ (by simp [go_sem]) (by simp [go_sem])).mono ?_
                    rintro e w1 ⟨rfl, l3, d3, rfl⟩
                    go_wp2_with fail
                    refine (cur_among1 _ _ s _ (by simp [go_sem]) (by simp [go_sem])).mono ?_
                    rintro e w1 ⟨rfl, l4, d4, rfl⟩
                    go_wp2
                    go_roundw
                    case rel => exact ⟨k' + 1, 0, hlt, by omega, by go_num, by go_num, HR', (by repeat (first | exact Ext.refl _ | exact Ext.alloc (by assumption) _ | refine Ext.alloc ?_ _ | refine Ext.more ?_ _ _ | refine Ext.drew ?_ | refine Ext.drewN ?_ _))⟩
                    case measure => simp [intOf]; omega
                  · have hR : R = true := by rw [HR.out, Hd.out]; simp only [aheadL, hb1, hb3, hb5, hb6]; simp
                    subst hR
                    go_wp2_with fail
                    refine (cur_among2 _ _ ⟨#[40]⟩ ⟨#[123]⟩ _ (by simp [go_sem]) (by simp [go_sem]) (by simp [go_sem])).mono ?_
                    rintro e w1 ⟨rfl, l1, d1, rfl⟩
                    go_wp2_with fail
                    refine (cur_among2 _ _ ⟨#[41]⟩ ⟨#[125]⟩ _ (by simp [go_sem]) (by simp [go_sem]) (by simp [go_sem])).mono ?_
                    rintro e w1 ⟨rfl, l2, d2, rfl⟩
                    go_wp2_with fail
                    refine (cur_among1 _ _ ⟨#[59]⟩ _ (by simp [go_sem]) (by simp [go_sem])).mono ?_
                    rintro e w1 ⟨rfl, l3, d3, rfl⟩
                    go_wp2_with fail
                    refine (cur_among1 _ _ s _ (by simp [go_sem]) (by simp [go_sem])).mono ?_
                    rintro e w1 ⟨rfl, l4, d4, rfl⟩
                    go_wp2
                    go_ret
                    exact ⟨rfl, (by repeat (first | exact Ext.refl _ | exact Ext.alloc (by assumption) _ | refine Ext.alloc ?_ _ | refine Ext.more ?_ _ _ | refine Ext.drew ?_ | refine Ext.drewN ?_ _))⟩
                · have hR : R = false := by rw [HR.out, Hd.out]; simp only [aheadL, hb1, hb3, hb5]; simp
                  subst hR
                  go_wp2_with fail
                  refine (cur_among2 _ _ ⟨#[40]⟩ ⟨#[123]⟩ _ (by simp [go_sem]) (by simp [go_sem]) (by simp [go_sem])).mono ?_
                  rintro e w1 ⟨rfl, l1, d1, rfl⟩
                  go_wp2_with fail
                  refine (cur_among2 _ _ ⟨#[41]⟩ ⟨#[125]⟩ _ (by simp [go_sem]) (by simp [go_sem]) (by simp [go_sem])).mono ?_
                  rintro e w1 ⟨rfl, l2, d2, rfl⟩
                  go_wp2_with fail
                  refine (cur_among1 _ _ ⟨#[59]⟩ _ (by simp [go_sem]) (by simp [go_sem])).mono ?_
                  rintro e w1 ⟨rfl, l3, d3, rfl⟩
                  go_wp2
                  go_ret
                  exact ⟨rfl, (by repeat (first | exact Ext.refl _ | exact Ext.alloc (by assumption) _ | refine Ext.alloc ?_ _ | refine Ext.more ?_ _ _ | refine Ext.drew ?_ | refine Ext.drewN ?_ _))⟩
              · have hz' : (0 : Int) < (dd : Int) := by omega
                have HR' : Hid (R = aheadL s (rest.drop (k' + 1)) dd) := hide (by rw [HR.out, Hd.out]; simp only [aheadL, hb1, hb3]; simp; omega)
                go_wp2_with fail
                refine (cur_among2 _ _ ⟨#[40]⟩ ⟨#[123]⟩ _ (by simp [go_sem]) (by simp [go_sem]) (by simp [go_sem])).mono ?_
                rintro e w1 ⟨rfl, l1, d1, rfl⟩
                go_wp2_with fail
                refine (cur_among2 _ _ ⟨#[41]⟩ ⟨#[125]⟩ _ (by simp [go_sem]) (by simp [go_sem]) (by simp [go_sem])).mono ?_
                rintro e w1 ⟨rfl, l2, d2, rfl⟩
                go_wp2
                go_roundw
                case rel => exact ⟨k' + 1, dd, hlt, by omega, by go_num, by go_num, HR', (by repeat (first | exact Ext.refl _ | exact Ext.alloc (by assumption) _ | refine Ext.alloc ?_ _ | refine Ext.more ?_ _ _ | refine Ext.drew ?_ | refine Ext.drewN ?_ _))⟩
                case measure => simp [intOf]; omega
            · rcases Nat.eq_zero_or_pos dd with hz | hz
              · subst hz
                have hR : R = false := by rw [HR.out, Hd.out]; simp only [aheadL, hb1, hb3]; simp
                subst hR
                go_wp2_with fail
                refine (cur_among2 _ _ ⟨#[40]⟩ ⟨#[123]⟩ _ (by simp [go_sem]) (by simp [go_sem]) (by simp [go_sem])).mono ?_
                rintro e w1 ⟨rfl, l1, d1, rfl⟩
                go_wp2_with fail
                refine (cur_among2 _ _ ⟨#[41]⟩ ⟨#[125]⟩ _ (by simp [go_sem]) (by simp [go_sem]) (by simp [go_sem])).mono ?_
                rintro e w1 ⟨rfl, l2, d2, rfl⟩
                go_wp2
                go_ret
                exact ⟨rfl, (by repeat (first | exact Ext.refl _ | exact Ext.alloc (by assumption) _ | refine Ext.alloc ?_ _ | refine Ext.more ?_ _ _ | refine Ext.drew ?_ | refine Ext.drewN ?_ _))⟩
              · have hs : ((dd - 1 : Nat) : Int) = (dd : Int) - 1 := by omega
                have Hs := hide hs
                have hz2 : (0 : Int) ≤ (dd : Int) - 1 := by omega
                have hz3 : (1 : Int) ≤ (dd : Int) := by omega
                have HR' : Hid (R = aheadL s (rest.drop (k' + 1)) (dd - 1)) := hide (by rw [HR.out, Hd.out]; simp only [aheadL, hb1, hb3]; simp; omega)
                clear hs
                go_wp2_with fail
                refine (cur_among2 _ _ ⟨#[40]⟩ ⟨#[123]⟩ _ (by simp [go_sem]) (by simp [go_sem]) (by simp [go_sem])).mono ?_
                rintro e w1 ⟨rfl, l1, d1, rfl⟩
                go_wp2_with fail
                refine (cur_among2 _ _ ⟨#[41]⟩ ⟨#[125]⟩ _ (by simp [go_sem]) (by simp [go_sem]) (by simp [go_sem])).mono ?_
                rintro e w1 ⟨rfl, l2, d2, rfl⟩
                go_wp2
                go_roundw
                case rel => exact ⟨k' + 1, dd - 1, hlt, by omega, by rw [Hs.out], by go_num, HR', (by repeat (first | exact Ext.refl _ | exact Ext.alloc (by assumption) _ | refine Ext.alloc ?_ _ | refine Ext.more ?_ _ _ | refine Ext.drew ?_ | refine Ext.drewN ?_ _))⟩
                case measure => simp [intOf]; omega
          · have HR' : Hid (R = aheadL s (rest.drop (k' + 1)) (dd + 1)) := hide (by rw [HR.out, Hd.out]; simp only [aheadL, hb1]; simp)
            go_wp2_with fail
            refine (cur_among2 _ _ ⟨#[40]⟩ ⟨#[123]⟩ _ (by simp [go_sem]) (by simp [go_sem]) (by simp [go_sem])).mono ?_
            rintro e w1 ⟨rfl, l1, d1, rfl⟩
            go_wp2
            go_roundw
            case rel => exact ⟨k' + 1, dd + 1, hlt, by omega, by go_num, by go_num, HR', (by repeat (first | exact Ext.refl _ | exact Ext.alloc (by assumption) _ | refine Ext.alloc ?_ _ | refine Ext.more ?_ _ _ | refine Ext.drew ?_ | refine Ext.drewN ?_ _))⟩
            case measure => simp [intOf]; omega
        · have hR : R = false := by rw [HR.out, List.drop_of_length_le (by omega)]; rfl
          subst hR
          have hge : (rest.length : Int) ≤ (k' : Int) := by omega
          go_wp2
          go_ret
          exact ⟨rfl, (by repeat (first | exact Ext.refl _ | exact Ext.alloc (by assumption) _ | refine Ext.alloc ?_ _ | refine Ext.more ?_ _ _ | refine Ext.drew ?_ | refine Ext.drewN ?_ _))⟩
  · have he' : (m.err != 0) = true := by simpa using he
    have ev : m.ahead s = false := by simp [M.ahead, he]
    rw [ev]
    clear h he ev
    go_enter Try.func29, Try.ntmps29
    go_wp2_with fail
    refine (Hf.out _ (by repeat (first | exact Ext.refl _ | exact Ext.alloc (by assumption) _ | refine Ext.alloc ?_ _ | refine Ext.more ?_ _ _ | refine Ext.drew ?_ | refine Ext.drewN ?_ _))).mono ?_
    rintro e w' ⟨rfl, rfl⟩
    go_wp2
    go_ret
    exact ⟨rfl, (by repeat (first | exact Ext.refl _ | exact Ext.alloc (by assumption) _ | refine Ext.alloc ?_ _ | refine Ext.more ?_ _ _ | refine Ext.drew ?_ | refine Ext.drewN ?_ _))⟩

end Go.Proofs.Ytnegamkakdbhfaa
