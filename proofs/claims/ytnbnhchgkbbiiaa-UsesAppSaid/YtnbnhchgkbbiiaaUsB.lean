/- Contract: where a binding or a signature comes again, by the reference. -/
import Derived.Test.YtnbnhchgkbbiiaaUsA
namespace Go.Proofs.Ytnbnhchgkbbiiaa
open Go.RowKit

/-- Does a node bind, or sign, what one ahead of it does? -/
def dupB (t u : Tree) : Bool := (t.kind == 31 || t.kind == 32) && (u.kind == t.kind) && (u.text == t.text)
def twGo (pre : List Tree) : List Tree → Int × Bool
  | [] => (0, true)
  | t :: l => if pre.any (dupB t) then (t.pos, false) else twGo (pre ++ [t]) l
def twiceL (l : List Tree) : Int × Bool := twGo [] l
theorem twGo_drop (l : List Tree) {i : Nat} (h : i < l.length) : twGo (l.take i) (l.drop i) = if (l.take i).any (dupB (l[i]'h)) then ((l[i]'h).pos, false) else twGo (l.take (i + 1)) (l.drop (i + 1)) := by
  rw [List.drop_eq_getElem_cons h, List.take_succ_eq_append_getElem h]
  rfl

set_option maxRecDepth 10000 in
set_option maxHeartbeats 4000000 in
theorem r_twice14 (A : Option Addr) (cap : Nat) (l : List Tree) (w : World) (h : NodesIn w A l) (hl : l.length ≤ 100000) :
    Calls Try.prog 28 #[.slice A l.length cap] w fun e w' => e = .returned (.tuple #[.int .i64 (twiceL l).1, .bool (twiceL l).2]) ∧ Ext w w' := by
  have HK := hide h
  have HD := hide (fun i (hi : i < l.length) => twGo_drop l hi)
  have HR : Hid (twGo (l.take 0) (l.drop 0) = twiceL l) := hide rfl
  generalize twiceL l = R at *
  clear h
  go_enter Try.func28, Try.ntmps28
  go_wp2
  go_loopw [4] (fun iv wr => ∃ i : Nat, i ≤ l.length ∧ iv = .int .i64 i ∧ Hid (Ext w wr) ∧ Hid (twGo (l.take i) (l.drop i) = R)) (fun iv _ => l.length - (intOf iv).toNat)
  case atStart => exact ⟨0, Nat.zero_le _, rfl, hide (Ext.refl _), HR⟩
  case round =>
    obtain ⟨i, hi, rfl, HX, HT⟩ := hrel
    by_cases hlt : i < l.length
    · have hlt' : (i : Int) < (l.length : Int) := by omega
      have hi0 : (0 : Int) ≤ (i : Int) := by omega
      obtain ⟨b, o, rfl, hb⟩ := HK.out.some_ (by omega)
      have HQ : Hid (∀ w', Ext w w' → w'.cell? ⟨b, o + i * 5, none⟩ = some (.int .i64 (l[i]'hlt).kind) ∧ w'.cell? ⟨b, o + i * 5 + 1, none⟩ = some (.int .i64 (l[i]'hlt).pos) ∧ w'.cell? ⟨b, o + i * 5 + 3, none⟩ = some (.string ⟨(l[i]'hlt).text.toArray⟩)) := hide (fun w' e => by
        obtain ⟨q0, q1, q2, q3, q4⟩ := (HK.out.ext e).cells hlt
        exact ⟨q0, q1, q3⟩)
      have HT2 := hide (HD.out i hlt)
      rw [HT.out] at HT2
      have HP := hide (fun k (hk : k < i) => (show (l.take (k + 1)).any (dupB (l[i]'hlt)) = ((l.take k).any (dupB (l[i]'hlt)) || dupB (l[i]'hlt) (l[k]'(by omega))) from by rw [List.take_succ_eq_append_getElem (by omega), List.any_append]; simp))
      have HPt : Hid (∀ k (hk : k < i), (l.take (k + 1)).any (dupB (l[i]'hlt)) = true → (l.take i).any (dupB (l[i]'hlt)) = true) := hide (fun k hk h => by
        obtain ⟨x, hx, hp⟩ := List.any_eq_true.1 h
        refine List.any_eq_true.2 ⟨x, ?_, hp⟩
        exact (List.take_prefix_take_left (by omega)).subset hx)
      have HD0 : Hid (∀ u, dupB (l[i]'hlt) u = ((((l[i]'hlt).kind == 31) || ((l[i]'hlt).kind == 32)) && (u.kind == (l[i]'hlt).kind) && (u.text == (l[i]'hlt).text))) := hide (fun u => rfl)
      generalize l[i]'hlt = t at *
      generalize dupB t = P at *
      rename World => wA
      go_wp2
      go_loopw [5] (fun kv wr => ∃ k : Nat, k ≤ i ∧ kv = .int .i64 k ∧ Hid (Ext wA wr) ∧ Hid ((l.take k).any P = false)) (fun kv _ => i - (intOf kv).toNat)
      case atStart => exact ⟨0, Nat.zero_le _, rfl, hide (Ext.refl _), hide rfl⟩
      case round =>
        obtain ⟨k, hk, rfl, HXk, HA⟩ := hrel
        obtain ⟨q0, q1, q3⟩ := HQ.out _ (HX.out.trans HXk.out)
        by_cases hlk : k < i
        · have hlk' : (k : Int) < (i : Int) := by omega
          have hlk2 : (k : Int) < (l.length : Int) := by omega
          have hk0 : (0 : Int) ≤ (k : Int) := by omega
          have hkl : k < l.length := by omega
          obtain ⟨p0, p1, p2, p3, p4⟩ := (HK.out.ext (HX.out.trans HXk.out)).cells hkl
          have Hs := hide (HP.out k hlk)
          rw [HA.out, Bool.false_or, HD0.out] at Hs
          clear p1 p2 p4
          have HPt2 := hide (HPt.out k hlk)
          generalize l[k]'hkl = u at *
          cases h31 : (t.kind == 31)
          · cases h32 : (t.kind == 32)
            · rw [h31, h32] at Hs
              go_wp2
              go_quiet (fail)
              go_wp2
              go_roundw
              case rel => exact ⟨k + 1, hlk, by go_num, hide (HXk.out.trans (by repeat (first | exact Ext.refl _ | exact Ext.pre (by simp) | exact Ext.alloc (by assumption) _ | refine Ext.alloc ?_ _ |  refine Ext.more ?_ _ _ | refine Ext.drew ?_ | refine Ext.drewN ?_ _))), hide (by rw [Hs.out]; try rfl)⟩
              case measure => simp [intOf]; omega
            · cases hkk : (u.kind == t.kind)
              · rw [h31, h32, hkk] at Hs
                go_wp2
                go_quiet (fail)
                go_wp2
                go_roundw
                case rel => exact ⟨k + 1, hlk, by go_num, hide (HXk.out.trans (by repeat (first | exact Ext.refl _ | exact Ext.pre (by simp) | exact Ext.alloc (by assumption) _ | refine Ext.alloc ?_ _ |  refine Ext.more ?_ _ _ | refine Ext.drew ?_ | refine Ext.drewN ?_ _))), hide (by rw [Hs.out]; try rfl)⟩
                case measure => simp [intOf]; omega
              · cases htt : (u.text == t.text)
                · rw [h31, h32, hkk, htt] at Hs
                  go_wp2
                  go_quiet (fail)
                  go_wp2
                  go_roundw
                  case rel => exact ⟨k + 1, hlk, by go_num, hide (HXk.out.trans (by repeat (first | exact Ext.refl _ | exact Ext.pre (by simp) | exact Ext.alloc (by assumption) _ | refine Ext.alloc ?_ _ |  refine Ext.more ?_ _ _ | refine Ext.drew ?_ | refine Ext.drewN ?_ _))), hide (by rw [Hs.out]; try rfl)⟩
                  case measure => simp [intOf]; omega
                · rw [h31, h32, hkk, htt] at Hs
                  have hR : R = (t.pos, false) := by
                    have := HT2.out
                    rw [HPt2.out (by rw [Hs.out]; rfl)] at this
                    exact this
                  clear HT2 HT HR HPt2 HPt
                  subst hR
                  go_wp2
                  go_quiet (fail)
                  go_wp2
                  go_ret2
                  exact ⟨rfl, (HX.out.trans HXk.out).trans (by repeat (first | exact Ext.refl _ | exact Ext.pre (by simp) | exact Ext.alloc (by assumption) _ | refine Ext.alloc ?_ _ |  refine Ext.more ?_ _ _ | refine Ext.drew ?_ | refine Ext.drewN ?_ _))⟩
          · cases hkk : (u.kind == t.kind)
            · rw [h31, hkk] at Hs
              go_wp2
              go_quiet (fail)
              go_wp2
              go_roundw
              case rel => exact ⟨k + 1, hlk, by go_num, hide (HXk.out.trans (by repeat (first | exact Ext.refl _ | exact Ext.pre (by simp) | exact Ext.alloc (by assumption) _ | refine Ext.alloc ?_ _ |  refine Ext.more ?_ _ _ | refine Ext.drew ?_ | refine Ext.drewN ?_ _))), hide (by rw [Hs.out]; try rfl)⟩
              case measure => simp [intOf]; omega
            · cases htt : (u.text == t.text)
              · rw [h31, hkk, htt] at Hs
                go_wp2
                go_quiet (fail)
                go_wp2
                go_roundw
                case rel => exact ⟨k + 1, hlk, by go_num, hide (HXk.out.trans (by repeat (first | exact Ext.refl _ | exact Ext.pre (by simp) | exact Ext.alloc (by assumption) _ | refine Ext.alloc ?_ _ |  refine Ext.more ?_ _ _ | refine Ext.drew ?_ | refine Ext.drewN ?_ _))), hide (by rw [Hs.out]; try rfl)⟩
                case measure => simp [intOf]; omega
              · rw [h31, hkk, htt] at Hs
                have hR : R = (t.pos, false) := by
                  have := HT2.out
                  rw [HPt2.out (by rw [Hs.out]; rfl)] at this
                  exact this
                clear HT2 HT HR HPt2 HPt
                subst hR
                go_wp2
                go_quiet (fail)
                go_wp2
                go_ret2
                exact ⟨rfl, (HX.out.trans HXk.out).trans (by repeat (first | exact Ext.refl _ | exact Ext.pre (by simp) | exact Ext.alloc (by assumption) _ | refine Ext.alloc ?_ _ |  refine Ext.more ?_ _ _ | refine Ext.drew ?_ | refine Ext.drewN ?_ _))⟩
        · have hge : ¬ (k : Int) < (i : Int) := by omega
          have hki : k = i := by omega
          have HT3 : Hid (twGo (l.take (i + 1)) (l.drop (i + 1)) = R) := hide (by
            have h1 := HT2.out
            have h2 := HA.out
            rw [hki] at h2
            rw [h2] at h1
            exact h1.symm)
          clear hki
          go_wp2
          go_roundw
          case rel => exact ⟨i + 1, hlt, by go_num, hide (HX.out.trans HXk.out), HT3⟩
          case measure => simp [intOf]; omega
    · have hge : ¬ (i : Int) < (l.length : Int) := by omega
      have hR : R = (0, true) := by
        have := HT.out
        rw [List.drop_eq_nil_of_le (by omega)] at this
        exact this.symm
      clear HT HR
      subst hR
      go_wp2
      go_ret2
      exact ⟨rfl, HX.out⟩

end Go.Proofs.Ytnbnhchgkbbiiaa
