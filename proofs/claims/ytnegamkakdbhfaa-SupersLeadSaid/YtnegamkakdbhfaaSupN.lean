/- Chapter 22's laws on checks, paths and order, walked. -/
import Derived.Test.YtnegamkakdbhfaaSupM
namespace Go.Proofs.Ytnegamkakdbhfaa
open Go.RowKit

section
variable (A B : Option Addr) (cap cap' : Nat) (l : List Cls) (ns : List Str) (x y z : Str) (w : World)
set_option maxRecDepth 10000 in
set_option maxHeartbeats 2000000 in
theorem law_checks (h : Classes w A l) (hle : l.length ≤ 9223372036854775807) :
    Calls Try.prog 7 #[.slice A l.length cap, encStr x] w fun e w' => e = .returned (.bool true) ∧ Ext w w' := by
  have Hf := hide (few_ok A cap l w h hle)
  cases hf : fewL l
  · rw [hf] at Hf
    clear h hle hf
    go_enter Try.func7, Try.ntmps7
    go_wp2_with fail
    refine Hf.out.mono ?_
    rintro e w1 ⟨rfl, rfl⟩
    go_wp2_with fail
    refine (awake22_ok _).mono ?_
    rintro e w1 ⟨rfl, l1, d1, rfl⟩
    go_wp2
    go_ret
    exact ⟨rfl, (by repeat (first | exact Ext.refl _ | exact Ext.pre (by simp) | exact Ext.alloc (by assumption) _ | refine Ext.alloc ?_ _ |  refine Ext.more ?_ _ _ | refine Ext.drew ?_ | refine Ext.drewN ?_ _))⟩
  · rw [hf] at Hf
    obtain ⟨hl, hs⟩ := (fewL_iff l).1 hf
    have Hc := hide (sup_check A cap l w h hl hs)
    have Hd := hide (fun w' (e : Ext w w') => hide (ref_check A cap l w' (h.ext e) hl hs))
    have He := hide (fun w' (e : Ext w w') => hide (sup_all A cap l x w' (h.ext e) hl hs))
    have Hg := hide (fun w' (e : Ext w w') => hide (ref_all A cap l x w' (h.ext e) hl hs))
    have Hb := hide (fun w' (e : Ext w w') => hide (sup_below A cap l x w' (h.ext e) hl hs))
    have Hr := hide (fun w' (e : Ext w w') => hide (ref_below A cap l x w' (h.ext e) hl hs))
    clear h hle hf hl hs
    generalize checkL l = R at *
    obtain ⟨ri, re⟩ := R
    generalize allL l x = L1 at *
    generalize belowL l x = L2 at *
    have t1 : (ri == ri) = true := by simp
    have t2 : (re == re) = true := by simp
    go_enter Try.func7, Try.ntmps7
    go_wp2_with fail
    refine Hf.out.mono ?_
    rintro e w1 ⟨rfl, rfl⟩
    go_wp2_with fail
    refine Hc.out.mono ?_
    rintro e w2 ⟨rfl, l1, d1, rfl⟩
    go_wp2_with fail
    refine (Hd.out _ (by repeat (first | exact Ext.refl _ | exact Ext.pre (by simp) | exact Ext.alloc (by assumption) _ | refine Ext.alloc ?_ _ |  refine Ext.more ?_ _ _ | refine Ext.drew ?_ | refine Ext.drewN ?_ _))).out.mono ?_
    rintro e w2 ⟨rfl, l2, d2, rfl⟩
    go_wp2_with fail
    refine (He.out _ (by repeat (first | exact Ext.refl _ | exact Ext.pre (by simp) | exact Ext.alloc (by assumption) _ | refine Ext.alloc ?_ _ |  refine Ext.more ?_ _ _ | refine Ext.drew ?_ | refine Ext.drewN ?_ _))).out.mono ?_
    rintro e w2 ⟨⟨A3, c3, rfl, g1, g2, g3⟩, l3, d3, rfl⟩
    simp only [more_more, List.append_assoc] at g3
    have G3 := hide g3
    clear g3
    go_wp2_with fail
    refine (Hg.out _ (by repeat (first | exact Ext.refl _ | exact Ext.pre (by simp) | exact Ext.alloc (by assumption) _ | refine Ext.alloc ?_ _ |  refine Ext.more ?_ _ _ | refine Ext.drew ?_ | refine Ext.drewN ?_ _))).out.mono ?_
    rintro e w2 ⟨⟨A4, c4, rfl, g4, g5, g6⟩, l4, d4, rfl⟩
    simp only [more_more, List.append_assoc] at g6
    have G4 := hide g6
    clear g6
    go_wp2_with fail
    refine (ref_texts_yesB A3 A4 c3 c4 L1 _ (G3.out.ext (by repeat (first | exact Ext.refl _ | exact Ext.pre (by simp) | exact Ext.alloc (by assumption) _ | refine Ext.alloc ?_ _ |  refine Ext.more ?_ _ _ | refine Ext.drew ?_ | refine Ext.drewN ?_ _))) (G4.out.ext (by repeat (first | exact Ext.refl _ | exact Ext.pre (by simp) | exact Ext.alloc (by assumption) _ | refine Ext.alloc ?_ _ |  refine Ext.more ?_ _ _ | refine Ext.drew ?_ | refine Ext.drewN ?_ _))) (by omega)).mono ?_
    rintro e w2 ⟨rfl, l5, d5, rfl⟩
    clear G3 G4
    go_wp2_with fail
    refine (Hb.out _ (by repeat (first | exact Ext.refl _ | exact Ext.pre (by simp) | exact Ext.alloc (by assumption) _ | refine Ext.alloc ?_ _ |  refine Ext.more ?_ _ _ | refine Ext.drew ?_ | refine Ext.drewN ?_ _))).out.mono ?_
    rintro e w2 ⟨⟨A6, c6, rfl, g7, g8, g9⟩, l6, d6, rfl⟩
    simp only [more_more, List.append_assoc] at g9
    have G6 := hide g9
    clear g9
    go_wp2_with fail
    refine (Hr.out _ (by repeat (first | exact Ext.refl _ | exact Ext.pre (by simp) | exact Ext.alloc (by assumption) _ | refine Ext.alloc ?_ _ |  refine Ext.more ?_ _ _ | refine Ext.drew ?_ | refine Ext.drewN ?_ _))).out.mono ?_
    rintro e w2 ⟨⟨A7, c7, rfl, g10, g11, g12⟩, l7, d7, rfl⟩
    simp only [more_more, List.append_assoc] at g12
    have G7 := hide g12
    clear g12
    go_wp2_with fail
    refine (ref_texts_yesB A6 A7 c6 c7 L2 _ (G6.out.ext (by repeat (first | exact Ext.refl _ | exact Ext.pre (by simp) | exact Ext.alloc (by assumption) _ | refine Ext.alloc ?_ _ |  refine Ext.more ?_ _ _ | refine Ext.drew ?_ | refine Ext.drewN ?_ _))) (G7.out.ext (by repeat (first | exact Ext.refl _ | exact Ext.pre (by simp) | exact Ext.alloc (by assumption) _ | refine Ext.alloc ?_ _ |  refine Ext.more ?_ _ _ | refine Ext.drew ?_ | refine Ext.drewN ?_ _))) (by omega)).mono ?_
    rintro e w2 ⟨rfl, l8, d8, rfl⟩
    clear G6 G7
    go_wp2_with fail
    refine (awake22_ok _).mono ?_
    rintro e w2 ⟨rfl, l9, d9, rfl⟩
    go_wp2
    go_ret
    exact ⟨rfl, (by repeat (first | exact Ext.refl _ | exact Ext.pre (by simp) | exact Ext.alloc (by assumption) _ | refine Ext.alloc ?_ _ |  refine Ext.more ?_ _ _ | refine Ext.drew ?_ | refine Ext.drewN ?_ _))⟩

set_option maxRecDepth 10000 in
set_option maxHeartbeats 2000000 in
theorem law_paths (h : Classes w A l) (hle : l.length ≤ 9223372036854775807) (hn : Strs w B ns) (hnl : ns.length ≤ 9223372036854775807) :
    Calls Try.prog 8 #[.slice A l.length cap, .agg #[encStr x, encStr y], .slice B ns.length cap'] w fun e w' => e = .returned (.bool true) ∧ Ext w w' := by
  have Hf := hide (fun w' (e : Ext w w') => hide (few_ok A cap l w' (h.ext e) hle))
  cases hf : fewL l
  · rw [hf] at Hf
    clear h hle hf hn hnl
    go_enter Try.func8, Try.ntmps8
    go_wp2
    go_quiet (fail)
    go_wp2_with fail
    refine (Hf.out _ (by repeat (first | exact Ext.refl _ | exact Ext.pre (by simp) | exact Ext.alloc (by assumption) _ | refine Ext.alloc ?_ _ |  refine Ext.more ?_ _ _ | refine Ext.drew ?_ | refine Ext.drewN ?_ _))).out.mono ?_
    rintro e w1 ⟨rfl, rfl⟩
    go_wp2_with fail
    refine (awake22_ok _).mono ?_
    rintro e w1 ⟨rfl, l1, d1, rfl⟩
    go_wp2
    go_ret
    exact ⟨rfl, (by repeat (first | exact Ext.refl _ | exact Ext.pre (by simp) | exact Ext.alloc (by assumption) _ | refine Ext.alloc ?_ _ |  refine Ext.more ?_ _ _ | refine Ext.drew ?_ | refine Ext.drewN ?_ _))⟩
  · rw [hf] at Hf
    obtain ⟨hl, hs⟩ := (fewL_iff l).1 hf
    by_cases hns : ns.length ≤ 20
    · have hns' : (ns.length : Int) ≤ 20 := by omega
      have Hp := hide (fun w' (e : Ext w w') => hide (sup_path A cap l x y w' (h.ext e) hl hs))
      have Hq := hide (fun w' (e : Ext w w') => hide (ref_path A cap l x y w' (h.ext e) hl hs))
      have Hm := hide (fun w' (e : Ext w w') => hide (sup_most A B cap cap' l ns w' (h.ext e) hl hs (hn.ext e) hns))
      have Hr := hide (fun w' (e : Ext w w') => hide (ref_most A B cap cap' l ns w' (h.ext e) hl hs (hn.ext e) hns))
      clear h hle hf hn hnl hl hs
      generalize pathL l x y = P at *
      generalize mostL l ns = L1 at *
      generalize hPs : P.isSome = ps at *
      generalize ofNats P = PI at *
      have t1 : (ps == ps) = true := by simp
      clear hPs
      go_enter Try.func8, Try.ntmps8
      go_wp2
      go_quiet (fail)
      go_wp2_with fail
      refine (Hf.out _ (by repeat (first | exact Ext.refl _ | exact Ext.pre (by simp) | exact Ext.alloc (by assumption) _ | refine Ext.alloc ?_ _ |  refine Ext.more ?_ _ _ | refine Ext.drew ?_ | refine Ext.drewN ?_ _))).out.mono ?_
      rintro e w1 ⟨rfl, rfl⟩
      go_wp2_with fail
      refine (Hp.out _ (by repeat (first | exact Ext.refl _ | exact Ext.pre (by simp) | exact Ext.alloc (by assumption) _ | refine Ext.alloc ?_ _ |  refine Ext.more ?_ _ _ | refine Ext.drew ?_ | refine Ext.drewN ?_ _))).out.mono ?_
      rintro e w2 ⟨⟨A3, c3, rfl, g1, g2, g3⟩, hx3⟩
      have X3 : Hid (Ext w w2) := hide (Ext.trans (by repeat (first | exact Ext.refl _ | exact Ext.pre (by simp) | exact Ext.alloc (by assumption) _ | refine Ext.alloc ?_ _ |  refine Ext.more ?_ _ _ | refine Ext.drew ?_ | refine Ext.drewN ?_ _)) hx3)
      have G3 := hide g3
      clear g3 hx3
      go_wp2_with fail
      refine (Hq.out _ X3.out).out.mono ?_
      rintro e w3 ⟨⟨A4, c4, rfl, g4, g5, g6⟩, l4, d4, rfl⟩
      have G4 := hide g6
      clear g6
      go_wp2_with fail
      refine (ref_ints_yes A3 A4 c3 c4 PI _ (RowOf.ext intC G3.out (by repeat (first | exact Ext.refl _ | exact Ext.pre (by simp) | exact Ext.alloc (by assumption) _ | refine Ext.alloc ?_ _ |  refine Ext.more ?_ _ _ | refine Ext.drew ?_ | refine Ext.drewN ?_ _))) G4.out (by omega)).mono ?_
      rintro e w3 ⟨rfl, l5, d5, rfl⟩
      clear G3 G4
      go_wp2_with fail
      refine (Hm.out _ (X3.out.trans (by repeat (first | exact Ext.refl _ | exact Ext.pre (by simp) | exact Ext.alloc (by assumption) _ | refine Ext.alloc ?_ _ |  refine Ext.more ?_ _ _ | refine Ext.drew ?_ | refine Ext.drewN ?_ _)))).out.mono ?_
      rintro e w3 ⟨⟨A6, c6, rfl, g7, g8, g9⟩, l6, d6, rfl⟩
      simp only [more_more, List.append_assoc] at g9
      have G6 := hide g9
      clear g9
      go_wp2_with fail
      refine (Hr.out _ (X3.out.trans (by repeat (first | exact Ext.refl _ | exact Ext.pre (by simp) | exact Ext.alloc (by assumption) _ | refine Ext.alloc ?_ _ |  refine Ext.more ?_ _ _ | refine Ext.drew ?_ | refine Ext.drewN ?_ _)))).out.mono ?_
      rintro e w3 ⟨⟨A7, c7, rfl, g10, g11, g12⟩, l7, d7, rfl⟩
      simp only [more_more, List.append_assoc] at g12
      have G7 := hide g12
      clear g12
      go_wp2_with fail
      refine (ref_texts_yesB A6 A7 c6 c7 L1 _ (G6.out.ext (by repeat (first | exact Ext.refl _ | exact Ext.pre (by simp) | exact Ext.alloc (by assumption) _ | refine Ext.alloc ?_ _ |  refine Ext.more ?_ _ _ | refine Ext.drew ?_ | refine Ext.drewN ?_ _))) (G7.out.ext (by repeat (first | exact Ext.refl _ | exact Ext.pre (by simp) | exact Ext.alloc (by assumption) _ | refine Ext.alloc ?_ _ |  refine Ext.more ?_ _ _ | refine Ext.drew ?_ | refine Ext.drewN ?_ _))) (by omega)).mono ?_
      rintro e w3 ⟨rfl, l8, d8, rfl⟩
      clear G6 G7
      go_wp2_with fail
      refine (awake22_ok _).mono ?_
      rintro e w3 ⟨rfl, l9, d9, rfl⟩
      go_wp2
      go_ret
      exact ⟨rfl, X3.out.trans (by repeat (first | exact Ext.refl _ | exact Ext.pre (by simp) | exact Ext.alloc (by assumption) _ | refine Ext.alloc ?_ _ |  refine Ext.more ?_ _ _ | refine Ext.drew ?_ | refine Ext.drewN ?_ _))⟩
    · have hns' : (20 : Int) < (ns.length : Int) := by omega
      clear h hle hf hn hnl hl hs
      go_enter Try.func8, Try.ntmps8
      go_wp2
      go_quiet (fail)
      go_wp2_with fail
      refine (Hf.out _ (by repeat (first | exact Ext.refl _ | exact Ext.pre (by simp) | exact Ext.alloc (by assumption) _ | refine Ext.alloc ?_ _ |  refine Ext.more ?_ _ _ | refine Ext.drew ?_ | refine Ext.drewN ?_ _))).out.mono ?_
      rintro e w1 ⟨rfl, rfl⟩
      go_wp2_with fail
      refine (awake22_ok _).mono ?_
      rintro e w1 ⟨rfl, l1, d1, rfl⟩
      go_wp2
      go_ret
      exact ⟨rfl, (by repeat (first | exact Ext.refl _ | exact Ext.pre (by simp) | exact Ext.alloc (by assumption) _ | refine Ext.alloc ?_ _ |  refine Ext.more ?_ _ _ | refine Ext.drew ?_ | refine Ext.drewN ?_ _))⟩
end

end Go.Proofs.Ytnegamkakdbhfaa
