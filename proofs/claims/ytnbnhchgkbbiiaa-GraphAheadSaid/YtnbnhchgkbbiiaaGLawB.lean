/- The law GraphAhead, walked. -/
import Derived.Test.YtnbnhchgkbbiiaaGAw
import Derived.Test.YtnbnhchgkbbiiaaAhd
namespace Go.Proofs.Ytnbnhchgkbbiiaa
open Go.RowKit

set_option maxRecDepth 10000 in
set_option maxHeartbeats 4000000 in
theorem law_ahead (n : Int) (A : Option Addr) (cap : Nat) (es : List Edge) (w : World) (h : Edges w A es) :
    Calls Try.prog 5 #[.int .i64 n, .slice A es.length cap] w fun e w' => e = .returned (.bool true) ∧ Ext w w' := by
  have Hf := hide (l_few n A cap es w)
  cases hf : (decide (n ≤ 40) && decide (es.length ≤ 150))
  · rw [hf] at Hf
    clear hf h
    go_enter Try.func5, Try.ntmps5
    go_wp2_with fail
    refine Hf.out.mono ?_
    rintro e w1 ⟨rfl, rfl⟩
    go_wp2_with fail
    refine (l_awake _).mono ?_
    rintro e w2 ⟨rfl, hx2⟩
    go_wp2
    go_ret
    exact ⟨rfl, hx2⟩
  · rw [hf] at Hf
    simp only [Bool.and_eq_true, decide_eq_true_eq] at hf
    have hlen : es.length ≤ 100000 := by omega
    have H1 := hide (g_groupsA n A cap es w h hlen)
    have Hr := hide h
    have hgl := grps_len n es
    cases hok : graphOk n es
    · have e1 : grpsL n es = [] := by unfold grpsL; rw [hok]; rfl
      have e2 : okN n es = 1 := by unfold okN; rw [hok]; rfl
      rw [e1, e2] at H1
      clear e1 e2 hok h hf
      go_enter Try.func5, Try.ntmps5
      go_wp2_with fail
      refine Hf.out.mono ?_
      rintro e w1 ⟨rfl, rfl⟩
      go_wp2_with fail
      refine H1.out.mono ?_
      rintro e w2 ⟨⟨A2, c2, rfl, -, -, -⟩, hx2⟩
      go_wp2_with fail
      refine (l_awake _).mono ?_
      rintro e w3 ⟨rfl, hx3⟩
      go_wp2
      go_ret
      exact ⟨rfl, hx2.trans hx3⟩
    · have h0 : 0 ≤ n := by unfold graphOk at hok; simp at hok; omega
      obtain ⟨N, rfl⟩ := Int.eq_ofNat_of_zero_le h0
      have e2 : okN N es = 0 := by unfold okN; rw [hok]; rfl
      rw [e2] at H1
      have Hat := hide (fun v (hv : v < N) => at_all hok hv)
      have Hed := hide (fun e (he : e ∈ es) => at_edge hok he)
      have Hsum := hide (grps_sum hok)
      have Hmem := hide (fun g (hg : g ∈ grpsL N es) => (grps_mem hg).2.1)
      have hN40 : N ≤ 40 := by omega
      clear e2 hok h hf h0
      generalize grpsL N es = gs at *
      go_enter Try.func5, Try.ntmps5
      go_wp2_with fail
      refine Hf.out.mono ?_
      rintro e w1 ⟨rfl, rfl⟩
      go_wp2_with fail
      refine H1.out.mono ?_
      rintro e w2 ⟨⟨A2, c2, rfl, -, -, hG⟩, hx2⟩
      have HG := hide hG
      have X2 := hide hx2
      have HAt := hide (fun v w' (e : Ext w2 w') => l_at A2 c2 gs v w' (hG.ext e) hgl)
      clear hG hx2
      go_wp2
      go_loopw [7, 8] (fun u i wr => ∃ k : Nat, k ≤ gs.length ∧ i = .int .i64 k ∧ u = .int .i64 (((gs.take k).map List.length).sum : Nat) ∧ ((gs.take k).map List.length).sum ≤ k * 1000 ∧ Hid (Ext w2 wr)) (fun _ i _ => gs.length - (intOf i).toNat)
      case atStart => exact ⟨0, Nat.zero_le _, rfl, rfl, by simp, hide (Ext.refl _)⟩
      case round =>
        obtain ⟨k, hk, rfl, rfl, hkb, HX⟩ := hrel
        by_cases hlt : k < gs.length
        · have hlt' : (k : Int) < (gs.length : Int) := by omega
          obtain ⟨b, o, A3, c3, rfl, hb, q1, q2, q3, q4⟩ := (HG.out.ext HX.out).at_ hlt
          have hml := Hmem.out _ (List.getElem_mem hlt)
          have Htk : Hid (((gs.take (k + 1)).map List.length).sum = ((gs.take k).map List.length).sum + (gs[k]'hlt).length) := hide (by rw [List.take_succ_eq_append_getElem hlt, List.map_append, List.sum_append]; simp)
          clear q4
          generalize gs[k]'hlt = g at *
          generalize hs1 : ((gs.take (k + 1)).map List.length).sum = s1 at *
          generalize hs0 : ((gs.take k).map List.length).sum = s0 at *
          have Hs1 := hide hs1
          clear hs1 hs0
          go_wp2
          go_roundw
          case rel => exact ⟨k + 1, hlt, by go_num, by rw [Hs1.out, Htk.out]; go_num, by rw [Hs1.out, Htk.out]; omega, HX⟩
          case measure => simp [intOf]; omega
        · rename World => wA
          have hge : (gs.length : Int) ≤ (k : Int) := by omega
          have hks : ((gs.take k).map List.length).sum = N := by rw [List.take_of_length_le (by omega)]; exact Hsum.out
          rw [hks] at hkb ⊢
          clear hks
          go_wp2
          go_loopw [9] (fun i wr => ∃ v : Nat, v ≤ N ∧ i = .int .i64 v ∧ Hid (Ext w2 wr)) (fun i _ => N - (intOf i).toNat)
          case atStart => exact ⟨0, Nat.zero_le _, rfl, HX⟩
          case round =>
            obtain ⟨v, hv, rfl, HX3⟩ := hrel
            by_cases hlt3 : v < N
            · have hlt3' : (v : Int) < (N : Int) := by omega
              have h0a := Hat.out v hlt3
              have HA3 := hide (HAt.out v _ HX3.out)
              generalize atG gs v = av at *
              have h0b : ¬ av < 0 := by omega
              go_wp2_with fail
              refine HA3.out.mono ?_
              rintro e w4 ⟨rfl, rfl⟩
              go_wp2
              go_roundw
              case rel => exact ⟨v + 1, hlt3, by go_num, HX3⟩
              case measure => simp [intOf]; omega
            · have hge3 : ¬ (v : Int) < (N : Int) := by omega
              rename World => wB
              go_wp2
              go_loopw [10] (fun i wr => ∃ j : Nat, j ≤ es.length ∧ i = .int .i64 j ∧ Hid (Ext w2 wr)) (fun i _ => es.length - (intOf i).toNat)
              case atStart => exact ⟨0, Nat.zero_le _, rfl, HX3⟩
              case round =>
                obtain ⟨j, hj, rfl, HX5⟩ := hrel
                by_cases hlt5 : j < es.length
                · have hlt5' : (j : Int) < (es.length : Int) := by omega
                  have hj0 : (0 : Int) ≤ (j : Int) := by omega
                  obtain ⟨b, o, rfl, hb, c0, c1⟩ := Edges.at_ (RowOf.ext edgeC Hr.out (X2.out.trans HX5.out)) hlt5
                  have hed := Hed.out _ (List.getElem_mem hlt5)
                  generalize (es[j]'hlt5).a = ea at *
                  generalize (es[j]'hlt5).b = eb at *
                  have hnb : ¬ atG gs eb > atG gs ea := by omega
                  clear hed
                  go_wp2
                  go_quiet ((go_at_call 24; exact Calls.quiet_of_same (HAt.out _ _ (by (refine Ext.trans HX5.out ?_; (repeat (first | exact Ext.refl _ | exact Ext.pre (by simp) | exact Ext.alloc (by assumption) _ | refine Ext.alloc ?_ _ | refine Ext.more ?_ _ _ | refine Ext.drew ?_ | refine Ext.drewN ?_ _)); done)))))
                  go_wp2
                  go_roundw
                  case rel => exact ⟨j + 1, hlt5, by go_num, hide (HX5.out.trans (by repeat (first | exact Ext.refl _ | exact Ext.pre (by simp) | exact Ext.alloc (by assumption) _ | refine Ext.alloc ?_ _ |  refine Ext.more ?_ _ _ | refine Ext.drew ?_ | refine Ext.drewN ?_ _)))⟩
                  case measure => simp [intOf]; omega
                · have hge5 : ¬ (j : Int) < (es.length : Int) := by omega
                  go_wp2_with fail
                  refine (l_awake _).mono ?_
                  rintro e w7 ⟨rfl, hx7⟩
                  go_wp2
                  go_ret
                  exact ⟨rfl, (X2.out.trans HX5.out).trans hx7⟩

end Go.Proofs.Ytnbnhchgkbbiiaa
