/- The laws GraphReach and GraphGroups, walked. -/
import Derived.Test.YtnbnhchgkbbiiaaGAw
namespace Go.Proofs.Ytnbnhchgkbbiiaa
open Go.RowKit

set_option maxRecDepth 10000 in
set_option maxHeartbeats 4000000 in
theorem law_reach (n : Int) (A : Option Addr) (cap : Nat) (es : List Edge) (v : Int) (w : World) (h : Edges w A es) :
    Calls Try.prog 4 #[.int .i64 n, .slice A es.length cap, .int .i64 v] w fun e w' => e = .returned (.bool true) ∧ Ext w w' := by
  have Hf := hide (l_few n A cap es w)
  cases hf : (decide (n ≤ 40) && decide (es.length ≤ 150))
  · rw [hf] at Hf
    clear hf h
    go_enter Try.func4, Try.ntmps4
    go_wp2_with fail
    refine Hf.out.mono ?_
    rintro e w1 ⟨rfl, rfl⟩
    go_wp2_with fail
    refine (l_awake _).mono ?_
    rintro e w2 ⟨rfl, hx2⟩
    go_wp2
    go_ret
    exact ⟨rfl, hx2⟩
  · rw [hf] at Hf
    simp only [Bool.and_eq_true, decide_eq_true_eq] at hf
    have hlen : es.length ≤ 100000 := by omega
    have Hg := hide (g_reachA n v A cap es w h hlen)
    have Hr := hide (fun w' (e : Ext w w') => hide (r_reach n v A cap es w' (RowOf.ext edgeC h e) hlen))
    clear h hf
    have hl : (reachL n v es).length ≤ 9223372036854775807 → True := fun _ => trivial
    clear hl
    generalize reachL n v es = R at *
    go_enter Try.func4, Try.ntmps4
    go_wp2_with fail
    refine Hf.out.mono ?_
    rintro e w1 ⟨rfl, rfl⟩
    go_wp2_with fail
    refine Hg.out.mono ?_
    rintro e w2 ⟨⟨A2, c2, rfl, p1, p2, hI2⟩, hx2⟩
    have HI2 := hide hI2
    have X2 := hide hx2
    clear hI2 hx2
    go_wp2_with fail
    refine (Hr.out _ X2.out).out.mono ?_
    rintro e w3 ⟨⟨A3, c3, rfl, -, -, hI3⟩, hx3⟩
    have HI3 := hide hI3
    have X3 := hide (X2.out.trans hx3)
    have HI4 := hide (RowOf.ext intC HI2.out hx3)
    clear hI3 hx3
    go_wp2_with fail
    refine Calls.mono (same_ints A2 A3 c2 c3 R _ HI4.out HI3.out (by omega)) ?_
    rintro e w4 ⟨rfl, hx4⟩
    have X4 := hide (X3.out.trans hx4)
    clear hx4
    go_wp2_with fail
    refine (l_awake _).mono ?_
    rintro e w5 ⟨rfl, hx5⟩
    go_wp2
    go_ret
    exact ⟨rfl, X4.out.trans hx5⟩

set_option maxRecDepth 10000 in
set_option maxHeartbeats 8000000 in
theorem law_groups (n : Int) (A : Option Addr) (cap : Nat) (es : List Edge) (w : World) (h : Edges w A es) :
    Calls Try.prog 3 #[.int .i64 n, .slice A es.length cap] w fun e w' => e = .returned (.bool true) ∧ Ext w w' := by
  have Hf := hide (l_few n A cap es w)
  cases hf : (decide (n ≤ 40) && decide (es.length ≤ 150))
  · rw [hf] at Hf
    clear hf h
    go_enter Try.func3, Try.ntmps3
    go_wp2_with fail
    refine Hf.out.mono ?_
    rintro e w1 ⟨rfl, rfl⟩
    go_wp2_with fail
    refine (l_awake _).mono ?_
    rintro e w2 ⟨rfl, hx2⟩
    go_wp2
    go_ret
    exact ⟨rfl, hx2⟩
  · rw [hf] at Hf
    simp only [Bool.and_eq_true, decide_eq_true_eq] at hf
    have hlen : es.length ≤ 100000 := by omega
    have H1 := hide (g_groupsA n A cap es w h hlen)
    have H2 := hide (fun w' (e : Ext w w') => hide (r_groupsA n A cap es w' (RowOf.ext edgeC h e) hlen))
    have H3 := hide (fun w' (e : Ext w w') => hide (g_order n A cap es w' (RowOf.ext edgeC h e) hlen))
    have H4 := hide (fun w' (e : Ext w w') => hide (r_order n A cap es w' (RowOf.ext edgeC h e) hlen))
    have H5 := hide (fun w' (e : Ext w w') => hide (g_check n A cap es w' (RowOf.ext edgeC h e) hlen))
    have H6 := hide (fun w' (e : Ext w w') => hide (r_check n A cap es w' (RowOf.ext edgeC h e) hlen))
    have H7 := hide (fun w' (e : Ext w w') => hide (g_cycle n A cap es w' (RowOf.ext edgeC h e) hlen))
    have H8 := hide (fun w' (e : Ext w w') => hide (r_cycle n A cap es w' (RowOf.ext edgeC h e) hlen))
    have hgl := grps_len n es
    clear h hf
    generalize grpsL n es = gs at *
    generalize okN n es = oN at *
    generalize orderL n es = OL at *
    generalize orderN n es = ON at *
    generalize (if graphOk n es = true then (0 : Int) else 1) = CK at *
    generalize cycleL n es = CY at *
    go_enter Try.func3, Try.ntmps3
    go_wp2_with fail
    refine Hf.out.mono ?_
    rintro e w1 ⟨rfl, rfl⟩
    go_wp2_with fail
    refine H1.out.mono ?_
    rintro e w2 ⟨⟨A2, c2, rfl, -, -, hG2⟩, hx2⟩
    have HG2 := hide hG2
    have X2 := hide hx2
    clear hG2 hx2
    go_wp2_with fail
    refine (H2.out _ X2.out).out.mono ?_
    rintro e w3 ⟨⟨A3, c3, rfl, -, -, hG3⟩, hx3⟩
    have HG3 := hide hG3
    have X3 := hide (X2.out.trans hx3)
    have HG2b := hide (HG2.out.ext hx3)
    clear hG3 hx3 HG2
    go_wp2_with fail
    refine (H3.out _ X3.out).out.mono ?_
    rintro e w4 ⟨⟨A4, c4, rfl, p1, p2, hI4⟩, hx4⟩
    have HI4 := hide hI4
    have X4 := hide (X3.out.trans hx4)
    have X34 := hide hx4
    clear hI4 hx4
    go_wp2_with fail
    refine (H4.out _ X4.out).out.mono ?_
    rintro e w5 ⟨⟨A5, c5, rfl, -, -, hI5⟩, hx5⟩
    have HI5 := hide hI5
    have X5 := hide (X4.out.trans hx5)
    have X45 := hide hx5
    clear hI5 hx5
    go_wp2_with fail
    refine (H5.out _ X5.out).out.mono ?_
    rintro e w6 ⟨rfl, hx6⟩
    have X6 := hide (X5.out.trans hx6)
    have X56 := hide hx6
    clear hx6
    go_wp2_with fail
    refine (H6.out _ X6.out).out.mono ?_
    rintro e w7 ⟨rfl, hx7⟩
    have X7 := hide (X6.out.trans hx7)
    have X57 := hide (X56.out.trans hx7)
    clear hx7
    go_wp2_with fail
    refine Calls.mono (same_groups A2 A3 c2 c3 gs _ (HG2b.out.ext ((X34.out.trans X45.out).trans X57.out)) (HG3.out.ext ((X34.out.trans X45.out).trans X57.out)) hgl) ?_
    rintro e w8 ⟨rfl, hx8⟩
    have X8 := hide (X7.out.trans hx8)
    have X58 := hide (X57.out.trans hx8)
    clear hx8
    go_wp2_with fail
    refine Calls.mono (same_ints A4 A5 c4 c5 OL _ (RowOf.ext intC HI4.out (X45.out.trans X58.out)) (RowOf.ext intC HI5.out X58.out) (by omega)) ?_
    rintro e w9 ⟨rfl, hx9⟩
    have X9 := hide (X8.out.trans hx9)
    clear hx9
    go_wp2_with fail
    refine (H7.out _ X9.out).out.mono ?_
    rintro e w10 ⟨⟨A10, c10, rfl, p3, p4, hI10⟩, hx10⟩
    have HI10 := hide hI10
    have X10 := hide (X9.out.trans hx10)
    clear hI10 hx10
    go_wp2_with fail
    refine (H8.out _ X10.out).out.mono ?_
    rintro e w11 ⟨⟨A11, c11, rfl, -, -, hI11⟩, hx11⟩
    have HI11 := hide hI11
    have HI12 := hide (RowOf.ext intC HI10.out hx11)
    have X11 := hide (X10.out.trans hx11)
    clear hI11 hx11
    go_wp2_with fail
    refine Calls.mono (same_ints A10 A11 c10 c11 CY _ HI12.out HI11.out (by omega)) ?_
    rintro e w12 ⟨rfl, hx12⟩
    have X12 := hide (X11.out.trans hx12)
    clear hx12
    go_wp2_with fail
    refine (l_awake _).mono ?_
    rintro e w13 ⟨rfl, hx13⟩
    go_wp2
    go_ret
    exact ⟨rfl, X12.out.trans hx13⟩

end Go.Proofs.Ytnbnhchgkbbiiaa
