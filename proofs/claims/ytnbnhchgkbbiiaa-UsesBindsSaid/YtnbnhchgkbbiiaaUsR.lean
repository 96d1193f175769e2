/- The law UsesBinds, walked. -/
import Derived.Test.YtnbnhchgkbbiiaaUsQ
namespace Go.Proofs.Ytnbnhchgkbbiiaa
open Go.RowKit Go.Sort

/-- Not too many nodes, and not too great? -/
noncomputable def fewL (A : Option Addr) (cap : Nat) (l : List Tree) : Bool := decide (l.length ≤ 100) && fewB (.mk 0 0 0 [] A cap l)
set_option maxHeartbeats 1000000 in
theorem l_few14 (A : Option Addr) (cap : Nat) (l : List Tree) (w : World) (h : NodesIn w A l) (hle : l.length ≤ cap) (hcap : cap ≤ 9223372036854775807) :
    Calls Try.prog 25 #[.slice A l.length cap] w fun e w' => e = .returned (.bool (fewL A cap l)) ∧ Ext w w' := by
  have HF := hide (l_few06 (.mk 0 0 0 [] A cap l) w (NodeIn.of hle hcap (by decide) h.row h.kids))
  have HE : Hid (fewL A cap l = (decide (l.length ≤ 100) && fewB (.mk 0 0 0 [] A cap l))) := hide rfl
  generalize fewL A cap l = R at *
  generalize fewB (.mk 0 0 0 [] A cap l) = B at *
  by_cases hl : l.length ≤ 100
  · have hR : R = B := by rw [HE.out]; simp [hl]
    have hl' : (l.length : Int) ≤ 100 := by omega
    clear HE hl
    subst hR
    cases R
    · go_enter Try.func25, Try.ntmps25
      go_wp2_with fail
      refine HF.out.mono ?_
      rintro e w1 ⟨rfl, hx⟩
      go_wp2
      go_ret
      exact ⟨rfl, hx⟩
    · go_enter Try.func25, Try.ntmps25
      go_wp2_with fail
      refine HF.out.mono ?_
      rintro e w1 ⟨rfl, hx⟩
      go_wp2
      go_ret
      exact ⟨rfl, hx⟩
  · have hR : R = false := by rw [HE.out]; simp [hl]
    have hl' : ¬ (l.length : Int) ≤ 100 := by omega
    clear HE hl
    subst hR
    go_enter Try.func25, Try.ntmps25
    go_wp2
    go_ret
    exact ⟨rfl, Ext.refl _⟩

set_option maxRecDepth 10000 in
set_option maxHeartbeats 2000000 in
theorem law_binds (A : Option Addr) (cap : Nat) (l : List Tree) (w : World) (h : NodesIn w A l) (hle : l.length ≤ cap) (hcap : cap ≤ 9223372036854775807) :
    Calls Try.prog 7 #[.slice A l.length cap] w fun e w' => e = .returned (.bool true) ∧ Ext w w' := by
  have HF := hide (l_few14 A cap l w h hle hcap)
  have HK := hide h
  cases hf : fewL A cap l
  · rw [hf] at HF
    clear hf h
    go_enter Try.func7, Try.ntmps7
    go_wp2_with fail
    refine HF.out.mono ?_
    rintro e w1 ⟨rfl, hx1⟩
    go_wp2_with fail
    refine (l_awake14 _).mono ?_
    rintro e w2 ⟨rfl, hx2⟩
    go_wp2
    go_ret
    exact ⟨rfl, hx1.trans hx2⟩
  · rw [hf] at HF
    have hl : l.length ≤ 100 := by unfold fewL at hf; rw [Bool.and_eq_true, decide_eq_true_eq] at hf; exact hf.1
    have H1 := hide (fun w' (e : Ext w w') => hide (u_twice A cap l w' (h.ext e) (by omega)))
    have H2 := hide (fun w' (e : Ext w w') => hide (r_twice14 A cap l w' (h.ext e) (by omega)))
    have H3 := hide (fun w' (e : Ext w w') => hide (u_binds A cap l w' (h.ext e) (by omega)))
    have H4 := hide (fun w' (e : Ext w w') => hide (r_binds14 A cap l w' (h.ext e) (by omega)))
    have hbl := bindsL_len l
    clear hf h
    generalize (twiceL l).1 = T1 at *
    generalize (twiceL l).2 = T2 at *
    generalize bindsL l = L at *
    go_enter Try.func7, Try.ntmps7
    go_wp2_with fail
    refine HF.out.mono ?_
    rintro e w1 ⟨rfl, hx1⟩
    have X1 := hide hx1
    clear hx1
    go_wp2_with fail
    refine (H1.out _ X1.out).out.mono ?_
    rintro e w2 ⟨rfl, hx2⟩
    have X2 := hide (X1.out.trans hx2)
    clear hx2
    go_wp2_with fail
    refine (H2.out _ X2.out).out.mono ?_
    rintro e w3 ⟨rfl, hx3⟩
    have X3 := hide (X2.out.trans hx3)
    clear hx3
    go_wp2_with fail
    refine (H3.out _ X3.out).out.mono ?_
    rintro e w4 ⟨⟨A4, p4, rfl, -, -, hS4, -⟩, hx4⟩
    have S4 := hide hS4
    have X4 := hide (X3.out.trans hx4)
    clear hS4 hx4
    go_wp2_with fail
    refine (H4.out _ X4.out).out.mono ?_
    rintro e w5 ⟨⟨A5, p5, rfl, -, -, hS5, -⟩, hx5⟩
    have S5 := hide hS5
    have S45 := hide (S4.out.ext hx5)
    have X5 := hide (X4.out.trans hx5)
    clear hS5 hx5
    go_wp2_with fail
    refine (ref_texts A4 A5 p4 p5 L L _ S45.out S5.out (by omega)).mono ?_
    rintro e w6 ⟨rfl, hx6⟩
    have X6 := hide (X5.out.trans hx6)
    have hLL : decide (L = L) = true := by simp
    clear hx6
    rw [hLL]
    go_wp2_with fail
    refine (l_awake14 _).mono ?_
    rintro e w7 ⟨rfl, hx7⟩
    go_wp2
    go_ret
    exact ⟨rfl, X6.out.trans hx7⟩

end Go.Proofs.Ytnbnhchgkbbiiaa
