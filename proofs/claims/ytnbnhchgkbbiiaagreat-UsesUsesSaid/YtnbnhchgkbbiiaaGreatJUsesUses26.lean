/- The law: the names that any tree uses, and the constructors. -/
import Derived.Test.YtnbnhchgkbbiiaaGreatJUsesUses25
/- The law: the names that any tree uses, and the constructors. -/
namespace Go.Proofs.YtnbnhchgkbbiiaaGreat
open Go.RowKit Go.Sort

set_option maxRecDepth 10000 in
set_option maxHeartbeats 4000000 in
theorem law_uses (t : Tree) (w : World) (h : NodeIn w t) :
    Calls Tryz.prog 3 #[treeV t] w fun e w' => e = .returned (.bool true) ∧ Ext w w' := by
  obtain ⟨W, hW⟩ : ∃ W, W = w.alloc (.cells #[.int .i64 t.kind, .int .i64 t.pos, .int .i64 t.n, encStr t.text, .slice t.A t.kids.length t.cap] 24) := ⟨_, rfl⟩
  have X0 : Hid (Ext w W) := hide (by rw [hW]; exact (Ext.refl w).alloc _)
  have HB : Hid (∀ w', Ext W w' → BoxC w' w.heap.size t) := hide (fun w' e => by
    have := NBox.new w t
    rw [← hW] at this
    exact (this.ext e).cells)
  have Hh := hide (h.ext X0.out)
  have HF := hide (l_few06 t W Hh.out)
  cases hf : fewB t
  · rw [hf] at HF
    clear hf h Hh HB
    unfold treeV at *
    go_enter Tryz.func3, Tryz.ntmps3
    go_wp2_with fail
    rw [← hW]
    clear hW
    refine HF.out.mono ?_
    rintro e w1 ⟨rfl, hx1⟩
    go_wp2_with fail
    refine (l_awake14 _).mono ?_
    rintro e w2 ⟨rfl, hx2⟩
    go_wp2
    go_ret
    exact ⟨rfl, (X0.out.trans hx1).trans hx2⟩
  · rw [hf] at HF
    have hsz : t.size ≤ 3000 := by unfold fewB at hf; simpa using hf
    have htx := usesE_txt h
    have H1 := hide (fun w' (e : Ext W w') => hide (u_uses t w' (Hh.out.ext e) (by omega)))
    have H2 := hide (fun w' (e : Ext W w') => hide (r_uses14 t w' (Hh.out.ext e) (by omega)))
    have H3 := hide (fun w' (e : Ext W w') => hide (u_free t w' (Hh.out.ext e) (by omega) htx))
    have H4 := hide (fun w' (e : Ext W w') => hide (r_free14 t w' (Hh.out.ext e) (by omega)))
    have H5 := hide (fun w' (e : Ext W w') => hide (u_cons t w' (Hh.out.ext e) (by omega)))
    have H6 := hide (fun w' (e : Ext W w') => hide (r_cons14 t w' (Hh.out.ext e) (by omega)))
    have l1 : (usesE t).length ≤ 100000 := Nat.le_trans (usesE_len t) (by omega)
    have l2 : (freeE t).length ≤ 100000 := Nat.le_trans (ofL_len _) (by rw [List.length_map]; omega)
    have l3 : (consE t).length ≤ 100000 := by
      unfold consE
      split
      · exact Nat.le_trans (consL_len t) (by omega)
      · simp
    clear hf h Hh htx
    generalize usesE t = U at *
    generalize freeE t = F at *
    generalize consE t = C at *
    unfold BoxC at HB
    unfold treeV at *
    go_enter Tryz.func3, Tryz.ntmps3
    go_wp2_with fail
    rw [← hW]
    clear hW
    refine HF.out.mono ?_
    rintro e w1 ⟨rfl, hx1⟩
    have X1 := hide hx1
    obtain ⟨c0, c1, c2, c3, c4⟩ := HB.out _ X1.out
    clear hx1
    go_wp2_with fail
    go_region_held3 (fun w' => w'.cell? ⟨w.heap.size, 0, none⟩ = some (.int .i64 t.kind) ∧ w'.cell? ⟨w.heap.size, 1, none⟩ = some (.int .i64 t.pos) ∧ w'.cell? ⟨w.heap.size, 2, none⟩ = some (.int .i64 t.n) ∧ w'.cell? ⟨w.heap.size, 3, none⟩ = some (encStr t.text) ∧ w'.cell? ⟨w.heap.size, 4, none⟩ = some (.slice t.A t.kids.length t.cap)) (first | assumption | go_keep) (first
      | (go_at_call 7
         refine Calls.mono (H1.out _ X1.out.drew).out ?_
         rintro e w2 ⟨⟨A2, p2, rfl, -, -, hS2⟩, hx2⟩
         have S2 := hide hS2
         have X2 := hide (X1.out.drew.trans hx2)
         have k2 := HB.out _ X2.out
         clear hS2 hx2)
      | (go_at_call 8
         refine Calls.mono (H2.out _ X2.out).out ?_
         rintro e w3 ⟨⟨A3, p3, rfl, -, -, hS3⟩, hx3⟩
         have S3 := hide hS3
         have S23 := hide (RowOf.ext useC S2.out hx3)
         have X3 := hide (X2.out.trans hx3)
         have k3 := HB.out _ X3.out
         clear hS3 hx3)
      | (go_at_call 6
         with_reducible refine Calls.mono (r_same14 A2 A3 p2 p3 U w3 S23.out S3.out l1) ?_
         rintro e w4 ⟨rfl, hx4⟩
         have X4 := hide (X3.out.trans hx4)
         have k4 := HB.out _ X4.out
         clear hx4)
      | (go_at_call 10
         refine Calls.mono (H3.out _ X4.out).out ?_
         rintro e w5 ⟨⟨v5, rfl, hO5⟩, hx5⟩
         obtain ⟨A5, p5, rfl, -, -, hS5, -⟩ := Strs.of_own hO5
         have S5 := hide hS5
         have X5 := hide (X4.out.trans hx5)
         have k5 := HB.out _ X5.out
         clear hO5 hS5 hx5)
      | (go_at_call 11
         refine Calls.mono (H4.out _ X5.out).out ?_
         rintro e w6 ⟨⟨A6, p6, rfl, hS6⟩, hx6⟩
         have S6 := hide hS6
         have S56 := hide (S5.out.ext hx6)
         have X6 := hide (X5.out.trans hx6)
         have k6 := HB.out _ X6.out
         clear hS6 hx6)
      | (go_at_call 9
         refine Calls.mono (ref_texts A5 A6 p5 p6 F F _ S56.out S6.out (by omega)) ?_
         rintro e w7 ⟨rfl, hx7⟩
         have X7 := hide (X6.out.trans hx7)
         have hFF : decide (F = F) = true := by simp
         rw [hFF]
         have k7 := HB.out _ X7.out
         clear hx7)
      | (go_at_call 12
         refine Calls.mono (H5.out _ X7.out).out ?_
         rintro e w8 ⟨⟨A8, p8, rfl, -, -, hS8⟩, hx8⟩
         have S8 := hide hS8
         have X8 := hide (X7.out.trans hx8)
         have k8 := HB.out _ X8.out
         clear hS8 hx8)
      | (go_at_call 13
         refine Calls.mono (H6.out _ X8.out).out ?_
         rintro e w9 ⟨⟨A9, p9, rfl, -, -, hS9⟩, hx9⟩
         have S9 := hide hS9
         have S89 := hide (RowOf.ext useC S8.out hx9)
         have X9 := hide (X8.out.trans hx9)
         have k9 := HB.out _ X9.out
         clear hS9 hx9)
      | (go_at_call 6
         refine Calls.mono (r_same14 A8 A9 p8 p9 C w9 S89.out S9.out l3) ?_
         rintro e w10 ⟨rfl, hx10⟩
         have X10 := hide (X9.out.trans hx10)
         have k10 := HB.out _ X10.out
         clear hx10)
      | (go_at_call 5
         refine (l_awake14 _).mono ?_
         rintro e w11 ⟨rfl, hx11⟩
         have X11 := hide (X10.out.trans hx11)
         have k11 := HB.out _ X11.out
         clear hx11))
    clear k2 k3 k4 k5 k6 k7 k8 k9 k10 k11
    go_wp2
    go_ret
    exact ⟨rfl, X0.out.trans X11.out⟩

end Go.Proofs.YtnbnhchgkbbiiaaGreat
