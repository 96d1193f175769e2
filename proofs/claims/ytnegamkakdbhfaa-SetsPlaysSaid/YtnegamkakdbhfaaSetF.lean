/- Chapter 12's example. -/
import Derived.Test.YtnegamkakdbhfaaSetE
import Derived.WalkSpells
import Derived.WalkLawsBesides
namespace Go.Proofs.Ytnegamkakdbhfaa
open Go.RowKit Go.Sort Go.Maps

theorem Strs.block {w : World} {b : Nat} {t : TypeId} {fr : Nat × Nat} (l : List Str) (h : w.heap[b]? = some (.cells (l.map encStr).toArray t fr)) : Strs w (some ⟨b, 0, none⟩) l := by
  refine ⟨by simp, fun _ => ⟨b, 0, rfl, lt_of_obj h, fun j u hu => ?_⟩⟩
  rw [Nat.zero_add]
  simp only [World.cell?, h]
  simpa using hu
theorem Strs.new (w : World) (t : TypeId) (l : List Str) (n : Nat) (h : n = w.heap.size) : Strs (w.alloc (.cells (l.map encStr).toArray t)) (some ⟨n, 0, none⟩) l :=
  Strs.block l (at_new w _ n h)
theorem ref_texts_yes (A B : Option Addr) (cap cap' : Nat) (l : List Str) (w : World) (h : Strs w A l) (h' : Strs w B l) (hle : l.length ≤ 9223372036854775807) :
    Calls Try.prog 45 #[.slice A l.length cap, .slice B l.length cap'] w fun e w' => e = .returned (.bool true) ∧ Ext w w' := by
  have := ref_texts A B cap cap' l l w h h' hle
  simpa using this

set_option maxRecDepth 10000 in
set_option maxHeartbeats 2000000 in
theorem awake12_ok (w : World) : Calls Try.prog 57 #[] w fun e w' => e = .returned (.bool true) ∧ Ext w w' := by
  go_enter Try.func57, Try.ntmps57
  go_wp2_with fail
  refine (setl_new (some ⟨w.heap.size, 0, none⟩) 3 [[98], [97], [98]] _ (Strs.new w _ _ _ rfl) (by simp) (by simp)).mono ?_
  rintro e w1 ⟨⟨s, rs, ns, rfl, gs1, gs2, gs3, gs4⟩, hx⟩
  have HX1 := hide (((Ext.refl w).alloc _).trans hx)
  rw [show ofL [[98], [97], [98]] = [[97], [98]] by decide] at gs4
  have HS1 := hide gs4
  clear gs4 hx
  go_wp2_with fail
  refine (setl_new (some ⟨w1.heap.size, 0, none⟩) 2 [[97], [99]] _ (Strs.new w1 _ _ _ rfl) (by simp) (by simp)).mono ?_
  rintro e w2 ⟨⟨t, rt, nt, rfl, gt1, gt2, gt3, gt4⟩, hx⟩
  have HX2 := hide (((Ext.refl w1).alloc _).trans hx)
  rw [show ofL [[97], [99]] = [[97], [99]] by decide] at gt4
  have HT2 : Hid (SetO w2 (.pointer (some ⟨t, 0, none⟩)) [[97], [99]]) := hide (.inr ⟨t, rt, nt, rfl, by omega, gt4⟩)
  have HS2 : Hid (SetO w2 (.pointer (some ⟨s, 0, none⟩)) [[97], [98]]) := hide (.inr ⟨s, rs, ns, rfl, by omega, HS1.out.ext HX2.out⟩)
  clear gt4 hx
  go_wp2_with fail
  refine (seto_union HS2.out HT2.out (by simp)).mono ?_
  rintro e w3 ⟨⟨u, ru, nu, rfl, gu1, gu2, gu3, gu4⟩, hx⟩
  have HX3 := hide hx
  rw [show ofL ([[97], [98]] ++ [[97], [99]]) = [[97], [98], [99]] by decide] at gu4
  have HU3 : Hid (SetO w3 (.pointer (some ⟨u, 0, none⟩)) [[97], [98], [99]]) := hide (.inr ⟨u, ru, nu, rfl, by omega, gu4⟩)
  clear gu4 hx
  go_wp2_with fail
  refine (seto_minus (HS2.out.ext HX3.out) (HT2.out.ext HX3.out) (by simp)).mono ?_
  rintro e w4 ⟨⟨m, rm, nm, rfl, gm1, gm2, gm3, gm4⟩, hx⟩
  have HX4 := hide hx
  rw [show minusL [[97], [98]] [[97], [99]] = [[98]] by decide] at gm4
  have HM4 := hide gm4
  have HU4 := hide (HU3.out.ext HX4.out)
  have HS4 := hide ((HS1.out.ext HX2.out).ext (HX3.out.trans HX4.out))
  have HX := hide (HX1.out.trans (HX2.out.trans (HX3.out.trans HX4.out)))
  have hsz1 : rs < w3.heap.size := ((HS1.out.ext HX2.out).ext HX3.out).ltr
  have hsz2 : w.heap.size ≤ rs := by simp at gs2; omega
  have hne1 : (some rs : Option Nat) ≠ some m := by intro h; injection h; omega
  have hne2 : (some rs : Option Nat) ≠ some rm := by intro h; injection h; omega
  clear gm4 hx HX1 HX2 HX3 HX4 HS1 HS2 HT2 HU3
  go_wp2_with fail
  refine (setl_list HS4.out (by omega)).mono ?_
  rintro e w5 ⟨⟨v5, rfl, ho⟩, l5, d5, rfl⟩
  obtain ⟨A5, c5, rfl, hc1, hc2, hs5, _⟩ := Strs.of_own ho
  have Hs5 := hide hs5
  clear ho hs5
  go_wp2_with fail
  refine (ref_texts_yes A5 (some ⟨w4.heap.size + l5.length, 0, none⟩) c5 2 [[97], [98]] _ (Hs5.out.ext (by repeat (first | exact Ext.refl _ | exact Ext.pre (by simp) | exact Ext.alloc (by assumption) _ | refine Ext.alloc ?_ _ |  refine Ext.more ?_ _ _ | refine Ext.drew ?_ | refine Ext.drewN ?_ _))) (Strs.new _ _ _ _ (by simp)) (by simp)).mono ?_
  rintro e w5 ⟨rfl, l6, d6, rfl⟩
  clear Hs5
  go_wp2_with fail
  refine (seto_list (HU4.out.ext (by repeat (first | exact Ext.refl _ | exact Ext.pre (by simp) | exact Ext.alloc (by assumption) _ | refine Ext.alloc ?_ _ |  refine Ext.more ?_ _ _ | refine Ext.drew ?_ | refine Ext.drewN ?_ _)))).mono ?_
  rintro e w5 ⟨⟨v5, rfl, ho⟩, l7, d7, rfl⟩
  obtain ⟨A7, c7, rfl, hd1, hd2, hs7, _⟩ := Strs.of_own ho
  simp only [more_more] at hs7
  have Hs7 := hide hs7
  clear ho hs7
  go_wp2_with fail
  refine (ref_texts_yes A7 (some ⟨_, 0, none⟩) c7 3 [[97], [98], [99]] _ (Hs7.out.ext (by repeat (first | exact Ext.refl _ | exact Ext.pre (by simp) | exact Ext.alloc (by assumption) _ | refine Ext.alloc ?_ _ |  refine Ext.more ?_ _ _ | refine Ext.drew ?_ | refine Ext.drewN ?_ _))) (Strs.new _ _ _ _ (by simp)) (by simp)).mono ?_
  rintro e w5 ⟨rfl, l8, d8, rfl⟩
  clear Hs7
  go_wp2_with fail
  refine (setl_list (HM4.out.ext (by repeat (first | exact Ext.refl _ | exact Ext.pre (by simp) | exact Ext.alloc (by assumption) _ | refine Ext.alloc ?_ _ |  refine Ext.more ?_ _ _ | refine Ext.drew ?_ | refine Ext.drewN ?_ _))) (by omega)).mono ?_
  rintro e w5 ⟨⟨v5, rfl, ho⟩, l9, d9, rfl⟩
  obtain ⟨A9, c9, rfl, he1, he2, hs9, _⟩ := Strs.of_own ho
  simp only [more_more] at hs9
  have Hs9 := hide hs9
  clear ho hs9
  go_wp2_with fail
  refine (ref_texts_yes A9 (some ⟨_, 0, none⟩) c9 1 [[98]] _ (Hs9.out.ext (by repeat (first | exact Ext.refl _ | exact Ext.pre (by simp) | exact Ext.alloc (by assumption) _ | refine Ext.alloc ?_ _ |  refine Ext.more ?_ _ _ | refine Ext.drew ?_ | refine Ext.drewN ?_ _))) (Strs.new _ _ _ _ (by simp)) (by simp)).mono ?_
  rintro e w5 ⟨rfl, l10, d10, rfl⟩
  clear Hs9
  go_wp2_with fail
  refine (setl_add (HS4.out.ext (by repeat (first | exact Ext.refl _ | exact Ext.pre (by simp) | exact Ext.alloc (by assumption) _ | refine Ext.alloc ?_ _ |  refine Ext.more ?_ _ _ | refine Ext.drew ?_ | refine Ext.drewN ?_ _))) [122] (by simp) (by omega)).mono ?_
  rintro e w6 ⟨rfl, hs6, hg6⟩
  rw [show addL [[97], [98]] [122] = [[97], [98], [122]] by decide] at hs6
  have HS6 := hide hs6
  have HM6 := hide ((HM4.out.ext (by repeat (first | exact Ext.refl _ | exact Ext.pre (by simp) | exact Ext.alloc (by assumption) _ | refine Ext.alloc ?_ _ |  refine Ext.more ?_ _ _ | refine Ext.drew ?_ | refine Ext.drewN ?_ _))).grown hg6 hne1 hne2)
  have HX6 : Hid (Ext w w6) := hide ((HX.out.trans (by repeat (first | exact Ext.refl _ | exact Ext.pre (by simp) | exact Ext.alloc (by assumption) _ | refine Ext.alloc ?_ _ |  refine Ext.more ?_ _ _ | refine Ext.drew ?_ | refine Ext.drewN ?_ _))).grown hg6 (fun j hj => by injection hj with hj; omega))
  clear hs6 hg6 HS4 HM4 HX HU4
  go_wp2_with fail
  refine (setl_add HS6.out [122] (by simp) (by omega)).mono ?_
  rintro e w7 ⟨rfl, hs6, hg6⟩
  rw [show addL [[97], [98], [122]] [122] = [[97], [98], [122]] by decide] at hs6
  have HS7 := hide hs6
  have HM7 := hide (HM6.out.grown hg6 hne1 hne2)
  have HX7 : Hid (Ext w w7) := hide (HX6.out.grown hg6 (fun j hj => by injection hj with hj; omega))
  clear hs6 hg6 HS6 HM6 HX6
  go_wp2_with fail
  refine (setl_has HS7.out [122] (by simp)).mono ?_
  rintro e w8 ⟨rfl, rfl⟩
  go_wp2_with fail
  refine (setl_remove HS7.out [122] (by simp)).mono ?_
  rintro e w9 ⟨rfl, hs6, hg6⟩
  rw [show remL [[97], [98], [122]] [122] = [[97], [98]] by decide] at hs6
  have HS9 := hide hs6
  have HM9 := hide (HM7.out.grown hg6 hne1 hne2)
  have HX9 : Hid (Ext w w9) := hide (HX7.out.grown hg6 (fun j hj => by injection hj with hj; omega))
  clear hs6 hg6 HS7 HM7 HX7
  go_wp2_with fail
  refine (setl_remove HS9.out [122] (by simp)).mono ?_
  rintro e w10 ⟨rfl, hs6, hg6⟩
  rw [show remL [[97], [98]] [122] = [[97], [98]] by decide] at hs6
  have HS10 : Hid (SetO w10 (.pointer (some ⟨s, 0, none⟩)) [[97], [98]]) := hide (.inr ⟨s, rs, _, rfl, by omega, hs6⟩)
  have HM10 : Hid (SetO w10 (.pointer (some ⟨m, 0, none⟩)) [[98]]) := hide (.inr ⟨m, rm, _, rfl, by omega, HM9.out.grown hg6 hne1 hne2⟩)
  have HX10 : Hid (Ext w w10) := hide (HX9.out.grown hg6 (fun j hj => by injection hj with hj; omega))
  clear hs6 hg6 HS9 HM9 HX9
  go_wp2_with fail
  refine (seto_len HS10.out).mono ?_
  rintro e w11 ⟨rfl, rfl⟩
  go_wp2_with fail
  refine (seto_within HM10.out HS10.out (by simp)).mono ?_
  rintro e w12 ⟨rfl, l12, d12, rfl⟩
  rw [show decide (minusL [[98]] [[97], [98]] = []) = true by decide]
  go_wp2_with fail
  refine (seto_within (HS10.out.ext (by repeat (first | exact Ext.refl _ | exact Ext.pre (by simp) | exact Ext.alloc (by assumption) _ | refine Ext.alloc ?_ _ |  refine Ext.more ?_ _ _ | refine Ext.drew ?_ | refine Ext.drewN ?_ _))) (HM10.out.ext (by repeat (first | exact Ext.refl _ | exact Ext.pre (by simp) | exact Ext.alloc (by assumption) _ | refine Ext.alloc ?_ _ |  refine Ext.more ?_ _ _ | refine Ext.drew ?_ | refine Ext.drewN ?_ _))) (by simp)).mono ?_
  rintro e w12 ⟨rfl, l13, d13, rfl⟩
  rw [show decide (minusL [[97], [98]] [[98]] = []) = false by decide]
  go_wp2
  go_ret
  exact ⟨rfl, HX10.out.trans (by repeat (first | exact Ext.refl _ | exact Ext.pre (by simp) | exact Ext.alloc (by assumption) _ | refine Ext.alloc ?_ _ |  refine Ext.more ?_ _ _ | refine Ext.drew ?_ | refine Ext.drewN ?_ _))⟩

end Go.Proofs.Ytnegamkakdbhfaa
