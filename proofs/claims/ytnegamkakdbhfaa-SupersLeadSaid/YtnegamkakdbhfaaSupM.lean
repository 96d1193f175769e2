/- Chapter 22's example. -/
import Derived.Test.YtnegamkakdbhfaaSupL
namespace Go.Proofs.Ytnegamkakdbhfaa
open Go.RowKit

theorem Strs.blockB {w : World} {b : Nat} {t : TypeId} {fr : Nat × Nat} (l : List Str) (h : w.heap[b]? = some (.cells (l.map encStr).toArray t fr)) : Strs w (some ⟨b, 0, none⟩) l := by
  refine ⟨by simp, fun _ => ⟨b, 0, rfl, lt_of_obj h, fun j u hu => ?_⟩⟩
  rw [Nat.zero_add]
  simp only [World.cell?, h]
  simpa using hu
theorem Strs.newB (w : World) (t : TypeId) (l : List Str) (n : Nat) (h : n = w.heap.size) : Strs (w.alloc (.cells (l.map encStr).toArray t)) (some ⟨n, 0, none⟩) l :=
  Strs.blockB l (at_newB w _ n h)
theorem Ints.newB (w : World) (t : TypeId) (l : List Int) (n : Nat) (h : n = w.heap.size) : Ints (w.alloc (.cells (l.flatMap intC.f).toArray t)) (some ⟨n, 0, none⟩) l :=
  RowOf.block intC l (at_newB w _ n h)
theorem ref_texts_yesB (A B : Option Addr) (cap cap' : Nat) (l : List Str) (w : World) (h : Strs w A l) (h' : Strs w B l) (hle : l.length ≤ 9223372036854775807) :
    Calls Try.prog 45 #[.slice A l.length cap, .slice B l.length cap'] w fun e w' => e = .returned (.bool true) ∧ Ext w w' := by
  have := ref_texts A B cap cap' l l w h h' hle
  simpa using this
theorem ref_ints_yes (A B : Option Addr) (cap cap' : Nat) (l : List Int) (w : World) (h : Ints w A l) (h' : Ints w B l) (hle : l.length ≤ 9223372036854775807) :
    Calls Try.prog 52 #[.slice A l.length cap, .slice B l.length cap'] w fun e w' => e = .returned (.bool true) ∧ Ext w w' := by
  have := ref_ints A B cap cap' l l w h h' hle
  simpa using this

theorem cls_info : (Try.prog.info? 79).map (fun i => (i.zero, i.size, i.bytes)) = some (some (.agg #[.string ⟨#[]⟩, .slice none 0 0, .slice none 0 0]), 3, 64) := by kernel_rfl

/-- The example's classes: Eq; Ord above it; Num above both. -/
def ex22 (b1 b2 : Nat) : List Cls := [⟨[69, 113], none, 0, [], .slice none 0 0⟩, ⟨[79, 114, 100], some ⟨b1, 0, none⟩, 1, [[69, 113]], .slice none 0 0⟩, ⟨[78, 117, 109], some ⟨b2, 0, none⟩, 2, [[79, 114, 100], [69, 113]], .slice none 0 0⟩]
def exA (b3 : Nat) : Cls := ⟨[65], some ⟨b3, 0, none⟩, 1, [[65]], .slice none 0 0⟩
theorem ex_facts (b1 b2 b3 : Nat) : (ex22 b1 b2).length ≤ 9 ∧ (∀ c ∈ ex22 b1 b2, c.sup.length ≤ 9) ∧ pathL (ex22 b1 b2) [78, 117, 109] [69, 113] = some [1] ∧ pathL (ex22 b1 b2) [69, 113] [79, 114, 100] = none ∧
    checkL (exA b3 :: ex22 b1 b2) = (0, 9) ∧ checkL (ex22 b1 b2) = (0, 0) ∧ allL (ex22 b1 b2) [78, 117, 109] = [[79, 114, 100], [69, 113]] ∧ belowL (ex22 b1 b2) [69, 113] = [[79, 114, 100], [78, 117, 109]] ∧
    mostL (ex22 b1 b2) [[69, 113], [79, 114, 100], [88]] = [[79, 114, 100]] := by
  refine ⟨by simp [ex22], by simp [ex22], by rfl, by rfl, by rfl, by rfl, by rfl, by rfl, by rfl⟩

theorem Classes.ex (w : World) : Classes (((w.alloc (.cells ([[69, 113]].map encStr).toArray 9)).alloc (.cells ([[79, 114, 100], [69, 113]].map encStr).toArray 9)).alloc (.cells ((ex22 w.heap.size (w.heap.size + 1)).flatMap clsC.f).toArray 79)) (some ⟨w.heap.size + 2, 0, none⟩) (ex22 w.heap.size (w.heap.size + 1)) where
  row := RowOf.block clsC _ (at_newB _ _ _ (by simp))
  sup c hc := by
    simp only [ex22, List.mem_cons, List.not_mem_nil, or_false] at hc
    rcases hc with rfl | rfl | rfl
    · exact Strs.nil _
    · exact (Strs.newB w _ [[69, 113]] _ rfl).ext (Ext.alloc (Ext.alloc (Ext.refl _) _) _)
    · exact (Strs.newB _ _ [[79, 114, 100], [69, 113]] _ (by simp)).ext (Ext.alloc (Ext.refl _) _)
  le c hc := by
    simp only [ex22, List.mem_cons, List.not_mem_nil, or_false] at hc
    rcases hc with rfl | rfl | rfl <;> simp

theorem lit_at {base : Nat} {e : TypeId} {size : Nat} (w : World) (cs : Array Value) (n k : Nat) (hk : k = w.heap.size) (hb : base ≤ w.heap.size) (hm : n ≤ maxLen) (hs : cs.size = n * size) :
    (w.alloc (.cells cs e)).ownsRow base e size (.slice (some ⟨k, 0, none⟩) n n) n cs.toList := by
  subst hk
  exact World.ownsRow_lit w cs n hb hm hs

set_option maxRecDepth 10000 in
set_option maxHeartbeats 4000000 in
theorem awake22_ok (w : World) : Calls Try.prog 42 #[] w fun e w' => e = .returned (.bool true) ∧ Ext w w' := by
  obtain ⟨i0, hi, hz0, hz1, hz2⟩ := info_parts cls_info
  obtain ⟨f1, f2, f3, f4, f5, f6, f7, f8, f9⟩ := ex_facts w.heap.size (w.heap.size + 1) 0
  have HC := hide (Classes.ex w)
  have H1 := hide f1
  have H2 := hide f2
  have HP1 := hide (fun A cap w' h => sup_path A cap (ex22 w.heap.size (w.heap.size + 1)) [78, 117, 109] [69, 113] w' h f1 f2)
  have HP2 := hide (fun A cap w' h => sup_path A cap (ex22 w.heap.size (w.heap.size + 1)) [69, 113] [79, 114, 100] w' h f1 f2)
  have HK := hide (fun A cap w' h => sup_check A cap (ex22 w.heap.size (w.heap.size + 1)) w' h f1 f2)
  have HAl := hide (fun A cap w' h => sup_all A cap (ex22 w.heap.size (w.heap.size + 1)) [78, 117, 109] w' h f1 f2)
  have HBe := hide (fun A cap w' h => sup_below A cap (ex22 w.heap.size (w.heap.size + 1)) [69, 113] w' h f1 f2)
  have HMo := hide (fun A B cap cap' w' h hn => sup_most A B cap cap' (ex22 w.heap.size (w.heap.size + 1)) [[69, 113], [79, 114, 100], [88]] w' h f1 f2 hn (by simp))
  rw [f3] at HP1
  rw [f4] at HP2
  rw [f6] at HK
  rw [f7] at HAl
  rw [f8] at HBe
  rw [f9] at HMo
  clear f1 f2 f3 f4 f5 f6 f7 f8 f9
  go_enter Try.func42, Try.ntmps42
  go_wp2_with fail
  refine (HP1.out (some ⟨w.heap.size + 2, 0, none⟩) 3 _ HC.out).mono ?_
  rintro e w2 ⟨⟨A2, c2, rfl, p1, p2, p3⟩, hx2⟩
  have C2 := hide (HC.out.ext hx2)
  have X2 : Hid (Ext w w2) := hide (Ext.trans (by repeat (first | exact Ext.refl _ | exact Ext.pre (by simp) | exact Ext.alloc (by assumption) _ | refine Ext.alloc ?_ _ |  refine Ext.more ?_ _ _ | refine Ext.drew ?_ | refine Ext.drewN ?_ _)) hx2)
  have P2 := hide p3
  clear p3 hx2 HC
  go_wp2_with fail
  refine (HP2.out _ 3 _ C2.out).mono ?_
  rintro e w3 ⟨⟨A3, c3, rfl, p4, p5, p6⟩, hx3⟩
  have C3 := hide (C2.out.ext hx3)
  have X3 : Hid (Ext w w3) := hide (X2.out.trans hx3)
  have P3 := hide (RowOf.ext intC P2.out hx3)
  clear p6 hx3 C2 X2 P2
  have hexl : (ex22 w.heap.size (w.heap.size + 1)).length = 3 := rfl
  go_wp2_with (at_builtin; refine wpList_append_row _ rfl _ _ 60 rfl w3.heap.size 79 i0 _ 3 64 Try.underlying60 hi hz0 hz1 hz2 rfl (by decide) (.slice (some ⟨w3.heap.size + 1, 0, none⟩) 1 1) 1 (exA w3.heap.size).cells rfl ?c1 (some ⟨w.heap.size + 2, 0, none⟩) 3 3 ((ex22 w.heap.size (w.heap.size + 1)).flatMap clsC.f) rfl ?c2 ?c3 ?c4 ?c5 ?c6 ?_)
  case c1 => exact lit_at _ (exA w3.heap.size).cells.toArray 1 _ (by simp) (by simp) (by unfold maxLen; omega) rfl
  case c2 => exact (Row.ext C3.out.row (Ext.alloc (Ext.alloc (Ext.refl _) _) _) : Row _ _ 3 3 _)
  case c3 => intro u hu; simp [ex22, clsC, Cls.cells] at hu; rcases hu with rfl | rfl | rfl | rfl | rfl | rfl | rfl | rfl <;> rfl
  case c4 => unfold maxLen; omega
  case c5 => omega
  case c6 => simp; try omega
  intro v4 w4 hown4 hg4 hat4
  have hszz : ((w3.alloc (.cells #[encStr [65]] 9)).alloc (.cells #[encStr [65], .slice (some ⟨w3.heap.size, 0, none⟩) 1 1, .slice none 0 0] 79)).heap.size = w3.heap.size + 2 := by simp
  have X34 : Hid (Ext w3 w4) := hide (Ext.app (Ext.alloc (Ext.alloc (Ext.refl _) _) _) hg4 (lit_at (base := w3.heap.size) (e := 79) (size := 3) _ (exA w3.heap.size).cells.toArray 1 _ (by simp) (by simp) (by unfold maxLen; omega) rfl) (Nat.le_refl _))
  have SA : Hid (Strs w4 (some ⟨w3.heap.size, 0, none⟩) [[65]]) := hide (Row.keep ((Strs.newB w3 9 [[65]] _ rfl).ext (Ext.alloc (Ext.refl _) _)) hg4.size (fun b o e hb => hg4.block b hb (by injection e with e; injection e with e1; subst e1; simp [Value.ownBlock])))
  obtain ⟨A4, c4, rfl, q1, q2, q3, _⟩ := RowOf.own clsC (l := exA w3.heap.size :: ex22 w.heap.size (w.heap.size + 1)) hown4
  have C4 : Hid (Classes w4 A4 (exA w3.heap.size :: ex22 w.heap.size (w.heap.size + 1))) := hide ⟨q3, fun c hc => by
      rcases List.mem_cons.1 hc with rfl | hc
      · exact SA.out
      · exact (C3.out.sup c hc).ext X34.out, fun c hc => by
      rcases List.mem_cons.1 hc with rfl | hc
      · simp [exA]
      · exact C3.out.le c hc⟩
  have HK4 := hide (sup_check A4 c4 _ w4 C4.out (by simp [ex22]) (by simp [exA, ex22]))
  rw [(ex_facts w.heap.size (w.heap.size + 1) w3.heap.size).2.2.2.2.1] at HK4
  have C5 := hide (C3.out.ext X34.out)
  have X4 := hide (X3.out.trans X34.out)
  have P4 := hide (RowOf.ext intC P3.out X34.out)
  clear hown4 hg4 hat4 q3 C3 X3 P3 X34 SA C4
  go_wp2_with fail
  refine HK4.out.mono ?_
  rintro e w5 ⟨rfl, l5, d5, rfl⟩
  go_wp2_with fail
  refine (HK.out _ 3 _ (C5.out.ext (by repeat (first | exact Ext.refl _ | exact Ext.pre (by simp) | exact Ext.alloc (by assumption) _ | refine Ext.alloc ?_ _ |  refine Ext.more ?_ _ _ | refine Ext.drew ?_ | refine Ext.drewN ?_ _)))).mono ?_
  rintro e w5 ⟨rfl, l6, d6, rfl⟩
  go_wp2_with fail
  refine (ref_ints_yes A2 (some ⟨_, 0, none⟩) c2 1 [1] _ (RowOf.ext intC P4.out (by repeat (first | exact Ext.refl _ | exact Ext.pre (by simp) | exact Ext.alloc (by assumption) _ | refine Ext.alloc ?_ _ |  refine Ext.more ?_ _ _ | refine Ext.drew ?_ | refine Ext.drewN ?_ _))) (Ints.newB _ _ _ _ (by simp)) (by simp)).mono ?_
  rintro e w5 ⟨rfl, l7, d7, rfl⟩
  go_wp2_with fail
  refine (HAl.out _ 3 _ (C5.out.ext (by repeat (first | exact Ext.refl _ | exact Ext.pre (by simp) | exact Ext.alloc (by assumption) _ | refine Ext.alloc ?_ _ |  refine Ext.more ?_ _ _ | refine Ext.drew ?_ | refine Ext.drewN ?_ _)))).mono ?_
  rintro e w5 ⟨⟨A8, c8, rfl, r1, r2, r3⟩, l8, d8, rfl⟩
  simp only [more_more] at r3
  have R8 := hide r3
  clear r3
  go_wp2_with fail
  refine (ref_texts_yesB A8 (some ⟨_, 0, none⟩) c8 2 [[79, 114, 100], [69, 113]] _ (R8.out.ext (by repeat (first | exact Ext.refl _ | exact Ext.pre (by simp) | exact Ext.alloc (by assumption) _ | refine Ext.alloc ?_ _ |  refine Ext.more ?_ _ _ | refine Ext.drew ?_ | refine Ext.drewN ?_ _))) (Strs.newB _ _ _ _ (by simp)) (by simp)).mono ?_
  rintro e w5 ⟨rfl, l9, d9, rfl⟩
  clear R8
  go_wp2_with fail
  refine (HBe.out _ 3 _ (C5.out.ext (by repeat (first | exact Ext.refl _ | exact Ext.pre (by simp) | exact Ext.alloc (by assumption) _ | refine Ext.alloc ?_ _ |  refine Ext.more ?_ _ _ | refine Ext.drew ?_ | refine Ext.drewN ?_ _)))).mono ?_
  rintro e w5 ⟨⟨A10, c10, rfl, r4, r5, r6⟩, l10, d10, rfl⟩
  simp only [more_more] at r6
  have R10 := hide r6
  clear r6
  go_wp2_with fail
  refine (ref_texts_yesB A10 (some ⟨_, 0, none⟩) c10 2 [[79, 114, 100], [78, 117, 109]] _ (R10.out.ext (by repeat (first | exact Ext.refl _ | exact Ext.pre (by simp) | exact Ext.alloc (by assumption) _ | refine Ext.alloc ?_ _ |  refine Ext.more ?_ _ _ | refine Ext.drew ?_ | refine Ext.drewN ?_ _))) (Strs.newB _ _ _ _ (by simp)) (by simp)).mono ?_
  rintro e w5 ⟨rfl, l11, d11, rfl⟩
  clear R10
  go_wp2_with fail
  refine (HMo.out _ (some ⟨_, 0, none⟩) 3 3 _ (C5.out.ext (by repeat (first | exact Ext.refl _ | exact Ext.pre (by simp) | exact Ext.alloc (by assumption) _ | refine Ext.alloc ?_ _ |  refine Ext.more ?_ _ _ | refine Ext.drew ?_ | refine Ext.drewN ?_ _))) (Strs.newB _ _ _ _ (by simp))).mono ?_
  rintro e w5 ⟨⟨A12, c12, rfl, r7, r8, r9⟩, l12, d12, rfl⟩
  try simp only [more_more] at r9
  have R12 := hide r9
  clear r9
  go_wp2_with fail
  refine (ref_texts_yesB A12 (some ⟨_, 0, none⟩) c12 1 [[79, 114, 100]] _ (R12.out.ext (by repeat (first | exact Ext.refl _ | exact Ext.pre (by simp) | exact Ext.alloc (by assumption) _ | refine Ext.alloc ?_ _ |  refine Ext.more ?_ _ _ | refine Ext.drew ?_ | refine Ext.drewN ?_ _))) (Strs.newB _ _ _ _ (by simp)) (by simp)).mono ?_
  rintro e w5 ⟨rfl, l13, d13, rfl⟩
  go_wp2
  go_ret
  exact ⟨rfl, X4.out.trans (by repeat (first | exact Ext.refl _ | exact Ext.pre (by simp) | exact Ext.alloc (by assumption) _ | refine Ext.alloc ?_ _ |  refine Ext.more ?_ _ _ | refine Ext.drew ?_ | refine Ext.drewN ?_ _))⟩

end Go.Proofs.Ytnegamkakdbhfaa
