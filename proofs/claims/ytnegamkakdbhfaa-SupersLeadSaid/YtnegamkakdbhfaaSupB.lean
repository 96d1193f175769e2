/- Contracts: all classes above one, the reference's. -/
import Derived.Test.YtnegamkakdbhfaaSupA
import Derived.Deep.RegionHeld3
namespace Go.Proofs.Ytnegamkakdbhfaa
open Go.RowKit Go.Sort

set_option maxRecDepth 10000 in
set_option maxHeartbeats 4000000 in
theorem ref_above (A : Option Addr) (cap : Nat) (l : List Cls) (x : Str) (w : World) (h : Classes w A l) (hl : l.length ≤ 9) (hs : ∀ c ∈ l, c.sup.length ≤ 9) :
    Calls Try.prog 79 #[.slice A l.length cap, encStr x] w fun e w' => (∃ A' cap', e = .returned (.slice A' (aboveL l x).length cap') ∧ (aboveL l x).length ≤ cap' ∧ cap' ≤ 9223372036854775807 ∧ Strs w' A' (aboveL l x)) ∧ Ext w w' := by
  obtain ⟨i0, hi, hz0, hz1, hz2⟩ := info_parts str_infoB
  have hB := boundL_le l hl hs x
  have HB : Hid (boundL l x = (supL l x).length + restN l []) := hide rfl
  have HR : Hid (aboveGo l (boundL l x) [] (supL l x) = aboveL l x) := hide rfl
  have HC := hide h
  have Hsup := hide hs
  clear h hs
  generalize aboveL l x = RES at *
  generalize boundL l x = B at *
  go_enter Try.func79, Try.ntmps79
  go_wp2_with fail
  refine (ref_supers A cap l x w HC.out (by omega)).mono ?_
  generalize supL l x = S0 at *
  rintro e w1 ⟨⟨A1, c1, rfl, g1, g2, hs0⟩, rfl⟩
  have Hs := hide hs0
  clear hs0
  go_wp2
  go_loopw [5, 6, 7] (fun v u i wr => ∃ (n : Nat) (out row : List Str) (A6 : Option Addr) (c6 : Nat), n ≤ row.length ∧ out.length ≤ n ∧ row.length ≤ B ∧ i = .int .i64 n ∧ u = .slice A6 row.length c6 ∧ row.length ≤ c6 ∧ c6 ≤ 9223372036854775807 ∧
    Hid (row.length + restN l out ≤ B) ∧ Hid (Strs wr A6 row) ∧ Hid (wr.ownsRow w1.heap.size 9 1 v out.length (out.map encStr)) ∧ Hid (Ext w1 wr) ∧ Hid (∀ c o, A6 = some ⟨c, o, none⟩ → v.ownBlock ≠ some c) ∧ Hid (aboveGo l (B - n) out (row.drop n) = RES)) (fun _ _ i _ => B - (intOf i).toNat)
  case atStart => exact ⟨0, [], S0, A1, c1, Nat.zero_le _, by simp, by have := HB.out; omega, rfl, rfl, g1, g2, hide (by have := HB.out; omega), Hs, hide (World.ownsRow_nil _ _ _ _), hide (Ext.refl _), hide (by intro c o _ h; cases h), HR⟩
  case round =>
    obtain ⟨n, out, row, A6, c6, hn, hon, hrB, rfl, rfl, h1, h2, HM, HR6, HO, HX, HD6, HG⟩ := hrel
    by_cases hlt : n < row.length
    · obtain ⟨b6, o6, rfl, hb6, q0⟩ := HR6.out.at_ hlt
      have hlt' : (n : Int) < (row.length : Int) := by omega
      have hn0 : (0 : Int) ≤ (n : Int) := by omega
      have Hd := hide (drop_cons hlt)
      generalize row.getD n [] = y at *
      obtain ⟨A5, c5, rfl, p1, p2, p3, _⟩ := Strs.of_own HO.out
      have P3 := hide p3
      clear p3
      have Hh := hide (ref_has A5 c5 out y _ P3.out (by omega))
      have hBn : B - n = (B - (n + 1)) + 1 := by omega
      have HBn := hide hBn
      clear hBn
      cases ho : out.any (· == y)
      · rw [ho] at Hh
        have Hnew : Hid (aboveGo l (B - (n + 1)) (out ++ [y]) ((row ++ supL l y).drop (n + 1)) = RES) := hide (by
          have := HG.out
          rw [Hd.out, HBn.out] at this
          unfold aboveGo at this
          rw [ho] at this
          rw [List.drop_append_of_le_length (by omega)]
          exact this)
        have HMn : Hid ((row ++ supL l y).length + restN l (out ++ [y]) ≤ B) := hide (by
          have := restN_add l out y ho
          have := HM.out
          rw [List.length_append]
          omega)
        have hon' : (out ++ [y]).length ≤ n + 1 := by simp; omega
        have hsl := supL_len l Hsup.out y
        have Hsp := fun w' (e : Ext w1 w') => hide (ref_supersX A cap l y w1 w' HC.out e (by omega))
        generalize supL l y = Y at *
        have HSp := hide Hsp
        clear Hsp ho
        go_wp2_with fail
        refine Hh.out.mono ?_
        rintro e w2 ⟨rfl, rfl⟩
        go_wp2_with (at_builtin; refine wpList_append_row _ rfl _ _ 65 rfl w1.heap.size 9 i0 _ 1 16 Try.underlying65 hi hz0 hz1 hz2 rfl (by decide) (.slice A5 out.length c5) out.length (out.map encStr) rfl (HO.out.alloc _) _ 1 1 [encStr y] rfl ?c2 ?c3 ?c4 ?c5 ?c6 ?_)
        case c2 => exact Strs.boxed _ (at_newB _ _ _ (by simp))
        case c3 => intro y hy; simp at hy; subst hy; rfl
        case c4 => unfold maxLen; omega
        case c5 => omega
        case c6 => exact Ext.size (HX.out.alloc _)
        intro v3 w4 hown3 hg3 hat3
        have X4 : Hid (Ext w1 w4) := hide (Ext.app (HX.out.alloc _) hg3 (HO.out.alloc _) (Nat.le_refl _))
        have R4 : Hid (Strs w4 (some ⟨b6, o6, none⟩) row) := hide (Row.keep (HR6.out.ext (Ext.alloc (Ext.refl _) _)) hg3.size (fun b o e hb => hg3.block b hb (fun h => HD6.out b o e h.symm)))
        have D4 : Hid (v3.ownBlock ≠ some b6) := hide (fun h => by
          rcases hat3 with h3 | h3
          · exact HD6.out b6 o6 rfl (h3 ▸ h)
          · rw [h3] at h; injection h with h; first | omega | (simp at h; omega))
        have L4 := hide hown3.lt
        have O4 : Hid (w4.ownsRow w1.heap.size 9 1 v3 (out ++ [y]).length ((out ++ [y]).map encStr)) := hide (by simpa using hown3)
        have hb4 : b6 < w4.heap.size := by have := hg3.size; simp at this; omega
        have q4 : w4.cell? ⟨b6, o6 + n, none⟩ = some (.string ⟨y.toArray⟩) := (World.cell?_of_block (a := ⟨b6, o6 + n, none⟩) (hg3.block b6 (by simp; omega) (fun h => HD6.out b6 o6 rfl h.symm))).trans (by simp [go_sem, q0, hb6])
        clear hown3 hg3 hat3 HO HX HR6 HD6 Hh q0 hb6
        go_wp2
        go_region_held3 (fun w' => w'.cell? ⟨b6, o6 + n, none⟩ = some (.string ⟨y.toArray⟩)) (first | assumption | go_keep) (first
          | (refine step_append_rowB _ rfl (.const (.slice none 0 0)) (.tmp 31) 65 rfl w4.heap.size 9 i0 _ 1 16 Try.underlying65 hi hz0 hz1 hz2 rfl (by decide) (.slice none 0 0) 0 [] rfl (World.ownsRow_nil _ _ _ _) (some ⟨b6, o6, none⟩) row.length c6 (row.map encStr) rfl (R4.out.ext (by repeat (first | exact Ext.refl _ | exact Ext.pre (by simp) | exact Ext.alloc (by assumption) _ | refine Ext.alloc ?_ _ |  refine Ext.more ?_ _ _ | refine Ext.drew ?_ | refine Ext.drewN ?_ _))) (one_strs _) (by unfold maxLen; omega) (by omega) (Ext.size (by repeat (first | exact Ext.refl _ | exact Ext.pre (by simp) | exact Ext.alloc (by assumption) _ | refine Ext.alloc ?_ _ |  refine Ext.more ?_ _ _ | refine Ext.drew ?_ | refine Ext.drewN ?_ _))) ?_
             intro v7 w7 hown7 hg7 hat7
             have X7 : Hid (Ext w4 w7) := hide (Ext.app (by repeat (first | exact Ext.refl _ | exact Ext.pre (by simp) | exact Ext.alloc (by assumption) _ | refine Ext.alloc ?_ _ |  refine Ext.more ?_ _ _ | refine Ext.drew ?_ | refine Ext.drewN ?_ _)) hg7 (World.ownsRow_nil _ w4.heap.size 9 1) (Nat.le_refl _))
             have q7 : w7.cell? ⟨b6, o6 + n, none⟩ = some (.string ⟨y.toArray⟩) := (World.cell?_of_block (a := ⟨b6, o6 + n, none⟩) (X7.out.heap hb4)).trans q4
             rw [Nat.zero_add, List.nil_append] at hown7
             have O7 := hide hown7
             clear hown7 hg7 hat7)
          | (go_at_call 93
             refine Calls.mono (HSp.out _ ?e).out ?_
             case e => first | (refine Ext.trans (X4.out.trans X7.out) ?_; (repeat (first | exact Ext.refl _ | exact Ext.pre (by simp) | exact Ext.alloc (by assumption) _ | refine Ext.alloc ?_ _ | refine Ext.more ?_ _ _ | refine Ext.drew ?_ | refine Ext.drewN ?_ _)); done) | (refine Ext.trans X4.out ?_; (repeat (first | exact Ext.refl _ | exact Ext.pre (by simp) | exact Ext.alloc (by assumption) _ | refine Ext.alloc ?_ _ | refine Ext.more ?_ _ _ | refine Ext.drew ?_ | refine Ext.drewN ?_ _)); done)
             rintro e w8 ⟨⟨A8, c8, rfl, s1, s2, s3⟩, rfl⟩
             have S3 := hide (s3.ext X4.out)
             clear s3)
          | (refine step_append_rowB _ rfl (.tmp 32) (.tmp 38) 65 rfl w4.heap.size 9 i0 _ 1 16 Try.underlying65 hi hz0 hz1 hz2 rfl (by decide) v7 row.length (row.map encStr) rfl (own_extB O7.out (by repeat (first | exact Ext.refl _ | exact Ext.pre (by simp) | exact Ext.alloc (by assumption) _ | refine Ext.alloc ?_ _ |  refine Ext.more ?_ _ _ | refine Ext.drew ?_ | refine Ext.drewN ?_ _))) A8 Y.length c8 (Y.map encStr) rfl (S3.out.ext (X7.out.trans (by repeat (first | exact Ext.refl _ | exact Ext.pre (by simp) | exact Ext.alloc (by assumption) _ | refine Ext.alloc ?_ _ |  refine Ext.more ?_ _ _ | refine Ext.drew ?_ | refine Ext.drewN ?_ _)))) (one_strs _) (by unfold maxLen; omega) (by omega) (Ext.size (X7.out.trans (by repeat (first | exact Ext.refl _ | exact Ext.pre (by simp) | exact Ext.alloc (by assumption) _ | refine Ext.alloc ?_ _ |  refine Ext.more ?_ _ _ | refine Ext.drew ?_ | refine Ext.drewN ?_ _)))) ?_
             intro v9 w9 hown9 hg9 hat9
             have X9 : Hid (Ext w4 w9) := hide (Ext.app (X7.out.trans (by repeat (first | exact Ext.refl _ | exact Ext.pre (by simp) | exact Ext.alloc (by assumption) _ | refine Ext.alloc ?_ _ |  refine Ext.more ?_ _ _ | refine Ext.drew ?_ | refine Ext.drewN ?_ _))) hg9 (own_extB O7.out (by repeat (first | exact Ext.refl _ | exact Ext.pre (by simp) | exact Ext.alloc (by assumption) _ | refine Ext.alloc ?_ _ |  refine Ext.more ?_ _ _ | refine Ext.drew ?_ | refine Ext.drewN ?_ _))) (Nat.le_refl _))
             have q9 : w9.cell? ⟨b6, o6 + n, none⟩ = some (.string ⟨y.toArray⟩) := (World.cell?_of_block (a := ⟨b6, o6 + n, none⟩) (X9.out.heap hb4)).trans q4
             have O9 := hide hown9
             clear hown9 hg9 hat9))
        have h9 := O9.out
        rw [← List.map_append, ← List.length_append] at h9
        obtain ⟨A9, c9, rfl, r1, r2, r3, r4⟩ := Strs.of_own h9
        have R9 := hide r3
        have B9 := hide r4
        clear h9 r3 r4 O9
        go_wp2
        go_roundw
        case rel => exact ⟨n + 1, out ++ [y], row ++ Y, A9, c9, by simp; omega, hon', by have := HMn.out; omega, by go_num, by first | rfl | rw [List.length_append], r1, r2, HMn, R9, hide (own_extB O4.out X9.out), hide (X4.out.trans X9.out), hide (fun c o h => fun hv => by have := (B9.out c o h).1; have := L4.out c hv; omega), Hnew⟩
        case measure => simp [intOf]; omega
      · rw [ho] at Hh
        have Hnew : Hid (aboveGo l (B - (n + 1)) out (row.drop (n + 1)) = RES) := hide (by
          have := HG.out
          rw [Hd.out, HBn.out] at this
          unfold aboveGo at this
          rw [ho] at this
          exact this)
        go_wp2_with fail
        refine Hh.out.mono ?_
        rintro e w1 ⟨rfl, rfl⟩
        go_wp2
        go_roundw
        case rel => exact ⟨n + 1, out, row, some ⟨b6, o6, none⟩, c6, hlt, by omega, hrB, by go_num, rfl, h1, h2, HM, HR6, HO, HX, HD6, Hnew⟩
        case measure => simp [intOf]; omega
    · have hge : (row.length : Int) ≤ (n : Int) := by omega
      have hfin := HG.out
      rw [List.drop_eq_nil_of_le (by omega), aboveGo_nil] at hfin
      subst hfin
      obtain ⟨A5, c5, rfl, p1, p2, p3, _⟩ := Strs.of_own HO.out
      have P3 := hide p3
      clear p3
      go_wp2
      go_ret
      exact ⟨⟨A5, c5, rfl, p1, p2, P3.out⟩, HX.out⟩

end Go.Proofs.Ytnegamkakdbhfaa
