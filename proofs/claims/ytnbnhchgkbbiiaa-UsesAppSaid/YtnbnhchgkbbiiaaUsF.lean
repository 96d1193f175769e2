/- Contract: the names of a pattern's variables. -/
import Derived.Test.YtnbnhchgkbbiiaaUsE
namespace Go.Proofs.Ytnbnhchgkbbiiaa
open Go.RowKit

noncomputable def varsN (t : Tree) : List Str := (varsL t).map Tree.text
theorem texts_take (l : List Tree) {k : Nat} (h : k < l.length) : (l.take (k + 1)).map Tree.text = (l.take k).map Tree.text ++ [(l[k]'h).text] := by
  rw [List.take_succ_eq_append_getElem h, List.map_append]; rfl

set_option maxRecDepth 10000 in
set_option maxHeartbeats 1000000 in
theorem p_vars (t : Tree) (w : World) (h : NodeIn w t) (hsz : t.size ≤ 100000) :
    Calls Try.prog 78 #[treeV t] w fun e w' => (∃ A' cap', e = .returned (.slice A' (varsN t).length cap') ∧ (varsN t).length ≤ cap' ∧ cap' ≤ 9223372036854775807 ∧ Strs w' A' (varsN t) ∧ ∀ c o, A' = some ⟨c, o, none⟩ → w.heap.size ≤ c) ∧ Ext w w' := by
  obtain ⟨i0, hi, hz0, hz1, hz2⟩ := info_parts str_infoU
  have X0 : Hid (Ext w (w.alloc (.cells #[.int .i64 t.kind, .int .i64 t.pos, .int .i64 t.n, encStr t.text, .slice t.A t.kids.length t.cap] 54))) := hide ((Ext.refl w).alloc _)
  have HC := hide (p_varsI t w (w.alloc (.cells #[.int .i64 t.kind, .int .i64 t.pos, .int .i64 t.n, encStr t.text, .slice t.A t.kids.length t.cap] 54)) (w.heap.size + 1) (.slice none 0 0) [] h (X0.out.below) (by omega) (by simp) (World.ownsRow_nil _ _ _ _) (by simpa using hsz))
  have hln := varsL_len t
  have HIn := hide (varsL_in h)
  have HR : Hid ((varsL t).map Tree.text = varsN t) := hide rfl
  generalize varsN t = R at *
  clear h
  unfold treeV at *
  generalize varsL t = l at *
  go_enter Try.func78, Try.ntmps78
  go_wp2_with fail
  refine HC.out.mono ?_
  rintro e w2 ⟨⟨v2, rfl, hO2⟩, hB2⟩
  rw [List.nil_append] at hO2
  obtain ⟨A2, c2, rfl, r1, r2, r3, -⟩ := RowOf.own treeC hO2
  have X2 : Hid (Ext w w2) := hide (X0.out.trans (Ext.of_below hB2 (by simp)))
  have HK : Hid (NodesIn w2 A2 l) := hide ⟨r3, fun k hk => (HIn.out k hk).ext X2.out⟩
  have hsz2 := X2.out.size
  clear hO2 hB2 r3
  go_wp2
  go_loopw [3, 9] (fun v i wr => ∃ k : Nat, k ≤ l.length ∧ i = .int .i64 k ∧ Hid (Ext w2 wr) ∧ Hid (wr.ownsRow w2.heap.size 9 1 v ((l.take k).map Tree.text).length (((l.take k).map Tree.text).map encStr))) (fun _ i _ => l.length - (intOf i).toNat)
  case atStart => exact ⟨0, Nat.zero_le _, rfl, hide (Ext.refl _), hide (World.ownsRow_nil _ _ _ _)⟩
  case round =>
    obtain ⟨k, hk, rfl, HX, HO⟩ := hrel
    by_cases hlt : k < l.length
    · have hlt' : (k : Int) < (l.length : Int) := by omega
      have hk0 : (0 : Int) ≤ (k : Int) := by omega
      obtain ⟨b, o, rfl, hb, q0, q1, q2, q3, q4⟩ := (HK.out.ext HX.out).at_ hlt
      have Hst := hide (texts_take l hlt)
      have hol : ((l.take k).map Tree.text).length ≤ k := by simp; omega
      generalize (l.take k).map Tree.text = L at *
      generalize l[k]'hlt = c at *
      go_wp2_with (at_builtin; refine wpList_append_row _ rfl _ _ 51 rfl w2.heap.size 9 i0 _ 1 16 Try.underlying51 hi hz0 hz1 hz2 rfl (by decide) u3 L.length (L.map encStr) rfl (own_extB HO.out (((Ext.refl _).alloc _).alloc _)) _ 1 1 [encStr c.text] rfl ?c2 ?c3 ?c4 ?c5 ?c6 ?_)
      case c2 => exact Strs.boxedU _ (at_newB _ _ _ (by simp))
      case c3 => first | rfl | (intro y hy; simp at hy; subst hy; rfl)
      case c4 => unfold maxLen; omega
      case c5 => omega
      case c6 => have := HX.out.size; simp; omega
      intro v4 w4 hown4 hg4 _
      have X4 := hide (Ext.appU ((HX.out.alloc _).alloc _) hg4 (own_extB HO.out (((Ext.refl _).alloc _).alloc _)) (Nat.le_refl _))
      have O4 := hide hown4
      clear hown4 hg4
      go_wp2
      go_roundw
      case rel => exact ⟨k + 1, hlt, by go_num, X4, hide (by rw [Hst.out]; simpa using O4.out)⟩
      case measure => simp [intOf]; omega
    · have hge : ¬ (k : Int) < (l.length : Int) := by omega
      have hkl : l.take k = l := List.take_of_length_le (by omega)
      rw [hkl, HR.out] at HO
      obtain ⟨A5, c5, rfl, p1, p2, p3, p4⟩ := Strs.of_own HO.out
      have P3 := hide p3
      have P4 := hide p4
      clear p3 p4 hkl
      go_wp2
      go_ret
      exact ⟨⟨A5, c5, rfl, p1, p2, P3.out, fun c o e => by have := (P4.out c o e).1; omega⟩, X2.out.trans HX.out⟩

end Go.Proofs.Ytnbnhchgkbbiiaa
