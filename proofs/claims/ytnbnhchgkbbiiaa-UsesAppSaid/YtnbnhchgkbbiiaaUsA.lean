/- Contracts: the names that some nodes bind, by the program and by the reference. -/
import Derived.Test.YtnbnhchgkbbiiaaExpB
import Derived.Test.YtnbnhchgkbbiiaaStrP
namespace Go.Proofs.Ytnbnhchgkbbiiaa
open Go.RowKit

theorem str_infoU : (Try.prog.info? 9).map (fun i => (i.zero, i.size, i.bytes)) = some (some (.string ⟨#[]⟩), 1, 16) := by kernel_rfl
theorem Strs.boxedU {w : World} {b : Nat} {t : TypeId} {fr : Nat × Nat} (x : Str) (h : w.heap[b]? = some (.cells #[encStr x] t fr)) : Row w (some ⟨b, 0, none⟩) 1 1 [encStr x] := by
  refine ⟨rfl, fun _ => ⟨b, 0, rfl, lt_of_obj h, fun j u hu => ?_⟩⟩
  match j with
  | 0 => simp at hu; subst hu; simp [World.cell?, h]
  | j + 1 => simp at hu
/-- Behind an append to what is one's own. -/
theorem Ext.appU {w a b : World} {base : Nat} {e : TypeId} {size n : Nat} {v : Value} {xs : List Value} (h : Ext w a) (hg : a.grownBy b v.ownBlock) (ho : a.ownsRow base e size v n xs) (hb : w.heap.size ≤ base) : Ext w b :=
  h.grown hg (fun k hk => Nat.le_trans hb (ho.lt k hk).1)

/-- The names of all bindings. -/
def bindsL (l : List Tree) : List Str := (l.filter fun t => t.kind == 31).map Tree.text
theorem bindsL_take (l : List Tree) {k : Nat} (h : k < l.length) : bindsL (l.take (k + 1)) = bindsL (l.take k) ++ if (l[k]'h).kind == 31 then [(l[k]'h).text] else [] := by
  unfold bindsL
  rw [List.take_succ_eq_append_getElem h, List.filter_append, List.map_append]
  congr 1
  cases hk : ((l[k]'h).kind == 31) <;> simp [hk]
theorem bindsL_len (l : List Tree) : (bindsL l).length ≤ l.length := by
  unfold bindsL
  rw [List.length_map]
  exact List.length_filter_le _ _

set_option maxRecDepth 10000 in
set_option maxHeartbeats 1000000 in
theorem u_binds (A : Option Addr) (cap : Nat) (l : List Tree) (w : World) (h : NodesIn w A l) (hl : l.length ≤ 100000) :
    Calls Try.prog 30 #[.slice A l.length cap] w fun e w' => (∃ A' cap', e = .returned (.slice A' (bindsL l).length cap') ∧ (bindsL l).length ≤ cap' ∧ cap' ≤ 9223372036854775807 ∧ Strs w' A' (bindsL l) ∧ ∀ c o, A' = some ⟨c, o, none⟩ → w.heap.size ≤ c) ∧ Ext w w' := by
  obtain ⟨i0, hi, hz0, hz1, hz2⟩ := info_parts str_infoU
  have HK := hide h
  have Htk := hide (fun k (hk : k < l.length) => bindsL_take l hk)
  have Hln := hide (fun k => bindsL_len (l.take k))
  have HR : Hid (bindsL (l.take l.length) = bindsL l) := hide (by rw [List.take_length])
  generalize bindsL l = R at *
  clear h
  go_enter Try.func30, Try.ntmps30
  go_wp2
  go_loopw [3, 8] (fun v i wr => ∃ k : Nat, k ≤ l.length ∧ i = .int .i64 k ∧ Hid (Ext w wr) ∧ Hid (wr.ownsRow w.heap.size 9 1 v (bindsL (l.take k)).length ((bindsL (l.take k)).map encStr))) (fun _ i _ => l.length - (intOf i).toNat)
  case atStart => exact ⟨0, Nat.zero_le _, rfl, hide (Ext.refl _), hide (World.ownsRow_nil _ _ _ _)⟩
  case round =>
    obtain ⟨k, hk, rfl, HX, HO⟩ := hrel
    by_cases hlt : k < l.length
    · have hlt' : (k : Int) < (l.length : Int) := by omega
      have hk0 : (0 : Int) ≤ (k : Int) := by omega
      obtain ⟨b, o, rfl, hb, q0, q1, q2, q3, q4⟩ := (HK.out.ext HX.out).at_ hlt
      have Hst := hide (Htk.out k hlt)
      have hol : (bindsL (l.take k)).length ≤ k := by have := Hln.out k; rw [List.length_take] at this; omega
      generalize bindsL (l.take k) = L at *
      generalize l[k]'hlt = c at *
      cases hc : (c.kind == 31)
      · rw [hc] at Hst
        go_wp2
        go_roundw
        case rel => exact ⟨k + 1, hlt, by go_num, hide (HX.out.alloc _), hide (by rw [Hst.out]; simpa using own_extB HO.out ((Ext.refl _).alloc _))⟩
        case measure => simp [intOf]; omega
      · rw [hc] at Hst
        go_wp2_with (at_builtin; refine wpList_append_row _ rfl _ _ 51 rfl w.heap.size 9 i0 _ 1 16 Try.underlying51 hi hz0 hz1 hz2 rfl (by decide) u3 L.length (L.map encStr) rfl (own_extB HO.out (((Ext.refl _).alloc _).alloc _)) _ 1 1 [encStr c.text] rfl ?c2 ?c3 ?c4 ?c5 ?c6 ?_)
        case c2 => exact Strs.boxedU _ (at_newB _ _ _ (by simp))
        case c3 => first | rfl | (intro y hy; simp at hy; subst hy; rfl)
        case c4 => unfold maxLen; omega
        case c5 => omega
        case c6 => have := HX.out.size; simp; omega
        intro v4 w4 hown4 hg4 _
        have X4 := hide (Ext.appU ((HX.out.alloc _).alloc _) hg4 (own_extB HO.out (((Ext.refl _).alloc _).alloc _)) (Nat.le_refl _))
        have O4 := hide hown4
        clear hown4 hg4
        go_wp2
        go_roundw
        case rel => exact ⟨k + 1, hlt, by go_num, X4, hide (by rw [Hst.out]; simpa using O4.out)⟩
        case measure => simp [intOf]; omega
    · have hge : ¬ (k : Int) < (l.length : Int) := by omega
      have hkl : k = l.length := by omega
      rw [hkl, HR.out] at HO
      obtain ⟨A5, c5, rfl, p1, p2, p3, p4⟩ := Strs.of_own HO.out
      have P3 := hide p3
      have P4 := hide p4
      clear p3 p4 hkl
      go_wp2
      go_ret
      exact ⟨⟨A5, c5, rfl, p1, p2, P3.out, fun c o e => (P4.out c o e).1⟩, HX.out⟩

set_option maxRecDepth 10000 in
set_option maxHeartbeats 1000000 in
theorem r_binds14 (A : Option Addr) (cap : Nat) (l : List Tree) (w : World) (h : NodesIn w A l) (hl : l.length ≤ 100000) :
    Calls Try.prog 31 #[.slice A l.length cap] w fun e w' => (∃ A' cap', e = .returned (.slice A' (bindsL l).length cap') ∧ (bindsL l).length ≤ cap' ∧ cap' ≤ 9223372036854775807 ∧ Strs w' A' (bindsL l) ∧ ∀ c o, A' = some ⟨c, o, none⟩ → w.heap.size ≤ c) ∧ Ext w w' := by
  obtain ⟨i0, hi, hz0, hz1, hz2⟩ := info_parts str_infoU
  have HK := hide h
  have Htk := hide (fun k (hk : k < l.length) => bindsL_take l hk)
  have Hln := hide (fun k => bindsL_len (l.take k))
  have HR : Hid (bindsL (l.take l.length) = bindsL l) := hide (by rw [List.take_length])
  generalize bindsL l = R at *
  clear h
  go_enter Try.func31, Try.ntmps31
  go_wp2
  go_loopw [3, 4] (fun v i wr => ∃ k : Nat, k ≤ l.length ∧ i = .int .i64 k ∧ Hid (Ext w wr) ∧ Hid (wr.ownsRow w.heap.size 9 1 v (bindsL (l.take k)).length ((bindsL (l.take k)).map encStr))) (fun _ i _ => l.length - (intOf i).toNat)
  case atStart => exact ⟨0, Nat.zero_le _, rfl, hide (Ext.refl _), hide (World.ownsRow_nil _ _ _ _)⟩
  case round =>
    obtain ⟨k, hk, rfl, HX, HO⟩ := hrel
    by_cases hlt : k < l.length
    · have hlt' : (k : Int) < (l.length : Int) := by omega
      have hk0 : (0 : Int) ≤ (k : Int) := by omega
      obtain ⟨b, o, rfl, hb, q0, q1, q2, q3, q4⟩ := (HK.out.ext HX.out).at_ hlt
      have Hst := hide (Htk.out k hlt)
      have hol : (bindsL (l.take k)).length ≤ k := by have := Hln.out k; rw [List.length_take] at this; omega
      generalize bindsL (l.take k) = L at *
      generalize l[k]'hlt = c at *
      cases hc : (c.kind == 31)
      · rw [hc] at Hst
        go_wp2
        go_roundw
        case rel => exact ⟨k + 1, hlt, by go_num, HX, hide (by rw [Hst.out]; simpa using HO.out)⟩
        case measure => simp [intOf]; omega
      · rw [hc] at Hst
        go_wp2_with (at_builtin; refine wpList_append_row _ rfl _ _ 51 rfl w.heap.size 9 i0 _ 1 16 Try.underlying51 hi hz0 hz1 hz2 rfl (by decide) u3 L.length (L.map encStr) rfl (own_extB HO.out ((Ext.refl _).alloc _)) _ 1 1 [encStr c.text] rfl ?c2 ?c3 ?c4 ?c5 ?c6 ?_)
        case c2 => exact Strs.boxedU _ (at_newB _ _ _ (by simp))
        case c3 => first | rfl | (intro y hy; simp at hy; subst hy; rfl)
        case c4 => unfold maxLen; omega
        case c5 => omega
        case c6 => have := HX.out.size; simp; omega
        intro v4 w4 hown4 hg4 _
        have X4 := hide (Ext.appU (HX.out.alloc _) hg4 (own_extB HO.out ((Ext.refl _).alloc _)) (Nat.le_refl _))
        have O4 := hide hown4
        clear hown4 hg4
        go_wp2
        go_roundw
        case rel => exact ⟨k + 1, hlt, by go_num, X4, hide (by rw [Hst.out]; simpa using O4.out)⟩
        case measure => simp [intOf]; omega
    · have hge : ¬ (k : Int) < (l.length : Int) := by omega
      have hkl : k = l.length := by omega
      rw [hkl, HR.out] at HO
      obtain ⟨A5, c5, rfl, p1, p2, p3, p4⟩ := Strs.of_own HO.out
      have P3 := hide p3
      have P4 := hide p4
      clear p3 p4 hkl
      go_wp2
      go_ret
      exact ⟨⟨A5, c5, rfl, p1, p2, P3.out, fun c o e => (P4.out c o e).1⟩, HX.out⟩

end Go.Proofs.Ytnbnhchgkbbiiaa
