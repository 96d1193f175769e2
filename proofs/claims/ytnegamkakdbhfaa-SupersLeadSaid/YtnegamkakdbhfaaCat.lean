/- Contracts on slices.Grow from nil, and slices.Concat of two, of texts. -/
import Derived.Test.YtnegamkakdbhfaaSeek
import Derived.Lib.AppendZeros
import Derived.WalkSpells
import Derived.WalkLawsBesides
namespace Go.Proofs.Ytnegamkakdbhfaa
open Go.RowKit Go.Sort

theorem str_infoB : (Try.prog.info? 9).map (fun i => (i.zero, i.size, i.bytes)) = some (some (.string ⟨#[]⟩), 1, 16) := by kernel_rfl
theorem own_extB {w w' : World} {base : Nat} {e : TypeId} {size : Nat} {v : Value} {n : Nat} {xs : List Value} (h : w.ownsRow base e size v n xs) (k : Ext w w') : w'.ownsRow base e size v n xs := by
  have hb := k.below
  cases hv : v.ownBlock with
  | none => exact h.kept (row := none) ⟨hb.os, hb.tape, hb.output, k.size, fun j hj _ => k.heap hj⟩ (.inl hv)
  | some g => exact h.kept (row := none) ⟨hb.os, hb.tape, hb.output, k.size, fun j hj _ => k.heap hj⟩ (.inr (by rw [hv]; simp))

set_option maxRecDepth 10000 in
set_option maxHeartbeats 1000000 in
theorem grow_s (n : Nat) (w : World) (hn : n ≤ 100000) :
    Calls Try.prog 99 #[.slice none 0 0, .int .i64 n] w fun e w' => (∃ v, e = .returned v ∧ w'.ownsRow w.heap.size 9 1 v 0 []) ∧ Ext w w' := by
  obtain ⟨i0, hi, hz0, hz1, hz2⟩ := info_parts str_infoB
  have h1 : ¬ ((n : Int) < 0) := by omega
  have h3 : wrap64 ((n : Int) - 0) = (n : Int) := by unfold wrap64; omega
  rcases Nat.eq_zero_or_pos n with h0 | h0
  · subst h0
    go_enter Try.func99, Try.ntmps99
    go_wp2
    go_ret
    exact ⟨⟨_, rfl, World.ownsRow_nil _ _ _ _⟩, (by repeat (first | exact Ext.refl _ | exact Ext.pre (by simp) | exact Ext.alloc (by assumption) _ | refine Ext.alloc ?_ _ |  refine Ext.more ?_ _ _ | refine Ext.drew ?_ | refine Ext.drewN ?_ _))⟩
  · have h4 : (n : Int) > 0 := by omega
    have h5 : ¬ ((n : Int) < 0) := by omega
    have h6 : (n : Int) ≤ 100000 := by omega
    have hc := grownCap_ge w n 0 9
    have hm := grownCap_le_maxLen w n 0 9 (by unfold maxLen; omega)
    have hr := Lib.run_append_nil_zeros (P := Try.prog) w 65 3 65 9 i0 _ .i64 .i64 Try.underlying65 Try.underlying3 hi hz0 n h0 (by rw [hz1]; omega) (by omega) (by rw [hz2]; omega)
    have hsz : (Builtin.zeroCells (Value.string ⟨#[]⟩).cells n ++ Builtin.zeroCells (Value.string ⟨#[]⟩).cells (grownCap w n 0 9 - n)).size = grownCap w n 0 9 * 1 := by
      rw [Array.size_append, size_zeroCells, size_zeroCells]
      show n * 1 + (grownCap w n 0 9 - n) * 1 = _
      omega
    have hown := World.ownsRow_made (base := w.heap.size) (e := 9) (size := 1) w.drew (Builtin.zeroCells (Value.string ⟨#[]⟩).cells n ++ Builtin.zeroCells (Value.string ⟨#[]⟩).cells (grownCap w n 0 9 - n)) (grownCap w n 0 9) (Nat.le_refl _) hm hsz
    generalize Builtin.zeroCells (Value.string ⟨#[]⟩).cells n ++ Builtin.zeroCells (Value.string ⟨#[]⟩).cells (grownCap w n 0 9 - n) = Z at *
    have Hown := hide hown
    have Hr := hide hr
    have hcI : (0 : Int) ≤ (grownCap w n 0 9 : Nat) := by omega
    clear hown hr hm hsz hc hcI
    generalize grownCap w n 0 9 = CC at *
    go_enter Try.func99, Try.ntmps99
    go_wp2_with (at_builtin; refine Lib.wpList_append_run _ rfl _ _ _ _ rfl _ _ rfl rfl _ _ Hr.out ?_)
    go_ret
    exact ⟨⟨_, rfl, Hown.out⟩, (by repeat (first | exact Ext.refl _ | exact Ext.pre (by simp) | exact Ext.alloc (by assumption) _ | refine Ext.alloc ?_ _ |  refine Ext.more ?_ _ _ | refine Ext.drew ?_ | refine Ext.drewN ?_ _))⟩

theorem grow_m (m : Int) (w : World) (h0 : 0 ≤ m) (hn : m ≤ 100000) :
    Calls Try.prog 99 #[.slice none 0 0, .int .i64 m] w fun e w' => (∃ v, e = .returned v ∧ w'.ownsRow w.heap.size 9 1 v 0 []) ∧ Ext w w' := by
  obtain ⟨n, rfl⟩ := Int.eq_ofNat_of_zero_le h0
  exact grow_s n w (by omega)

set_option maxRecDepth 10000 in
set_option maxHeartbeats 2000000 in
theorem concat2 (b c1 c2 : Nat) (A1 A2 : Option Addr) (l1 l2 : List Str) (t : TypeId) (w : World) (hb : w.heap[b]? = some (.cells #[.slice A1 l1.length c1, .slice A2 l2.length c2] t (0, 0)))
    (h1 : Strs w A1 l1) (h2 : Strs w A2 l2) (hlen : l1.length + l2.length ≤ 100000) :
    Calls Try.prog 94 #[.slice (some ⟨b, 0, none⟩) 2 2] w fun e w' => (∃ A cap, e = .returned (.slice A (l1 ++ l2).length cap) ∧ (l1 ++ l2).length ≤ cap ∧ cap ≤ 9223372036854775807 ∧ Strs w' A (l1 ++ l2) ∧ ∀ c o, A = some ⟨c, o, none⟩ → w.heap.size ≤ c) ∧ Ext w w' := by
  obtain ⟨i0, hi, hz0, hz1, hz2⟩ := info_parts str_infoB
  have H1 := hide h1
  have H2 := hide h2
  have hbl := lt_of_obj hb
  have q0 : w.cell? ⟨b, 0, none⟩ = some (.slice A1 l1.length c1) := by simp [World.cell?, hb]
  have q1 : w.cell? ⟨b, 1, none⟩ = some (.slice A2 l2.length c2) := by simp [World.cell?, hb]
  have a1 : ((l1.length : Int)) ≤ 100000 := by omega
  have a2 : ((l2.length : Int)) ≤ 100000 := by omega
  have a3 : (0 : Int) ≤ ((l1.length : Int)) := by omega
  have a4 : (0 : Int) ≤ ((l2.length : Int)) := by omega
  have a5 : ¬ ((l1.length : Int)) < 0 := by omega
  have a6 : ¬ ((l1.length : Int) + (l2.length : Int)) < 0 := by omega
  clear h1 h2 hb
  go_enter Try.func94, Try.ntmps94
  go_wp2
  go_loop [3, 11] (fun s i => (i = .int .i64 0 ∧ s = .int .i64 0) ∨ (i = .int .i64 1 ∧ s = .int .i64 l1.length) ∨ (i = .int .i64 2 ∧ s = .int .i64 ((l1.length : Int) + (l2.length : Int)))) (fun _ i => 2 - (intOf i).toNat)
  case atStart => exact .inl ⟨rfl, rfl⟩
  case round =>
    rcases hrel with ⟨rfl, rfl⟩ | ⟨rfl, rfl⟩ | ⟨rfl, rfl⟩
    · go_wp2
      go_round
      case rel => exact .inr (.inl ⟨rfl, rfl⟩)
      case measure => simp [intOf]
    · go_wp2
      go_round
      case rel => exact .inr (.inr ⟨rfl, rfl⟩)
      case measure => simp [intOf]
    · have Hg := hide (grow_m ((l1.length : Int) + (l2.length : Int)) w (by omega) (by omega))
      go_wp2_with fail
      refine Hg.out.mono ?_
      rintro e w1 ⟨⟨v1, rfl, ho1⟩, l3, d3, rfl⟩
      have Ho1 := hide ho1
      clear ho1 Hg
      go_wp2
      go_loopw [6, 27] (fun v i wr => Hid (Ext w wr) ∧ ((i = .int .i64 0 ∧ Hid (wr.ownsRow w.heap.size 9 1 v 0 [])) ∨ (i = .int .i64 1 ∧ Hid (wr.ownsRow w.heap.size 9 1 v l1.length (l1.map encStr))) ∨ (i = .int .i64 2 ∧ Hid (wr.ownsRow w.heap.size 9 1 v (l1 ++ l2).length ((l1 ++ l2).map encStr))))) (fun _ i _ => 2 - (intOf i).toNat)
      case atStart => exact ⟨hide (by repeat (first | exact Ext.refl _ | exact Ext.pre (by simp) | exact Ext.alloc (by assumption) _ | refine Ext.alloc ?_ _ |  refine Ext.more ?_ _ _ | refine Ext.drew ?_ | refine Ext.drewN ?_ _)), .inl ⟨rfl, Ho1⟩⟩
      case round =>
        obtain ⟨HX, hh⟩ := hrel
        have r0 : wr.cell? ⟨b, 0, none⟩ = some (.slice A1 l1.length c1) := (World.cell?_of_block (a := ⟨b, 0, none⟩) (HX.out.heap hbl)).trans q0
        have r1 : wr.cell? ⟨b, 1, none⟩ = some (.slice A2 l2.length c2) := (World.cell?_of_block (a := ⟨b, 1, none⟩) (HX.out.heap hbl)).trans q1
        rcases hh with ⟨rfl, HO⟩ | ⟨rfl, HO⟩ | ⟨rfl, HO⟩
        · go_wp2_with (at_builtin; refine wpList_append_row _ rfl _ _ 65 rfl w.heap.size 9 i0 _ 1 16 Try.underlying65 hi hz0 hz1 hz2 rfl (by decide) u6 0 [] rfl HO.out A1 l1.length c1 (l1.map encStr) rfl ?c2 ?c3 ?c4 ?c5 ?c6 ?_)
          case c2 => exact H1.out.ext HX.out
          case c3 => exact one_strs _
          case c4 => unfold maxLen; omega
          case c5 => omega
          case c6 => exact HX.out.size
          intro v3 w4 hown3 hg3 _
          have He3 := hide (Ext.app HX.out hg3 HO.out (Nat.le_refl _))
          have Ho3 := hide hown3
          clear hown3 hg3
          go_wp2
          go_roundw
          case rel => exact ⟨He3, .inr (.inl ⟨rfl, Ho3⟩)⟩
          case measure => simp [intOf]
        · go_wp2_with (at_builtin; refine wpList_append_row _ rfl _ _ 65 rfl w.heap.size 9 i0 _ 1 16 Try.underlying65 hi hz0 hz1 hz2 rfl (by decide) u6 l1.length (l1.map encStr) rfl HO.out A2 l2.length c2 (l2.map encStr) rfl ?c2 ?c3 ?c4 ?c5 ?c6 ?_)
          case c2 => exact H2.out.ext HX.out
          case c3 => exact one_strs _
          case c4 => unfold maxLen; omega
          case c5 => omega
          case c6 => exact HX.out.size
          intro v3 w4 hown3 hg3 _
          have He3 := hide (Ext.app HX.out hg3 HO.out (Nat.le_refl _))
          rw [← List.map_append, ← List.length_append] at hown3
          have Ho3 := hide hown3
          clear hown3 hg3
          go_wp2
          go_roundw
          case rel => exact ⟨He3, .inr (.inr ⟨rfl, Ho3⟩)⟩
          case measure => simp [intOf]
        · have HO2 := hide (Strs.of_own HO.out)
          clear HO
          obtain ⟨A, cap, rfl, g1, g2, g3, g4⟩ := HO2.out
          have G4 := hide g4
          clear g4
          have G3 := hide g3
          have HLe : ∃ X, X = l1 ++ l2 := ⟨_, rfl⟩
          obtain ⟨X, hX⟩ := HLe
          rw [← hX] at g1 G3
          have HXe := hide hX
          clear hX g3 HO2
          go_wp2
          go_ret
          exact ⟨⟨A, cap, rfl, by rw [← HXe.out]; exact g1, g2, by rw [← HXe.out]; exact G3.out, fun c o h => (G4.out c o h).1⟩, HX.out⟩

end Go.Proofs.Ytnegamkakdbhfaa
