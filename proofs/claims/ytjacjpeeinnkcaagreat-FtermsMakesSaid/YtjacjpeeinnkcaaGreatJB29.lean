/- Contracts on slices.Grow from nil, and slices.Concat of two, of texts. -/
import Derived.Test.YtjacjpeeinnkcaaGreatJB28
import Derived.Lib.AppendZeros
import Derived.WalkSpells
import Derived.WalkLawsBesides
/- Contracts on slices.Grow from nil, and slices.Concat of two, of texts. -/
namespace Go.Proofs.YtjacjpeeinnkcaaGreat
open Go.RowKit Go.Sort

theorem str_infoB : (Tryz.prog.info? 9).map (fun i => (i.zero, i.size, i.bytes)) = some (some (.string ⟨#[]⟩), 1, 16) := by kernel_rfl

set_option maxRecDepth 10000 in
set_option maxHeartbeats 1000000 in
theorem grow_s (n : Nat) (w : World) (hn : n ≤ 100000000) :
    Calls Tryz.prog 258 #[.slice none 0 0, .int .i64 n] w fun e w' => (∃ v, e = .returned v ∧ w'.ownsRow w.heap.size 9 1 v 0 []) ∧ Ext w w' := by
  obtain ⟨i0, hi, hz0, hz1, hz2⟩ := info_parts str_infoB
  have h1 : ¬ ((n : Int) < 0) := by omega
  have h3 : wrap64 ((n : Int) - 0) = (n : Int) := by unfold wrap64; omega
  rcases Nat.eq_zero_or_pos n with h0 | h0
  · subst h0
    go_enter Tryz.func258, Tryz.ntmps258
    go_wp2
    go_ret
    exact ⟨⟨_, rfl, World.ownsRow_nil _ _ _ _⟩, (by repeat (first | exact Ext.refl _ | exact Ext.pre (by simp) | exact Ext.alloc (by assumption) _ | refine Ext.alloc ?_ _ |  refine Ext.more ?_ _ _ | refine Ext.drew ?_ | refine Ext.drewN ?_ _))⟩
  · have h4 : (n : Int) > 0 := by omega
    have h5 : ¬ ((n : Int) < 0) := by omega
    have h6 : (n : Int) ≤ 100000000 := by omega
    have hc := grownCap_ge w n 0 9
    have hm := grownCap_le_maxLen w n 0 9 (by unfold maxLen; omega)
    have hr := Lib.run_append_nil_zeros (P := Tryz.prog) w 22 3 22 9 i0 _ .i64 .i64 Tryz.underlying22 Tryz.underlying3 hi hz0 n h0 (by rw [hz1]; omega) (by omega) (by rw [hz2]; omega)
    have hsz : (Builtin.zeroCells (Value.string ⟨#[]⟩).cells n ++ Builtin.zeroCells (Value.string ⟨#[]⟩).cells (grownCap w n 0 9 - n)).size = grownCap w n 0 9 * 1 := by
      rw [Array.size_append, size_zeroCells, size_zeroCells]
      show n * 1 + (grownCap w n 0 9 - n) * 1 = _
      omega
    have hown := World.ownsRow_made (base := w.heap.size) (e := 9) (size := 1) w.drew (Builtin.zeroCells (Value.string ⟨#[]⟩).cells n ++ Builtin.zeroCells (Value.string ⟨#[]⟩).cells (grownCap w n 0 9 - n)) (grownCap w n 0 9) (Nat.le_refl _) hm hsz
    generalize Builtin.zeroCells (Value.string ⟨#[]⟩).cells n ++ Builtin.zeroCells (Value.string ⟨#[]⟩).cells (grownCap w n 0 9 - n) = Z at *
    have Hown := hide hown
    have Hr := hide hr
    have hcI : (0 : Int) ≤ (grownCap w n 0 9 : Nat) := by omega
    clear hown hr hm hsz hc hcI
    generalize grownCap w n 0 9 = CC at *
    go_enter Tryz.func258, Tryz.ntmps258
    go_wp2_with (at_builtin; refine Lib.wpList_append_run _ rfl _ _ _ _ rfl _ _ rfl rfl _ _ Hr.out ?_)
    go_ret
    exact ⟨⟨_, rfl, Hown.out⟩, (by repeat (first | exact Ext.refl _ | exact Ext.pre (by simp) | exact Ext.alloc (by assumption) _ | refine Ext.alloc ?_ _ |  refine Ext.more ?_ _ _ | refine Ext.drew ?_ | refine Ext.drewN ?_ _))⟩

theorem grow_m (m : Int) (w : World) (h0 : 0 ≤ m) (hn : m ≤ 100000000) :
    Calls Tryz.prog 258 #[.slice none 0 0, .int .i64 m] w fun e w' => (∃ v, e = .returned v ∧ w'.ownsRow w.heap.size 9 1 v 0 []) ∧ Ext w w' := by
  obtain ⟨n, rfl⟩ := Int.eq_ofNat_of_zero_le h0
  exact grow_s n w (by omega)

set_option maxRecDepth 10000 in
set_option maxHeartbeats 2000000 in
theorem concat2 (b c1 c2 : Nat) (A1 A2 : Option Addr) (l1 l2 : List Str) (t : TypeId) (w : World) (hb : w.heap[b]? = some (.cells #[.slice A1 l1.length c1, .slice A2 l2.length c2] t (0, 0)))
    (h1 : Strs w A1 l1) (h2 : Strs w A2 l2) (hlen : l1.length + l2.length ≤ 100000000) :
    Calls Tryz.prog 190 #[.slice (some ⟨b, 0, none⟩) 2 2] w fun e w' => (∃ A cap, e = .returned (.slice A (l1 ++ l2).length cap) ∧ (l1 ++ l2).length ≤ cap ∧ cap ≤ 9223372036854775807 ∧ Strs w' A (l1 ++ l2) ∧ ∀ c o, A = some ⟨c, o, none⟩ → w.heap.size ≤ c) ∧ Ext w w' := by
  obtain ⟨i0, hi, hz0, hz1, hz2⟩ := info_parts str_infoB
  have H1 := hide h1
  have H2 := hide h2
  have hbl := lt_of_obj hb
  have q0 : w.cell? ⟨b, 0, none⟩ = some (.slice A1 l1.length c1) := by simp [World.cell?, hb]
  have q1 : w.cell? ⟨b, 1, none⟩ = some (.slice A2 l2.length c2) := by simp [World.cell?, hb]
  have a1 : ((l1.length : Int)) ≤ 100000000 := by omega
  have a2 : ((l2.length : Int)) ≤ 100000000 := by omega
  have a3 : (0 : Int) ≤ ((l1.length : Int)) := by omega
  have a4 : (0 : Int) ≤ ((l2.length : Int)) := by omega
  have a5 : ¬ ((l1.length : Int)) < 0 := by omega
  have a6 : ¬ ((l1.length : Int) + (l2.length : Int)) < 0 := by omega
  clear h1 h2 hb
  go_enter Tryz.func190, Tryz.ntmps190
  go_wp2
  go_loop [3, 11] (fun s i => (i = .int .i64 0 ∧ s = .int .i64 0) ∨ (i = .int .i64 1 ∧ s = .int .i64 l1.length) ∨ (i = .int .i64 2 ∧ s = .int .i64 ((l1.length : Int) + (l2.length : Int)))) (fun _ i => 2 - (intOf i).toNat)
  case atStart => exact .inl ⟨rfl, rfl⟩
  case round =>
    rcases hrel with ⟨rfl, rfl⟩ | ⟨rfl, rfl⟩ | ⟨rfl, rfl⟩
    · go_wp2
      go_round
      case rel => exact .inr (.inl ⟨rfl, rfl⟩)
      case measure => simp [intOf]
    · go_wp2
      go_round
      case rel => exact .inr (.inr ⟨rfl, rfl⟩)
      case measure => simp [intOf]
    · have Hg := hide (grow_m ((l1.length : Int) + (l2.length : Int)) w (by omega) (by omega))
      go_wp2_with fail
      refine Hg.out.mono ?_
      rintro e w1 ⟨⟨v1, rfl, ho1⟩, l3, d3, rfl⟩
      have Ho1 := hide ho1
      clear ho1 Hg
      go_wp2
      go_loopw [6, 27] (fun v i wr => Hid (Ext w wr) ∧ ((i = .int .i64 0 ∧ Hid (wr.ownsRow w.heap.size 9 1 v 0 [])) ∨ (i = .int .i64 1 ∧ Hid (wr.ownsRow w.heap.size 9 1 v l1.length (l1.map encStr))) ∨ (i = .int .i64 2 ∧ Hid (wr.ownsRow w.heap.size 9 1 v (l1 ++ l2).length ((l1 ++ l2).map encStr))))) (fun _ i _ => 2 - (intOf i).toNat)
      case atStart => exact ⟨hide (by repeat (first | exact Ext.refl _ | exact Ext.pre (by simp) | exact Ext.alloc (by assumption) _ | refine Ext.alloc ?_ _ |  refine Ext.more ?_ _ _ | refine Ext.drew ?_ | refine Ext.drewN ?_ _)), .inl ⟨rfl, Ho1⟩⟩
      case round =>
        obtain ⟨HX, hh⟩ := hrel
        have r0 : wr.cell? ⟨b, 0, none⟩ = some (.slice A1 l1.length c1) := (World.cell?_of_block (a := ⟨b, 0, none⟩) (HX.out.heap hbl)).trans q0
        have r1 : wr.cell? ⟨b, 1, none⟩ = some (.slice A2 l2.length c2) := (World.cell?_of_block (a := ⟨b, 1, none⟩) (HX.out.heap hbl)).trans q1
        rcases hh with ⟨rfl, HO⟩ | ⟨rfl, HO⟩ | ⟨rfl, HO⟩
        · go_wp2_with (at_builtin; refine wpList_append_row _ rfl _ _ 22 rfl w.heap.size 9 i0 _ 1 16 Tryz.underlying22 hi hz0 hz1 hz2 rfl (by decide) u6 0 [] rfl HO.out A1 l1.length c1 (l1.map encStr) rfl ?c2 ?c3 ?c4 ?c5 ?c6 ?_)
          case c2 => exact H1.out.ext HX.out
          case c3 => exact one_strs _
          case c4 => unfold maxLen; omega
          case c5 => omega
          case c6 => exact HX.out.size
          intro v3 w4 hown3 hg3 _
          have He3 := hide (Ext.app HX.out hg3 HO.out (Nat.le_refl _))
          have Ho3 := hide hown3
          clear hown3 hg3
          go_wp2
          go_roundw
          case rel => exact ⟨He3, .inr (.inl ⟨rfl, Ho3⟩)⟩
          case measure => simp [intOf]
        · go_wp2_with (at_builtin; refine wpList_append_row _ rfl _ _ 22 rfl w.heap.size 9 i0 _ 1 16 Tryz.underlying22 hi hz0 hz1 hz2 rfl (by decide) u6 l1.length (l1.map encStr) rfl HO.out A2 l2.length c2 (l2.map encStr) rfl ?c2 ?c3 ?c4 ?c5 ?c6 ?_)
          case c2 => exact H2.out.ext HX.out
          case c3 => exact one_strs _
          case c4 => unfold maxLen; omega
          case c5 => omega
          case c6 => exact HX.out.size
          intro v3 w4 hown3 hg3 _
          have He3 := hide (Ext.app HX.out hg3 HO.out (Nat.le_refl _))
          rw [← List.map_append, ← List.length_append] at hown3
          have Ho3 := hide hown3
          clear hown3 hg3
          go_wp2
          go_roundw
          case rel => exact ⟨He3, .inr (.inr ⟨rfl, Ho3⟩)⟩
          case measure => simp [intOf]
        · have HO2 := hide (Strs.of_own HO.out)
          clear HO
          obtain ⟨A, cap, rfl, g1, g2, g3, g4⟩ := HO2.out
          have G4 := hide g4
          clear g4
          have G3 := hide g3
          have HLe : ∃ X, X = l1 ++ l2 := ⟨_, rfl⟩
          obtain ⟨X, hX⟩ := HLe
          rw [← hX] at g1 G3
          have HXe := hide hX
          clear hX g3 HO2
          go_wp2
          go_ret
          exact ⟨⟨A, cap, rfl, by rw [← HXe.out]; exact g1, g2, by rw [← HXe.out]; exact G3.out, fun c o h => (G4.out c o h).1⟩, HX.out⟩

end Go.Proofs.YtjacjpeeinnkcaaGreat

/- Contracts: the text of one type, of one variable, as terms' texts ask for it. -/
namespace Go.Proofs.YtjacjpeeinnkcaaGreat
open Go.RowKit Go.Shelf

/-- A type's text within a term's. -/
noncomputable def tyS (x : Ty) : Str := polyS ⟨[], none, 0, x⟩

set_option maxRecDepth 10000 in
set_option maxHeartbeats 2000000 in
theorem m_typ (x : Ty) (w : World) (h : TyIn w x) (ok : okI x = true) (hsz : x.size ≤ 20000) : Calls Tryz.prog 254 #[tyV x] w fun e w' => e = .returned (encStr (tyS x)) ∧ Ext w w' := by
  have HB := hide (TBox.new w x)
  have X0 : Hid (Ext w (w.alloc (.cells #[encStr x.con, .int .i64 x.var, .slice x.A x.args.length x.cap] 55))) := hide ((Ext.refl w).alloc _)
  have HP : Hid (PoIn w ⟨[], none, 0, x⟩) := hide ⟨Nat.le_refl _, by show 0 ≤ 9223372036854775807; omega, RowOf.nil _ _ _, h⟩
  have HT := hide (fun w' (e : Ext w w') => hide (f_Text0 ⟨[], none, 0, x⟩ w' (HP.out.ext e) ok hsz rfl))
  have HR : Hid (polyS ⟨[], none, 0, x⟩ = tyS x) := hide rfl
  rw [HR.out] at HT
  have c0 := HB.out.c0
  have c1 := HB.out.c1
  have c2 := HB.out.c2
  clear h ok HR
  generalize tyS x = R at *
  unfold poV at HT
  simp only [List.length_nil] at HT
  unfold tyV
  go_enter Tryz.func254, Tryz.ntmps254
  go_wp2_with fail
  refine (HT.out _ X0.out).out.mono ?_
  rintro e w2 ⟨rfl, hx⟩
  go_wp2
  go_ret
  exact ⟨rfl, X0.out.trans hx⟩

set_option maxRecDepth 10000 in
set_option maxHeartbeats 2000000 in
theorem m_vs1 (v : Int) (w : World) (h0 : -9223372036854775808 ≤ v) (h1 : v ≤ 9223372036854775807) : Calls Tryz.prog 256 #[.int .i64 v] w fun e w' => e = .returned (encStr (tyS (varT v))) ∧ Ext w w' := by
  have HT := hide (fun w' => hide (m_typ (varT v) w' (varT_in _ v) (varT_ok h0 h1) (by rw [varT_size]; decide)))
  generalize tyS (varT v) = R at *
  unfold tyV varT at HT
  simp only [Ty.con, Ty.var, Ty.A, Ty.cap, Ty.args, List.length_nil, encStr] at HT
  go_enter Tryz.func256, Tryz.ntmps256
  go_wp2_with fail
  refine (HT.out _).out.mono ?_
  rintro e w2 ⟨rfl, hx⟩
  go_wp2
  go_ret
  exact ⟨rfl, hx⟩

set_option maxRecDepth 10000 in
set_option maxHeartbeats 2000000 in
theorem s_join1 (g cap : Nat) (s sep : Str) (w : World) (h : w.heap[g]? = some (.cells #[encStr s] 9 (0, 0))) : Calls Tryz.prog 215 #[.slice (some ⟨g, 0, none⟩) 1 cap, encStr sep] w fun e w' => e = .returned (encStr s) ∧ w' = w := by
  have k0 := bytes_block h 0
  simp only [List.getElem?_toArray, List.getElem?_cons_zero] at k0
  clear h
  go_enter Tryz.func215, Tryz.ntmps215
  go_wp2
  go_ret
  exact ⟨rfl, rfl⟩

theorem make_str1 (W : World) : (Instr.makeSlice 22 (.int .i64 1) (.int .i64 1)).run Tryz.prog W = .ok (.slice (some ⟨W.heap.size, 0, none⟩) 1 1) (W.alloc (.cells #[.string ⟨#[]⟩] 9)) := by
  obtain ⟨i1, hj, hy0, hy1, hy2⟩ := info_parts str_infoB
  have hmk := run_make (P := Tryz.prog) W 22 9 i1 _ Tryz.underlying22 hj hy0 .i64 .i64 1 1 (by omega) (Int.le_refl _) (by rw [hy2]; omega) (by omega)
  have e : madeCells (Value.string ⟨#[]⟩).cells (Int.toNat 1 * 1) = #[.string ⟨#[]⟩] := by kernel_rfl
  rw [hy1, e] at hmk
  exact hmk

set_option maxRecDepth 10000 in
set_option maxHeartbeats 4000000 in
theorem j_types1 (A : Option Addr) (cap : Nat) (x : Ty) (s sep : Str) (w : World) (h : TysIn w A [x]) (hx : ∀ w', Ext w w' → Calls Tryz.prog 254 #[tyV x] w' fun e w'' => e = .returned (encStr s) ∧ Ext w' w'') :
    Calls Tryz.prog 253 #[.slice A 1 cap, encStr sep, .func (.func 254) #[] #[]] w fun e w' => e = .returned (encStr s) ∧ Ext w w' := by
  have hmk := make_str1 w
  obtain ⟨W1, hW1⟩ : ∃ W1, W1 = w.alloc (.cells #[.string ⟨#[]⟩] 9) := ⟨_, rfl⟩
  have X1 : Hid (Ext w W1) := hide (by rw [hW1]; exact (Ext.refl _).alloc _)
  have B1 : Hid (W1.heap[w.heap.size]? = some (.cells #[encStr []] 9 (0, 0))) := hide (by rw [hW1]; exact at_newB _ _ _ rfl)
  rw [← hW1] at hmk
  have HK := hide h
  have HX := hide hx
  clear h hx hW1
  go_enter Tryz.func253, Tryz.ntmps253
  go_wp2
  go_loopw [15] (fun i wr => ∃ k : Nat, k ≤ 1 ∧ i = .int .i64 k ∧ Hid (wr.heap[w.heap.size]? = some (.cells #[encStr (if k = 0 then [] else s)] 9 (0, 0))) ∧ Hid (Ext w wr)) (fun i _ => 1 - (intOf i).toNat)
  case atStart => exact ⟨0, by omega, rfl, B1, X1⟩
  case round =>
    obtain ⟨k, hk, rfl, HB, HXr⟩ := hrel
    by_cases hlt : k < 1
    · have hk0 : k = 0 := by omega
      subst hk0
      obtain ⟨b, o, hA, hb, q0, q1, q2⟩ := (HK.out.ext HXr.out).at_ (i := 0) (by simp)
      have z0 : o + 0 * 3 = o := by omega
      have hge0 : [x][0]'(by simp) = x := rfl
      rw [z0, hge0] at q0 q1 q2
      have hbl := lt_of_obj HB.out
      clear hge0 z0
      unfold tyV at HX
      rw [hA]
      clear hA
      go_wp2_with fail
      refine (HX.out _ (HXr.out.alloc _)).mono ?_
      rintro e w3 ⟨rfl, hx3⟩
      have X3 : Hid (Ext wr w3) := hide (((Ext.refl wr).alloc _).trans hx3)
      have C3 := hide ((X3.out.heap hbl).trans HB.out)
      have f0 := free_block C3.out 0
      have k0 := bytes_block C3.out 0
      simp only [List.getElem?_toArray, List.getElem?_cons_zero] at k0
      have HBn : Hid ((w3.setCell ⟨w.heap.size, 0, none⟩ (encStr s)).heap[w.heap.size]? = some (.cells #[encStr (if 1 = 0 then [] else s)] 9 (0, 0))) := hide (by have := blk_setCell C3.out 0 (encStr s); simpa using this)
      have HXn : Hid (Ext w (w3.setCell ⟨w.heap.size, 0, none⟩ (encStr s))) := hide ((HXr.out.trans X3.out).setCell (by simp) _)
      clear hx3
      go_wp2
      go_roundw
      case rel => exact ⟨1, Nat.le_refl _, by go_num, HBn, HXn⟩
      case measure => simp [intOf]
    · have hk1 : k = 1 := by omega
      subst hk1
      have HJ := hide (s_join1 w.heap.size 1 s sep wr (by have := HB.out; simpa using this))
      go_wp2_with fail
      refine HJ.out.mono ?_
      rintro e w3 ⟨rfl, rfl⟩
      go_wp2
      go_ret
      exact ⟨rfl, HXr.out⟩

set_option maxRecDepth 10000 in
set_option maxHeartbeats 4000000 in
theorem j_ints1 (A : Option Addr) (cap : Nat) (x : Int) (s sep : Str) (w : World) (h : Ints w A [x]) (hx : ∀ w', Ext w w' → Calls Tryz.prog 256 #[.int .i64 x] w' fun e w'' => e = .returned (encStr s) ∧ Ext w' w'') :
    Calls Tryz.prog 255 #[.slice A 1 cap, encStr sep, .func (.func 256) #[] #[]] w fun e w' => e = .returned (encStr s) ∧ Ext w w' := by
  have hmk := make_str1 w
  obtain ⟨W1, hW1⟩ : ∃ W1, W1 = w.alloc (.cells #[.string ⟨#[]⟩] 9) := ⟨_, rfl⟩
  have X1 : Hid (Ext w W1) := hide (by rw [hW1]; exact (Ext.refl _).alloc _)
  have B1 : Hid (W1.heap[w.heap.size]? = some (.cells #[encStr []] 9 (0, 0))) := hide (by rw [hW1]; exact at_newB _ _ _ rfl)
  rw [← hW1] at hmk
  have HK := hide h
  have HX := hide hx
  clear h hx hW1
  go_enter Tryz.func255, Tryz.ntmps255
  go_wp2
  go_loopw [15] (fun i wr => ∃ k : Nat, k ≤ 1 ∧ i = .int .i64 k ∧ Hid (wr.heap[w.heap.size]? = some (.cells #[encStr (if k = 0 then [] else s)] 9 (0, 0))) ∧ Hid (Ext w wr)) (fun i _ => 1 - (intOf i).toNat)
  case atStart => exact ⟨0, by omega, rfl, B1, X1⟩
  case round =>
    obtain ⟨k, hk, rfl, HB, HXr⟩ := hrel
    by_cases hlt : k < 1
    · have hk0 : k = 0 := by omega
      subst hk0
      obtain ⟨b, o, hA, hb, q0⟩ := Ints.at_ (Row.ext HK.out HXr.out) (i := 0) (by simp)
      have hge0 : [x][0]'(by simp) = x := rfl
      rw [hge0, Nat.add_zero] at q0
      have hbl := lt_of_obj HB.out
      clear hge0
      rw [hA]
      clear hA
      go_wp2_with fail
      refine (HX.out _ HXr.out).mono ?_
      rintro e w3 ⟨rfl, hx3⟩
      have X3 : Hid (Ext wr w3) := hide hx3
      have C3 := hide ((X3.out.heap hbl).trans HB.out)
      have f0 := free_block C3.out 0
      have k0 := bytes_block C3.out 0
      simp only [List.getElem?_toArray, List.getElem?_cons_zero] at k0
      have HBn : Hid ((w3.setCell ⟨w.heap.size, 0, none⟩ (encStr s)).heap[w.heap.size]? = some (.cells #[encStr (if 1 = 0 then [] else s)] 9 (0, 0))) := hide (by have := blk_setCell C3.out 0 (encStr s); simpa using this)
      have HXn : Hid (Ext w (w3.setCell ⟨w.heap.size, 0, none⟩ (encStr s))) := hide ((HXr.out.trans X3.out).setCell (by simp) _)
      clear hx3
      go_wp2
      go_roundw
      case rel => exact ⟨1, Nat.le_refl _, by go_num, HBn, HXn⟩
      case measure => simp [intOf]
    · have hk1 : k = 1 := by omega
      subst hk1
      have HJ := hide (s_join1 w.heap.size 1 s sep wr (by have := HB.out; simpa using this))
      go_wp2_with fail
      refine HJ.out.mono ?_
      rintro e w3 ⟨rfl, rfl⟩
      go_wp2
      go_ret
      exact ⟨rfl, HXr.out⟩

set_option maxRecDepth 10000 in
set_option maxHeartbeats 2000000 in
theorem m_typs1 (A : Option Addr) (cap : Nat) (l : List Ty) (h1 : 0 < l.length) (hl : l.length = 1) (w : World) (h : TysIn w A l) (ok : okI (l[0]'h1) = true) (hsz : (l[0]'h1).size ≤ 20000) :
    Calls Tryz.prog 183 #[.slice A l.length cap] w fun e w' => e = .returned (encStr (tyS (l[0]'h1))) ∧ Ext w w' := by
  obtain ⟨x, rfl⟩ : ∃ x, l = [x] := by
    match l, hl with
    | [x], _ => exact ⟨x, rfl⟩
  have ok : okI x = true := ok
  have hsz : x.size ≤ 20000 := hsz
  have HJ := hide (j_types1 A cap x (tyS x) [44, 32] w h (fun w' e => m_typ x w' ((h.args x (by simp)).ext e) ok hsz))
  show Calls Tryz.prog 183 #[.slice A 1 cap] w fun e w' => e = .returned (encStr (tyS x)) ∧ Ext w w'
  generalize tyS x = R at *
  clear h
  go_enter Tryz.func183, Tryz.ntmps183
  go_wp2_with fail
  refine HJ.out.mono ?_
  rintro e w3 ⟨rfl, hx⟩
  go_wp2
  go_ret
  exact ⟨rfl, hx⟩

set_option maxRecDepth 10000 in
set_option maxHeartbeats 2000000 in
theorem m_vs1s (A : Option Addr) (cap : Nat) (l : List Int) (h1 : 0 < l.length) (hl : l.length = 1) (w : World) (h : Ints w A l) (h0 : -9223372036854775808 ≤ l[0]'h1 ∧ l[0]'h1 ≤ 9223372036854775807) :
    Calls Tryz.prog 184 #[.slice A l.length cap] w fun e w' => e = .returned (encStr (tyS (varT (l[0]'h1)))) ∧ Ext w w' := by
  obtain ⟨x, rfl⟩ : ∃ x, l = [x] := by
    match l, hl with
    | [x], _ => exact ⟨x, rfl⟩
  have h0 : -9223372036854775808 ≤ x ∧ x ≤ 9223372036854775807 := h0
  have HJ := hide (j_ints1 A cap x (tyS (varT x)) [44, 32] w h (fun w' _ => m_vs1 x w' h0.1 h0.2))
  show Calls Tryz.prog 184 #[.slice A 1 cap] w fun e w' => e = .returned (encStr (tyS (varT x))) ∧ Ext w w'
  generalize tyS (varT x) = R at *
  clear h
  go_enter Tryz.func184, Tryz.ntmps184
  go_wp2_with fail
  refine HJ.out.mono ?_
  rintro e w3 ⟨rfl, hx⟩
  go_wp2
  go_ret
  exact ⟨rfl, hx⟩

end Go.Proofs.YtjacjpeeinnkcaaGreat

/- Contracts: a term's text: lambdas, terms for all types. (A program of ours has printed it.) -/
namespace Go.Proofs.YtjacjpeeinnkcaaGreat
open Go.RowKit Go.Shelf

set_option maxRecDepth 10000 in
set_option maxHeartbeats 8000000 in
theorem txt_lam (t : Tm) (hk : (t.kind == 3) = true) (h0 : 0 < t.kids.length) (h1 : 0 < t.types.length) (hl1 : t.types.length = 1) (ok : okI (t.types[0]'h1) = true) (hsz : (t.types[0]'h1).size ≤ 20000) (ty : Str) (hty : tyS (t.types[0]'h1) = ty) (sb : Str) (hb : TextsTo (t.kids[0]'h0) sb) (hl : t.name.length + ty.length + sb.length ≤ 1000000) : TextsTo t ((([40] : Str) ++ (((((([92] : Str) ++ t.name) ++ ([32, 58, 32] : Str)) ++ ty) ++ ([46, 32] : Str)) ++ sb)) ++ ([41] : Str)) := by
  intro w h
  obtain ⟨W, hW⟩ : ∃ W, W = w.alloc (.cells #[.int .i64 t.kind, .int .i64 t.n, encStr t.name, .slice t.V t.vars.length t.vc, .slice t.T t.types.length t.tc, .slice t.A t.kids.length t.cap] 31) := ⟨_, rfl⟩
  have HW := hide hW.symm
  have HB0 : Hid (TmBox W w.heap.size t) := hide (by rw [hW]; exact TmBox.new w t)
  have X0 : Hid (Ext w W) := hide (by rw [hW]; exact (Ext.refl w).alloc _)
  clear hW
  obtain ⟨c0, c1, c2, c3, c4, c5⟩ := HB0.out.cells
  have n1 : (t.kind == 1) = false := by simp at hk ⊢; omega
  have n2 : (t.kind == 2) = false := by simp at hk ⊢; omega
  have n14 : (t.kind == 14) = false := by simp at hk ⊢; omega
  have HK := hide h.all
  obtain ⟨b, o, hA, hbb, q0, q1, q2, q3, q4, q5⟩ := (HK.out.ext X0.out).at_ h0
  have HF := hide (fun w' (e : Ext w w') => hide (hb w' ((HK.out.kids _ (List.getElem_mem h0)).ext e)))
  have i0 : (0 : Int) < (t.kids.length : Int) := by omega
  have HT := hide (fun w' (e : Ext w w') => hide (m_typs1 t.T t.tc t.types h1 hl1 w' (h.hd.types.ext e) ok hsz))
  rw [hty] at HT
  clear ok hsz hl1
  clear h1 hty
  have hs0 : ¬ ((ByteArray.mk #[92]).size + (ByteArray.mk (t.name : Str).toArray).size > 9223372036854775807) := by
    rw [ba_size t.name]
    show ¬ (1 + (t.name : Str).length > 9223372036854775807)
    try simp only [List.length_append, List.length_cons, List.length_nil]
    omega
  have e0 : (ByteArray.mk #[92]) ++ (ByteArray.mk (t.name : Str).toArray) = ByteArray.mk ((([92] : Str) ++ t.name) : Str).toArray := ByteArray.mk_append_mk ([92] : Str) t.name
  have hq0 : ¬ (9223372036854775807 < 1 + (t.name : Str).length) := by (try simp only [List.length_append, List.length_cons, List.length_nil]); omega
  have hs1 : ¬ ((ByteArray.mk ((([92] : Str) ++ t.name) : Str).toArray).size + (ByteArray.mk #[32, 58, 32]).size > 9223372036854775807) := by
    rw [ba_size (([92] : Str) ++ t.name)]
    show ¬ (((([92] : Str) ++ t.name) : Str).length + 3 > 9223372036854775807)
    try simp only [List.length_append, List.length_cons, List.length_nil]
    omega
  have e1 : (ByteArray.mk ((([92] : Str) ++ t.name) : Str).toArray) ++ (ByteArray.mk #[32, 58, 32]) = ByteArray.mk (((([92] : Str) ++ t.name) ++ ([32, 58, 32] : Str)) : Str).toArray := ByteArray.mk_append_mk (([92] : Str) ++ t.name) ([32, 58, 32] : Str)
  have hq1 : ¬ (9223372036854775807 < ((([92] : Str) ++ t.name) : Str).length + 3) := by (try simp only [List.length_append, List.length_cons, List.length_nil]); omega
  have hs2 : ¬ ((ByteArray.mk (((([92] : Str) ++ t.name) ++ ([32, 58, 32] : Str)) : Str).toArray).size + (ByteArray.mk (ty : Str).toArray).size > 9223372036854775807) := by
    rw [ba_size ((([92] : Str) ++ t.name) ++ ([32, 58, 32] : Str)), ba_size ty]
    show ¬ ((((([92] : Str) ++ t.name) ++ ([32, 58, 32] : Str)) : Str).length + (ty : Str).length > 9223372036854775807)
    try simp only [List.length_append, List.length_cons, List.length_nil]
    omega
  have e2 : (ByteArray.mk (((([92] : Str) ++ t.name) ++ ([32, 58, 32] : Str)) : Str).toArray) ++ (ByteArray.mk (ty : Str).toArray) = ByteArray.mk ((((([92] : Str) ++ t.name) ++ ([32, 58, 32] : Str)) ++ ty) : Str).toArray := ByteArray.mk_append_mk ((([92] : Str) ++ t.name) ++ ([32, 58, 32] : Str)) ty
  have hq2 : ¬ (9223372036854775807 < (((([92] : Str) ++ t.name) ++ ([32, 58, 32] : Str)) : Str).length + (ty : Str).length) := by (try simp only [List.length_append, List.length_cons, List.length_nil]); omega
  have hs3 : ¬ ((ByteArray.mk ((((([92] : Str) ++ t.name) ++ ([32, 58, 32] : Str)) ++ ty) : Str).toArray).size + (ByteArray.mk #[46, 32]).size > 9223372036854775807) := by
    rw [ba_size (((([92] : Str) ++ t.name) ++ ([32, 58, 32] : Str)) ++ ty)]
    show ¬ (((((([92] : Str) ++ t.name) ++ ([32, 58, 32] : Str)) ++ ty) : Str).length + 2 > 9223372036854775807)
    try simp only [List.length_append, List.length_cons, List.length_nil]
    omega
  have e3 : (ByteArray.mk ((((([92] : Str) ++ t.name) ++ ([32, 58, 32] : Str)) ++ ty) : Str).toArray) ++ (ByteArray.mk #[46, 32]) = ByteArray.mk (((((([92] : Str) ++ t.name) ++ ([32, 58, 32] : Str)) ++ ty) ++ ([46, 32] : Str)) : Str).toArray := ByteArray.mk_append_mk (((([92] : Str) ++ t.name) ++ ([32, 58, 32] : Str)) ++ ty) ([46, 32] : Str)
  have hq3 : ¬ (9223372036854775807 < ((((([92] : Str) ++ t.name) ++ ([32, 58, 32] : Str)) ++ ty) : Str).length + 2) := by (try simp only [List.length_append, List.length_cons, List.length_nil]); omega
  have hs4 : ¬ ((ByteArray.mk (((((([92] : Str) ++ t.name) ++ ([32, 58, 32] : Str)) ++ ty) ++ ([46, 32] : Str)) : Str).toArray).size + (ByteArray.mk (sb : Str).toArray).size > 9223372036854775807) := by
    rw [ba_size ((((([92] : Str) ++ t.name) ++ ([32, 58, 32] : Str)) ++ ty) ++ ([46, 32] : Str)), ba_size sb]
    show ¬ ((((((([92] : Str) ++ t.name) ++ ([32, 58, 32] : Str)) ++ ty) ++ ([46, 32] : Str)) : Str).length + (sb : Str).length > 9223372036854775807)
    try simp only [List.length_append, List.length_cons, List.length_nil]
    omega
  have e4 : (ByteArray.mk (((((([92] : Str) ++ t.name) ++ ([32, 58, 32] : Str)) ++ ty) ++ ([46, 32] : Str)) : Str).toArray) ++ (ByteArray.mk (sb : Str).toArray) = ByteArray.mk ((((((([92] : Str) ++ t.name) ++ ([32, 58, 32] : Str)) ++ ty) ++ ([46, 32] : Str)) ++ sb) : Str).toArray := ByteArray.mk_append_mk ((((([92] : Str) ++ t.name) ++ ([32, 58, 32] : Str)) ++ ty) ++ ([46, 32] : Str)) sb
  have hq4 : ¬ (9223372036854775807 < (((((([92] : Str) ++ t.name) ++ ([32, 58, 32] : Str)) ++ ty) ++ ([46, 32] : Str)) : Str).length + (sb : Str).length) := by (try simp only [List.length_append, List.length_cons, List.length_nil]); omega
  have hs5 : ¬ ((ByteArray.mk #[40]).size + (ByteArray.mk ((((((([92] : Str) ++ t.name) ++ ([32, 58, 32] : Str)) ++ ty) ++ ([46, 32] : Str)) ++ sb) : Str).toArray).size > 9223372036854775807) := by
    rw [ba_size (((((([92] : Str) ++ t.name) ++ ([32, 58, 32] : Str)) ++ ty) ++ ([46, 32] : Str)) ++ sb)]
    show ¬ (1 + ((((((([92] : Str) ++ t.name) ++ ([32, 58, 32] : Str)) ++ ty) ++ ([46, 32] : Str)) ++ sb) : Str).length > 9223372036854775807)
    try simp only [List.length_append, List.length_cons, List.length_nil]
    omega
  have e5 : (ByteArray.mk #[40]) ++ (ByteArray.mk ((((((([92] : Str) ++ t.name) ++ ([32, 58, 32] : Str)) ++ ty) ++ ([46, 32] : Str)) ++ sb) : Str).toArray) = ByteArray.mk ((([40] : Str) ++ (((((([92] : Str) ++ t.name) ++ ([32, 58, 32] : Str)) ++ ty) ++ ([46, 32] : Str)) ++ sb)) : Str).toArray := ByteArray.mk_append_mk ([40] : Str) (((((([92] : Str) ++ t.name) ++ ([32, 58, 32] : Str)) ++ ty) ++ ([46, 32] : Str)) ++ sb)
  have hq5 : ¬ (9223372036854775807 < 1 + ((((((([92] : Str) ++ t.name) ++ ([32, 58, 32] : Str)) ++ ty) ++ ([46, 32] : Str)) ++ sb) : Str).length) := by (try simp only [List.length_append, List.length_cons, List.length_nil]); omega
  have hs6 : ¬ ((ByteArray.mk ((([40] : Str) ++ (((((([92] : Str) ++ t.name) ++ ([32, 58, 32] : Str)) ++ ty) ++ ([46, 32] : Str)) ++ sb)) : Str).toArray).size + (ByteArray.mk #[41]).size > 9223372036854775807) := by
    rw [ba_size (([40] : Str) ++ (((((([92] : Str) ++ t.name) ++ ([32, 58, 32] : Str)) ++ ty) ++ ([46, 32] : Str)) ++ sb))]
    show ¬ (((([40] : Str) ++ (((((([92] : Str) ++ t.name) ++ ([32, 58, 32] : Str)) ++ ty) ++ ([46, 32] : Str)) ++ sb)) : Str).length + 1 > 9223372036854775807)
    try simp only [List.length_append, List.length_cons, List.length_nil]
    omega
  have e6 : (ByteArray.mk ((([40] : Str) ++ (((((([92] : Str) ++ t.name) ++ ([32, 58, 32] : Str)) ++ ty) ++ ([46, 32] : Str)) ++ sb)) : Str).toArray) ++ (ByteArray.mk #[41]) = ByteArray.mk (((([40] : Str) ++ (((((([92] : Str) ++ t.name) ++ ([32, 58, 32] : Str)) ++ ty) ++ ([46, 32] : Str)) ++ sb)) ++ ([41] : Str)) : Str).toArray := ByteArray.mk_append_mk (([40] : Str) ++ (((((([92] : Str) ++ t.name) ++ ([32, 58, 32] : Str)) ++ ty) ++ ([46, 32] : Str)) ++ sb)) ([41] : Str)
  have hq6 : ¬ (9223372036854775807 < ((([40] : Str) ++ (((((([92] : Str) ++ t.name) ++ ([32, 58, 32] : Str)) ++ ty) ++ ([46, 32] : Str)) ++ sb)) : Str).length + 1) := by (try simp only [List.length_append, List.length_cons, List.length_nil]); omega
  generalize (((([40] : Str) ++ (((((([92] : Str) ++ t.name) ++ ([32, 58, 32] : Str)) ++ ty) ++ ([46, 32] : Str)) ++ sb)) ++ ([41] : Str)) : Str) = s6 at *
  generalize ((([40] : Str) ++ (((((([92] : Str) ++ t.name) ++ ([32, 58, 32] : Str)) ++ ty) ++ ([46, 32] : Str)) ++ sb)) : Str) = s5 at *
  generalize ((((((([92] : Str) ++ t.name) ++ ([32, 58, 32] : Str)) ++ ty) ++ ([46, 32] : Str)) ++ sb) : Str) = s4 at *
  generalize (((((([92] : Str) ++ t.name) ++ ([32, 58, 32] : Str)) ++ ty) ++ ([46, 32] : Str)) : Str) = s3 at *
  generalize ((((([92] : Str) ++ t.name) ++ ([32, 58, 32] : Str)) ++ ty) : Str) = s2 at *
  generalize (((([92] : Str) ++ t.name) ++ ([32, 58, 32] : Str)) : Str) = s1 at *
  generalize ((([92] : Str) ++ t.name) : Str) = s0 at *
  generalize t.kids[0]'h0 = ka at *
  have HS : Hid (∀ w', Ext W w' → (w'.cell? ⟨w.heap.size, 2, none⟩ = some (.string ⟨t.name.toArray⟩) ∧ w'.cell? ⟨w.heap.size, 4, none⟩ = some (.slice t.T t.types.length t.tc) ∧ w'.cell? ⟨w.heap.size, 5, none⟩ = some (.slice (some ⟨b, o, none⟩) t.kids.length t.cap) ∧ w'.cell? ⟨b, o, none⟩ = some (.int .i64 ka.kind) ∧ w'.cell? ⟨b, o + 1, none⟩ = some (.int .i64 ka.n) ∧ w'.cell? ⟨b, o + 2, none⟩ = some (.string ⟨ka.name.toArray⟩) ∧ w'.cell? ⟨b, o + 3, none⟩ = some (.slice ka.V ka.vars.length ka.vc) ∧ w'.cell? ⟨b, o + 4, none⟩ = some (.slice ka.T ka.types.length ka.tc) ∧ w'.cell? ⟨b, o + 5, none⟩ = some (.slice ka.A ka.kids.length ka.cap))) := hide (by
    rw [hA] at c5
    have z0 : o + 0 * 6 = o := by omega
    rw [z0] at q0 q1 q2 q3 q4 q5
    exact fun w' e => ⟨e.cell c2, e.cell c4, e.cell c5, e.cell q0, e.cell q1, e.cell q2, e.cell q3, e.cell q4, e.cell q5⟩)
  clear q0 q1 q2 q3 q4 q5 hbb hA h hb HK HB0
  unfold tmV at HF ⊢
  go_enter Tryz.func105, Tryz.ntmps105
  go_upto_region 1 with fail
  rw [HW.out]
  obtain ⟨p0, p1, p2, p3, p4, p5, p6, p7, p8⟩ := HS.out _ (Ext.refl W)
  clear c5 HW
  go_upto_region 11 with fail
  go_region_held3 (fun w' : World => (w'.cell? ⟨w.heap.size, 2, none⟩ = some (.string ⟨t.name.toArray⟩) ∧ w'.cell? ⟨w.heap.size, 4, none⟩ = some (.slice t.T t.types.length t.tc) ∧ w'.cell? ⟨w.heap.size, 5, none⟩ = some (.slice (some ⟨b, o, none⟩) t.kids.length t.cap) ∧ w'.cell? ⟨b, o, none⟩ = some (.int .i64 ka.kind) ∧ w'.cell? ⟨b, o + 1, none⟩ = some (.int .i64 ka.n) ∧ w'.cell? ⟨b, o + 2, none⟩ = some (.string ⟨ka.name.toArray⟩) ∧ w'.cell? ⟨b, o + 3, none⟩ = some (.slice ka.V ka.vars.length ka.vc) ∧ w'.cell? ⟨b, o + 4, none⟩ = some (.slice ka.T ka.types.length ka.tc) ∧ w'.cell? ⟨b, o + 5, none⟩ = some (.slice ka.A ka.kids.length ka.cap))) (first | assumption | (exact HS.out _ (Ext.refl W).drew)) (first
    | (go_at_call 183
       refine Calls.mono (HT.out _ ?e).out ?_
       case e => first | (refine Ext.trans X0.out ?_; (repeat (first | exact Ext.refl _ | exact Ext.pre (by simp) | exact Ext.alloc (by assumption) _ | refine Ext.alloc ?_ _ | refine Ext.more ?_ _ _ | refine Ext.drew ?_ | refine Ext.drewN ?_ _)); done) | (refine Ext.trans (X0.out.trans X8.out) ?_; (repeat (first | exact Ext.refl _ | exact Ext.pre (by simp) | exact Ext.alloc (by assumption) _ | refine Ext.alloc ?_ _ | refine Ext.more ?_ _ _ | refine Ext.drew ?_ | refine Ext.drewN ?_ _)); done)
       rintro e w7 ⟨rfl, hx7⟩
       have X7 : Hid (Ext W w7) := hide (by
         refine Ext.trans ?_ hx7
         first | (refine Ext.trans (Ext.refl W) ?_; (repeat (first | exact Ext.refl _ | exact Ext.pre (by simp) | exact Ext.alloc (by assumption) _ | refine Ext.alloc ?_ _ | refine Ext.more ?_ _ _ | refine Ext.drew ?_ | refine Ext.drewN ?_ _)); done) | (refine Ext.trans X8.out ?_; (repeat (first | exact Ext.refl _ | exact Ext.pre (by simp) | exact Ext.alloc (by assumption) _ | refine Ext.alloc ?_ _ | refine Ext.more ?_ _ _ | refine Ext.drew ?_ | refine Ext.drewN ?_ _)); done))
       have K7 := HS.out _ X7.out
       clear hx7)
    | (go_at_call 105
       refine Calls.mono (HF.out _ ?e).out ?_
       case e => first | (refine Ext.trans X0.out ?_; (repeat (first | exact Ext.refl _ | exact Ext.pre (by simp) | exact Ext.alloc (by assumption) _ | refine Ext.alloc ?_ _ | refine Ext.more ?_ _ _ | refine Ext.drew ?_ | refine Ext.drewN ?_ _)); done) | (refine Ext.trans (X0.out.trans X7.out) ?_; (repeat (first | exact Ext.refl _ | exact Ext.pre (by simp) | exact Ext.alloc (by assumption) _ | refine Ext.alloc ?_ _ | refine Ext.more ?_ _ _ | refine Ext.drew ?_ | refine Ext.drewN ?_ _)); done)
       rintro e w8 ⟨rfl, hx8⟩
       have X8 : Hid (Ext W w8) := hide (by
         refine Ext.trans ?_ hx8
         first | (refine Ext.trans (Ext.refl W) ?_; (repeat (first | exact Ext.refl _ | exact Ext.pre (by simp) | exact Ext.alloc (by assumption) _ | refine Ext.alloc ?_ _ | refine Ext.more ?_ _ _ | refine Ext.drew ?_ | refine Ext.drewN ?_ _)); done) | (refine Ext.trans X7.out ?_; (repeat (first | exact Ext.refl _ | exact Ext.pre (by simp) | exact Ext.alloc (by assumption) _ | refine Ext.alloc ?_ _ | refine Ext.more ?_ _ _ | refine Ext.drew ?_ | refine Ext.drewN ?_ _)); done))
       have K8 := HS.out _ X8.out
       clear hx8))
  all_goals
    go_wp2
    go_ret
    first
      | exact ⟨rfl, X0.out.trans X7.out⟩
      | exact ⟨rfl, X0.out.trans X8.out⟩
      | exact ⟨rfl, X0.out.trans (X7.out.trans (by repeat (first | exact Ext.refl _ | exact Ext.pre (by simp) | exact Ext.alloc (by assumption) _ | refine Ext.alloc ?_ _ |  refine Ext.more ?_ _ _ | refine Ext.drew ?_ | refine Ext.drewN ?_ _)))⟩
      | exact ⟨rfl, X0.out.trans (X8.out.trans (by repeat (first | exact Ext.refl _ | exact Ext.pre (by simp) | exact Ext.alloc (by assumption) _ | refine Ext.alloc ?_ _ |  refine Ext.more ?_ _ _ | refine Ext.drew ?_ | refine Ext.drewN ?_ _)))⟩

set_option maxRecDepth 10000 in
set_option maxHeartbeats 8000000 in
theorem txt_all (t : Tm) (hk : (t.kind == 5) = true) (h0 : 0 < t.kids.length) (h1 : 0 < t.vars.length) (hl1 : t.vars.length = 1) (ok : -9223372036854775808 ≤ t.vars[0]'h1 ∧ t.vars[0]'h1 ≤ 9223372036854775807) (ty : Str) (hty : tyS (varT (t.vars[0]'h1)) = ty) (sb : Str) (hb : TextsTo (t.kids[0]'h0) sb) (hl : t.name.length + ty.length + sb.length ≤ 1000000) : TextsTo t ((([40] : Str) ++ (((([47] : Str) ++ ty) ++ ([46, 32] : Str)) ++ sb)) ++ ([41] : Str)) := by
  intro w h
  obtain ⟨W, hW⟩ : ∃ W, W = w.alloc (.cells #[.int .i64 t.kind, .int .i64 t.n, encStr t.name, .slice t.V t.vars.length t.vc, .slice t.T t.types.length t.tc, .slice t.A t.kids.length t.cap] 31) := ⟨_, rfl⟩
  have HW := hide hW.symm
  have HB0 : Hid (TmBox W w.heap.size t) := hide (by rw [hW]; exact TmBox.new w t)
  have X0 : Hid (Ext w W) := hide (by rw [hW]; exact (Ext.refl w).alloc _)
  clear hW
  obtain ⟨c0, c1, c2, c3, c4, c5⟩ := HB0.out.cells
  have n1 : (t.kind == 1) = false := by simp at hk ⊢; omega
  have n2 : (t.kind == 2) = false := by simp at hk ⊢; omega
  have n14 : (t.kind == 14) = false := by simp at hk ⊢; omega
  have n3 : (t.kind == 3) = false := by simp at hk ⊢; omega
  have n4 : (t.kind == 4) = false := by simp at hk ⊢; omega
  have HK := hide h.all
  obtain ⟨b, o, hA, hbb, q0, q1, q2, q3, q4, q5⟩ := (HK.out.ext X0.out).at_ h0
  have HF := hide (fun w' (e : Ext w w') => hide (hb w' ((HK.out.kids _ (List.getElem_mem h0)).ext e)))
  have i0 : (0 : Int) < (t.kids.length : Int) := by omega
  have HT := hide (fun w' (e : Ext w w') => hide (m_vs1s t.V t.vc t.vars h1 hl1 w' (Row.ext h.hd.vars e) ok))
  rw [hty] at HT
  clear ok hl1
  clear h1 hty
  have hs0 : ¬ ((ByteArray.mk #[47]).size + (ByteArray.mk (ty : Str).toArray).size > 9223372036854775807) := by
    rw [ba_size ty]
    show ¬ (1 + (ty : Str).length > 9223372036854775807)
    try simp only [List.length_append, List.length_cons, List.length_nil]
    omega
  have e0 : (ByteArray.mk #[47]) ++ (ByteArray.mk (ty : Str).toArray) = ByteArray.mk ((([47] : Str) ++ ty) : Str).toArray := ByteArray.mk_append_mk ([47] : Str) ty
  have hq0 : ¬ (9223372036854775807 < 1 + (ty : Str).length) := by (try simp only [List.length_append, List.length_cons, List.length_nil]); omega
  have hs1 : ¬ ((ByteArray.mk ((([47] : Str) ++ ty) : Str).toArray).size + (ByteArray.mk #[46, 32]).size > 9223372036854775807) := by
    rw [ba_size (([47] : Str) ++ ty)]
    show ¬ (((([47] : Str) ++ ty) : Str).length + 2 > 9223372036854775807)
    try simp only [List.length_append, List.length_cons, List.length_nil]
    omega
  have e1 : (ByteArray.mk ((([47] : Str) ++ ty) : Str).toArray) ++ (ByteArray.mk #[46, 32]) = ByteArray.mk (((([47] : Str) ++ ty) ++ ([46, 32] : Str)) : Str).toArray := ByteArray.mk_append_mk (([47] : Str) ++ ty) ([46, 32] : Str)
  have hq1 : ¬ (9223372036854775807 < ((([47] : Str) ++ ty) : Str).length + 2) := by (try simp only [List.length_append, List.length_cons, List.length_nil]); omega
  have hs2 : ¬ ((ByteArray.mk (((([47] : Str) ++ ty) ++ ([46, 32] : Str)) : Str).toArray).size + (ByteArray.mk (sb : Str).toArray).size > 9223372036854775807) := by
    rw [ba_size ((([47] : Str) ++ ty) ++ ([46, 32] : Str)), ba_size sb]
    show ¬ ((((([47] : Str) ++ ty) ++ ([46, 32] : Str)) : Str).length + (sb : Str).length > 9223372036854775807)
    try simp only [List.length_append, List.length_cons, List.length_nil]
    omega
  have e2 : (ByteArray.mk (((([47] : Str) ++ ty) ++ ([46, 32] : Str)) : Str).toArray) ++ (ByteArray.mk (sb : Str).toArray) = ByteArray.mk ((((([47] : Str) ++ ty) ++ ([46, 32] : Str)) ++ sb) : Str).toArray := ByteArray.mk_append_mk ((([47] : Str) ++ ty) ++ ([46, 32] : Str)) sb
  have hq2 : ¬ (9223372036854775807 < (((([47] : Str) ++ ty) ++ ([46, 32] : Str)) : Str).length + (sb : Str).length) := by (try simp only [List.length_append, List.length_cons, List.length_nil]); omega
  have hs3 : ¬ ((ByteArray.mk #[40]).size + (ByteArray.mk ((((([47] : Str) ++ ty) ++ ([46, 32] : Str)) ++ sb) : Str).toArray).size > 9223372036854775807) := by
    rw [ba_size (((([47] : Str) ++ ty) ++ ([46, 32] : Str)) ++ sb)]
    show ¬ (1 + ((((([47] : Str) ++ ty) ++ ([46, 32] : Str)) ++ sb) : Str).length > 9223372036854775807)
    try simp only [List.length_append, List.length_cons, List.length_nil]
    omega
  have e3 : (ByteArray.mk #[40]) ++ (ByteArray.mk ((((([47] : Str) ++ ty) ++ ([46, 32] : Str)) ++ sb) : Str).toArray) = ByteArray.mk ((([40] : Str) ++ (((([47] : Str) ++ ty) ++ ([46, 32] : Str)) ++ sb)) : Str).toArray := ByteArray.mk_append_mk ([40] : Str) (((([47] : Str) ++ ty) ++ ([46, 32] : Str)) ++ sb)
  have hq3 : ¬ (9223372036854775807 < 1 + ((((([47] : Str) ++ ty) ++ ([46, 32] : Str)) ++ sb) : Str).length) := by (try simp only [List.length_append, List.length_cons, List.length_nil]); omega
  have hs4 : ¬ ((ByteArray.mk ((([40] : Str) ++ (((([47] : Str) ++ ty) ++ ([46, 32] : Str)) ++ sb)) : Str).toArray).size + (ByteArray.mk #[41]).size > 9223372036854775807) := by
    rw [ba_size (([40] : Str) ++ (((([47] : Str) ++ ty) ++ ([46, 32] : Str)) ++ sb))]
    show ¬ (((([40] : Str) ++ (((([47] : Str) ++ ty) ++ ([46, 32] : Str)) ++ sb)) : Str).length + 1 > 9223372036854775807)
    try simp only [List.length_append, List.length_cons, List.length_nil]
    omega
  have e4 : (ByteArray.mk ((([40] : Str) ++ (((([47] : Str) ++ ty) ++ ([46, 32] : Str)) ++ sb)) : Str).toArray) ++ (ByteArray.mk #[41]) = ByteArray.mk (((([40] : Str) ++ (((([47] : Str) ++ ty) ++ ([46, 32] : Str)) ++ sb)) ++ ([41] : Str)) : Str).toArray := ByteArray.mk_append_mk (([40] : Str) ++ (((([47] : Str) ++ ty) ++ ([46, 32] : Str)) ++ sb)) ([41] : Str)
  have hq4 : ¬ (9223372036854775807 < ((([40] : Str) ++ (((([47] : Str) ++ ty) ++ ([46, 32] : Str)) ++ sb)) : Str).length + 1) := by (try simp only [List.length_append, List.length_cons, List.length_nil]); omega
  generalize (((([40] : Str) ++ (((([47] : Str) ++ ty) ++ ([46, 32] : Str)) ++ sb)) ++ ([41] : Str)) : Str) = s4 at *
  generalize ((([40] : Str) ++ (((([47] : Str) ++ ty) ++ ([46, 32] : Str)) ++ sb)) : Str) = s3 at *
  generalize ((((([47] : Str) ++ ty) ++ ([46, 32] : Str)) ++ sb) : Str) = s2 at *
  generalize (((([47] : Str) ++ ty) ++ ([46, 32] : Str)) : Str) = s1 at *
  generalize ((([47] : Str) ++ ty) : Str) = s0 at *
  generalize t.kids[0]'h0 = ka at *
  have HS : Hid (∀ w', Ext W w' → (w'.cell? ⟨w.heap.size, 3, none⟩ = some (.slice t.V t.vars.length t.vc) ∧ w'.cell? ⟨w.heap.size, 5, none⟩ = some (.slice (some ⟨b, o, none⟩) t.kids.length t.cap) ∧ w'.cell? ⟨b, o, none⟩ = some (.int .i64 ka.kind) ∧ w'.cell? ⟨b, o + 1, none⟩ = some (.int .i64 ka.n) ∧ w'.cell? ⟨b, o + 2, none⟩ = some (.string ⟨ka.name.toArray⟩) ∧ w'.cell? ⟨b, o + 3, none⟩ = some (.slice ka.V ka.vars.length ka.vc) ∧ w'.cell? ⟨b, o + 4, none⟩ = some (.slice ka.T ka.types.length ka.tc) ∧ w'.cell? ⟨b, o + 5, none⟩ = some (.slice ka.A ka.kids.length ka.cap))) := hide (by
    rw [hA] at c5
    have z0 : o + 0 * 6 = o := by omega
    rw [z0] at q0 q1 q2 q3 q4 q5
    exact fun w' e => ⟨e.cell c3, e.cell c5, e.cell q0, e.cell q1, e.cell q2, e.cell q3, e.cell q4, e.cell q5⟩)
  clear q0 q1 q2 q3 q4 q5 hbb hA h hb HK HB0
  unfold tmV at HF ⊢
  go_enter Tryz.func105, Tryz.ntmps105
  go_upto_region 1 with fail
  rw [HW.out]
  obtain ⟨p0, p1, p2, p3, p4, p5, p6, p7⟩ := HS.out _ (Ext.refl W)
  clear c5 HW
  go_upto_region 15 with fail
  go_region_held3 (fun w' : World => (w'.cell? ⟨w.heap.size, 3, none⟩ = some (.slice t.V t.vars.length t.vc) ∧ w'.cell? ⟨w.heap.size, 5, none⟩ = some (.slice (some ⟨b, o, none⟩) t.kids.length t.cap) ∧ w'.cell? ⟨b, o, none⟩ = some (.int .i64 ka.kind) ∧ w'.cell? ⟨b, o + 1, none⟩ = some (.int .i64 ka.n) ∧ w'.cell? ⟨b, o + 2, none⟩ = some (.string ⟨ka.name.toArray⟩) ∧ w'.cell? ⟨b, o + 3, none⟩ = some (.slice ka.V ka.vars.length ka.vc) ∧ w'.cell? ⟨b, o + 4, none⟩ = some (.slice ka.T ka.types.length ka.tc) ∧ w'.cell? ⟨b, o + 5, none⟩ = some (.slice ka.A ka.kids.length ka.cap))) (first | assumption | (exact HS.out _ (Ext.refl W).drew)) (first
    | (go_at_call 184
       refine Calls.mono (HT.out _ ?e).out ?_
       case e => first | (refine Ext.trans X0.out ?_; (repeat (first | exact Ext.refl _ | exact Ext.pre (by simp) | exact Ext.alloc (by assumption) _ | refine Ext.alloc ?_ _ | refine Ext.more ?_ _ _ | refine Ext.drew ?_ | refine Ext.drewN ?_ _)); done) | (refine Ext.trans (X0.out.trans X8.out) ?_; (repeat (first | exact Ext.refl _ | exact Ext.pre (by simp) | exact Ext.alloc (by assumption) _ | refine Ext.alloc ?_ _ | refine Ext.more ?_ _ _ | refine Ext.drew ?_ | refine Ext.drewN ?_ _)); done)
       rintro e w7 ⟨rfl, hx7⟩
       have X7 : Hid (Ext W w7) := hide (by
         refine Ext.trans ?_ hx7
         first | (refine Ext.trans (Ext.refl W) ?_; (repeat (first | exact Ext.refl _ | exact Ext.pre (by simp) | exact Ext.alloc (by assumption) _ | refine Ext.alloc ?_ _ | refine Ext.more ?_ _ _ | refine Ext.drew ?_ | refine Ext.drewN ?_ _)); done) | (refine Ext.trans X8.out ?_; (repeat (first | exact Ext.refl _ | exact Ext.pre (by simp) | exact Ext.alloc (by assumption) _ | refine Ext.alloc ?_ _ | refine Ext.more ?_ _ _ | refine Ext.drew ?_ | refine Ext.drewN ?_ _)); done))
       have K7 := HS.out _ X7.out
       clear hx7)
    | (go_at_call 105
       refine Calls.mono (HF.out _ ?e).out ?_
       case e => first | (refine Ext.trans X0.out ?_; (repeat (first | exact Ext.refl _ | exact Ext.pre (by simp) | exact Ext.alloc (by assumption) _ | refine Ext.alloc ?_ _ | refine Ext.more ?_ _ _ | refine Ext.drew ?_ | refine Ext.drewN ?_ _)); done) | (refine Ext.trans (X0.out.trans X7.out) ?_; (repeat (first | exact Ext.refl _ | exact Ext.pre (by simp) | exact Ext.alloc (by assumption) _ | refine Ext.alloc ?_ _ | refine Ext.more ?_ _ _ | refine Ext.drew ?_ | refine Ext.drewN ?_ _)); done)
       rintro e w8 ⟨rfl, hx8⟩
       have X8 : Hid (Ext W w8) := hide (by
         refine Ext.trans ?_ hx8
         first | (refine Ext.trans (Ext.refl W) ?_; (repeat (first | exact Ext.refl _ | exact Ext.pre (by simp) | exact Ext.alloc (by assumption) _ | refine Ext.alloc ?_ _ | refine Ext.more ?_ _ _ | refine Ext.drew ?_ | refine Ext.drewN ?_ _)); done) | (refine Ext.trans X7.out ?_; (repeat (first | exact Ext.refl _ | exact Ext.pre (by simp) | exact Ext.alloc (by assumption) _ | refine Ext.alloc ?_ _ | refine Ext.more ?_ _ _ | refine Ext.drew ?_ | refine Ext.drewN ?_ _)); done))
       have K8 := HS.out _ X8.out
       clear hx8))
  all_goals
    go_wp2
    go_ret
    first
      | exact ⟨rfl, X0.out.trans X7.out⟩
      | exact ⟨rfl, X0.out.trans X8.out⟩
      | exact ⟨rfl, X0.out.trans (X7.out.trans (by repeat (first | exact Ext.refl _ | exact Ext.pre (by simp) | exact Ext.alloc (by assumption) _ | refine Ext.alloc ?_ _ |  refine Ext.more ?_ _ _ | refine Ext.drew ?_ | refine Ext.drewN ?_ _)))⟩
      | exact ⟨rfl, X0.out.trans (X8.out.trans (by repeat (first | exact Ext.refl _ | exact Ext.pre (by simp) | exact Ext.alloc (by assumption) _ | refine Ext.alloc ?_ _ |  refine Ext.more ?_ _ _ | refine Ext.drew ?_ | refine Ext.drewN ?_ _)))⟩

end Go.Proofs.YtjacjpeeinnkcaaGreat

/- Contract: a term's text. -/
namespace Go.Proofs.YtjacjpeeinnkcaaGreat
open Go.RowKit Go.Shelf

set_option maxRecDepth 10000 in
set_option maxHeartbeats 2000000 in
theorem m_text (t : Tm) (s : Str) (hT : TextsTo t s) (hL : legalM t = true) (hf : FewM t) (hsz : t.size ≤ 100000) (w : World) (h : TmIn w t) : Calls Tryz.prog 51 #[tmV t] w fun e w' => e = .returned (encStr s) ∧ Ext w w' := by
  have HB0 := hide (TmBox.new w t)
  have X0 : Hid (Ext w (w.alloc (.cells #[.int .i64 t.kind, .int .i64 t.n, encStr t.name, .slice t.V t.vars.length t.vc, .slice t.T t.types.length t.tc, .slice t.A t.kids.length t.cap] 31))) := hide ((Ext.refl w).alloc _)
  obtain ⟨c0, c1, c2, c3, c4, c5⟩ := HB0.out.cells
  have HLg := hide (fun w' (e : Ext w w') => hide (m_legal t w' (h.ext e) hf hsz))
  rw [hL] at HLg
  have HTx := hide (fun w' (e : Ext w w') => hide (hT w' (h.ext e)))
  clear h hf hT hL
  unfold tmV at *
  go_enter Tryz.func51, Tryz.ntmps51
  go_wp2_with fail
  refine (HLg.out _ X0.out).out.mono ?_
  rintro e w2 ⟨rfl, hx⟩
  have X2 := hide (X0.out.trans hx)
  obtain ⟨c0, c1, c2, c3, c4, c5⟩ := (HB0.out.ext hx).cells
  clear hx
  go_wp2_with fail
  refine (HTx.out _ X2.out).out.mono ?_
  rintro e w3 ⟨rfl, hx⟩
  go_wp2
  go_ret
  exact ⟨rfl, X2.out.trans hx⟩

end Go.Proofs.YtjacjpeeinnkcaaGreat

/- What a row of its own becomes; rows apart from it. Plain. -/
namespace Go.Proofs.YtjacjpeeinnkcaaGreat
open Go.RowKit

theorem ext_grown {a b : World} (e : Ext a b) (row : Option Nat) : a.grownBy b row := by
  have h := e.below
  obtain ⟨l, d, rfl⟩ := e
  exact ⟨rfl, rfl, rfl, h.size, fun i hi _ => h.block i hi⟩
/-- What a row of its own becomes: nothing else turns. -/
structure Ap (w : World) (v : Value) (w' : World) (v' : Value) : Prop where
  grown : w.grownBy w' v.ownBlock
  own : v'.ownBlock = v.ownBlock ∨ ∀ k, v'.ownBlock = some k → w.heap.size ≤ k
section
variable {a b c : World} {u v x : Value}
theorem Ap.refl (a : World) (u : Value) : Ap a u a u := ⟨World.grownBy.refl _ _, .inl rfl⟩
theorem Ap.trans (h : Ap a u b v) (k : Ap b v c x) : Ap a u c x := by
  refine ⟨⟨k.grown.os.trans h.grown.os, k.grown.tape.trans h.grown.tape, k.grown.output.trans h.grown.output, Nat.le_trans h.grown.size k.grown.size, fun j hj hne => ?_⟩, ?_⟩
  · refine (k.grown.block j (Nat.lt_of_lt_of_le hj h.grown.size) (fun e => ?_)).trans (h.grown.block j hj hne)
    rcases h.own with h2 | h2
    · rw [h2] at e; exact hne e
    · have := h2 j e.symm; omega
  · rcases k.own with h2 | h2
    · rw [h2]; exact h.own
    · exact .inr (fun j hj => Nat.le_trans h.grown.size (h2 j hj))
theorem Ap.of_ext (e : Ext a b) (u : Value) : Ap a u b u := ⟨ext_grown e _, .inl rfl⟩
theorem Ap.ext (h : Ap a u b v) (e : Ext b c) : Ap a u c v := h.trans (Ap.of_ext e v)
theorem Ap.size (h : Ap a u b v) : a.heap.size ≤ b.heap.size := h.grown.size
theorem Ap.below {B : Nat} (h : Ap a u b v) (hB : B ≤ a.heap.size) (hu : ∀ k, u.ownBlock = some k → B ≤ k) : Below B a b := (Below.refl B a).grown h.grown hB hu
theorem Ap.ge {B : Nat} (h : Ap a u b v) (hB : B ≤ a.heap.size) (hu : ∀ k, u.ownBlock = some k → B ≤ k) : ∀ k, v.ownBlock = some k → B ≤ k := by
  intro k hk
  rcases h.own with h2 | h2
  · exact hu k (h2 ▸ hk)
  · exact Nat.le_trans hB (h2 k hk)
end
/-- A row lies in another block than what a value owns. -/
def OffO (v : Value) (A : Option Addr) (n : Nat) : Prop := n ≠ 0 → ∀ c o, A = some ⟨c, o, none⟩ → v.ownBlock ≠ some c
theorem OffO.keep {w w' : World} {v v' : Value} {A : Option Addr} {k n : Nat} {l : List Value} (h : OffO v A n) (hr : Row w A k n l) (a : Ap w v w' v') : OffO v' A n := by
  intro hn c o e
  obtain ⟨b', o', e', hb, -⟩ := hr.2 (by omega)
  rw [e'] at e
  injection e with e
  injection e with e1 e2
  subst e1 e2
  rcases a.own with h2 | h2
  · rw [h2]; exact h hn _ _ e'
  · intro h3; have := h2 _ h3; omega
theorem OffO.row {w w' : World} {v v' : Value} {A : Option Addr} {k n : Nat} {l : List Value} (h : OffO v A n) (hr : Row w A k n l) (a : Ap w v w' v') : Row w' A k n l := by
  refine row_grown hr a.grown (fun hn ad e he => ?_)
  obtain ⟨b', o', e', hb, -⟩ := hr.2 (by omega)
  rw [e'] at e
  injection e with e
  subst e
  exact h hn _ _ e' he
theorem OffO.new {w : World} {v : Value} {A : Option Addr} {n : Nat} (hv : ∀ k, v.ownBlock = some k → k < w.heap.size) (h : ∀ c o, A = some ⟨c, o, none⟩ → w.heap.size ≤ c) : OffO v A n := fun _ c o e he => by
  have h1 := h c o e
  have h2 := hv c he
  omega

end Go.Proofs.YtjacjpeeinnkcaaGreat
