/- Contracts on the reference: the variables of a pattern, the constructors of a tree. (A program of ours has printed the walks.) -/
import Derived.Test.YtnbnhchgkbbiiaaGreatJUsesUses21
import Derived.Laws.OwnMore
/- Contracts on the reference: the variables of a pattern, the constructors of a tree. (A program of ours has printed the walks.) -/
namespace Go.Proofs.YtnbnhchgkbbiiaaGreat
open Go.RowKit Go.Sort

theorem one_nodes (l : List Tree) : ∀ u ∈ l.flatMap treeC.f, u.oneCell' = true := by
  intro u hu
  obtain ⟨x, _, hx⟩ := List.mem_flatMap.1 hu
  simp only [treeC, Tree.cells, List.mem_cons, List.not_mem_nil, or_false] at hx
  rcases hx with rfl | rfl | rfl | rfl | rfl <;> rfl
theorem one_uses (l : List Use) : ∀ u ∈ l.flatMap useC.f, u.oneCell' = true := by
  intro u hu
  obtain ⟨x, _, hx⟩ := List.mem_flatMap.1 hu
  simp only [useC, List.mem_cons, List.not_mem_nil, or_false] at hx
  rcases hx with rfl | rfl <;> rfl

set_option maxRecDepth 10000 in
set_option maxHeartbeats 4000000 in
theorem r_varsI (t : Tree) : ∀ w, NodeIn w t → t.size ≤ 100000 →
    Calls Tryz.prog 65 #[treeV t] w fun e w' => (∃ v, e = .returned v ∧ w'.ownsRow w.heap.size 24 5 v (varsL t).length ((varsL t).flatMap treeC.f)) ∧ Ext w w' := by
  induction t using Tree.ind with
  | h t ih =>
  intro w h hsz
  obtain ⟨i0, hi, hz0, hz1, hz2⟩ := info_parts node_info
  have HE := hide (varsL_eq t)
  have IH := hide ih
  clear ih
  obtain ⟨pre, hpre⟩ : ∃ pre : List Tree, pre = [] := ⟨_, rfl⟩
  have hp0 : pre.length = 0 := by rw [hpre]; rfl
  have hle := h.le
  have hmx := h.max
  have htx := h.txt
  have Hk := hide h.nodes
  have HB0w := hide (NBox.new w t)
  have HSz := hide (fun k (hk : k ∈ t.kids) => Tree.size_kid hk)
  have HS : Hid (t.size = sizes t.kids + 1) := hide (Tree.size_eq t)
  have hkl := Tree.kids_len t
  obtain ⟨W, hW⟩ : ∃ W, W = w.alloc (.cells #[.int .i64 t.kind, .int .i64 t.pos, .int .i64 t.n, encStr t.text, .slice t.A t.kids.length t.cap] 24) := ⟨_, rfl⟩
  have X0 : Hid (Ext w W) := hide (by rw [hW]; exact (Ext.refl w).alloc _)
  have hsW : W.heap.size = w.heap.size + 1 := by rw [hW]; simp
  rw [← hW] at HB0w
  have HB0 := HB0w
  clear HB0w
  have HSt : Hid (∀ k (h : k < t.kids.length), pre ++ varsesL (t.kids.take (k + 1)) = (pre ++ varsesL (t.kids.take k)) ++ varsL (t.kids[k]'h)) := hide (fun k hk => by rw [varsesL_take t.kids hk, List.append_assoc])
  have HSk : Hid (∀ k (h : k < t.kids.length), (varsesL (t.kids.take k)).length + (t.kids[k]'h).size ≤ sizes t.kids) := hide (fun k hk => varsesL_room t.kids hk)
  have HLn : Hid (∀ c : Tree, (varsL c).length ≤ c.size) := hide (fun c => varsL_len c)
  have hln := varsL_len t
  cases h11 : (t.kind == 11)
  · have HU : Hid (pre ++ varsesL t.kids = varsL t) := hide (by rw [HE.out, h11, hpre]; rfl)
    clear HE
    have O1 : Hid (W.ownsRow W.heap.size 24 5 (.slice none 0 0) (pre ++ varsesL (t.kids.take 0)).length ((pre ++ varsesL (t.kids.take 0)).flatMap treeC.f)) := hide (by rw [hpre]; exact World.ownsRow_nil _ _ _ _)
    have X1 : Hid (Ext W W) := hide (Ext.refl _)
    have Hpre := hide hpre
    clear hpre
    generalize varsL t = R at *
    unfold treeV at *
    have HN := hide h
    clear h
    generalize hA0 : t.A = A0 at *
    have HA0 := hide hA0
    clear hA0
    go_enter Tryz.func65, Tryz.ntmps65
    go_wp2
    rw [← hW]
    go_loopw [3, 4] (fun v i wr => ∃ k : Nat, k ≤ t.kids.length ∧ i = .int .i64 k ∧ Hid (Ext W wr) ∧ Hid (wr.ownsRow W.heap.size 24 5 v (pre ++ varsesL (t.kids.take k)).length ((pre ++ varsesL (t.kids.take k)).flatMap treeC.f))) (fun _ i _ => t.kids.length - (intOf i).toNat)
    case atStart => exact ⟨0, Nat.zero_le _, rfl, X1, O1⟩
    case round =>
      obtain ⟨k, hk, rfl, HX, HO⟩ := hrel
      have HBr := hide (HB0.out.ext HX.out)
      have c0_r := HBr.out.c0
      have c1_r := HBr.out.c1
      have c2_r := HBr.out.c2
      have c3_r := HBr.out.c3
      have c4_r := HBr.out.c4
      rw [HA0.out] at c4_r
      have XR := hide (X0.out.trans HX.out)
      by_cases hlt : k < t.kids.length
      · have hlt' : (k : Int) < (t.kids.length : Int) := by omega
        have hk0 : (0 : Int) ≤ (k : Int) := by omega
        obtain ⟨b, o, rfl, hb, q0, q1, q2, q3, q4⟩ := (Hk.out.ext XR.out).at_ hlt
        have hck := List.getElem_mem hlt
        have hcs := HSz.out _ hck
        have Hst := hide (HSt.out k hlt)
        have hrm := HSk.out k hlt
        have hon := HLn.out (t.kids[k]'hlt)
        have hss := HS.out
        have HKc := hide ((Hk.out.kids _ hck).ext XR.out)
        have HC := hide (IH.out _ hck wr HKc.out (by omega))
        have hpl : (pre ++ varsesL (t.kids.take k)).length ≤ pre.length + sizes t.kids := by rw [List.length_append]; omega
        clear hck
        generalize pre ++ varsesL (t.kids.take k) = L at *
        generalize varsL (t.kids[k]'hlt) = M at *
        generalize t.kids[k]'hlt = c at *
        go_wp2_with fail
        refine HC.out.mono ?_
        rintro e w4 ⟨⟨v4, rfl, hO4⟩, hx4⟩
        obtain ⟨A4, c4, rfl, l4, m4, hR4, -⟩ := RowOf.own treeC hO4
        have R4 := hide hR4
        have X4 := hide (HX.out.trans hx4)
        have O4 := hide (own_extB HO.out hx4)
        clear hO4 hx4 hR4
        go_wp2_with (at_builtin; refine wpList_append_row _ rfl _ _ 22 rfl W.heap.size 24 i0 _ 5 64 Tryz.underlying22 hi hz0 hz1 hz2 rfl (by decide) u3 L.length (L.flatMap treeC.f) rfl O4.out A4 M.length c4 (M.flatMap treeC.f) rfl R4.out (one_nodes M) ?c4 ?c5 ?c6 ?_)
        case c4 => unfold maxLen; omega
        case c5 => omega
        case c6 => exact X4.out.size
        intro v5 w5 hown5 hg5 _
        have X5 := hide (Ext.appU X4.out hg5 O4.out (Nat.le_refl _))
        have O5 := hide hown5
        clear hown5 hg5
        go_wp2
        go_roundw
        case rel => exact ⟨k + 1, hlt, by go_num, X5, hide (by rw [Hst.out, List.flatMap_append, List.length_append]; first | exact O5.out | (rw [hsW]; exact O5.out))⟩
        case measure => simp [intOf]; omega
      · have hge : ¬ (k : Int) < (t.kids.length : Int) := by omega
        have HF : Hid (pre ++ varsesL (t.kids.take k) = R) := hide (by rw [List.take_of_length_le (by omega)]; exact HU.out)
        rw [HF.out] at HO
        go_wp2
        go_ret
        exact ⟨⟨_, rfl, own_mono HO.out (by omega)⟩, XR.out⟩
  · have hR : varsL t = [t] := by rw [HE.out, h11]; rfl
    have HR : Hid ((varsL t).length = 1 ∧ (varsL t).flatMap treeC.f = [.int .i64 t.kind, .int .i64 t.pos, .int .i64 t.n, encStr t.text, .slice t.A t.kids.length t.cap]) := hide (by rw [hR]; exact ⟨rfl, rfl⟩)
    clear HE hR
    generalize varsL t = R at *
    unfold treeV at *
    have HN := hide h
    clear h
    generalize hA0 : t.A = A0 at *
    have HA0 := hide hA0
    clear hA0
    go_enter Tryz.func65, Tryz.ntmps65
    go_wp2
    go_ret
    rw [← hW, HR.out.1, HR.out.2]
    refine ⟨⟨_, rfl, ?_⟩, X0.out.alloc _⟩
    have := World.ownsRow_lit (base := w.heap.size) (e := 24) (size := 5) W #[.int .i64 t.kind, .int .i64 t.pos, .int .i64 t.n, encStr t.text, .slice A0 t.kids.length t.cap] 1 (by omega) (by unfold maxLen; omega) rfl
    rw [hsW] at this
    exact this

set_option maxRecDepth 10000 in
set_option maxHeartbeats 4000000 in
theorem r_consI (t : Tree) : ∀ w, NodeIn w t → t.size ≤ 100000 →
    Calls Tryz.prog 29 #[treeV t] w fun e w' => (∃ v, e = .returned v ∧ w'.ownsRow w.heap.size 39 2 v (consL t).length ((consL t).flatMap useC.f)) ∧ Ext w w' := by
  induction t using Tree.ind with
  | h t ih =>
  intro w h hsz
  obtain ⟨i0, hi, hz0, hz1, hz2⟩ := info_parts use_info
  have HE := hide (consL_eq t)
  have IH := hide ih
  clear ih
  obtain ⟨pre, hpre⟩ : ∃ pre : List Use, pre = if t.kind == 22 || t.kind == 14 then [⟨t.text, t.pos⟩] else [] := ⟨_, rfl⟩
  have HU : Hid (pre ++ consesL t.kids = consL t) := hide (by rw [HE.out, hpre])
  have hp0 : pre.length ≤ 1 := by rw [hpre]; split <;> simp
  clear HE
  have hle := h.le
  have hmx := h.max
  have htx := h.txt
  have Hk := hide h.nodes
  have HB0w := hide (NBox.new w t)
  have HSz := hide (fun k (hk : k ∈ t.kids) => Tree.size_kid hk)
  have HS : Hid (t.size = sizes t.kids + 1) := hide (Tree.size_eq t)
  have hkl := Tree.kids_len t
  obtain ⟨W, hW⟩ : ∃ W, W = w.alloc (.cells #[.int .i64 t.kind, .int .i64 t.pos, .int .i64 t.n, encStr t.text, .slice t.A t.kids.length t.cap] 24) := ⟨_, rfl⟩
  have X0 : Hid (Ext w W) := hide (by rw [hW]; exact (Ext.refl w).alloc _)
  have hsW : W.heap.size = w.heap.size + 1 := by rw [hW]; simp
  rw [← hW] at HB0w
  have HB0 := HB0w
  clear HB0w
  have HSt : Hid (∀ k (h : k < t.kids.length), pre ++ consesL (t.kids.take (k + 1)) = (pre ++ consesL (t.kids.take k)) ++ consL (t.kids[k]'h)) := hide (fun k hk => by rw [consesL_take t.kids hk, List.append_assoc])
  have HSk : Hid (∀ k (h : k < t.kids.length), (consesL (t.kids.take k)).length + (t.kids[k]'h).size ≤ sizes t.kids) := hide (fun k hk => consesL_room t.kids hk)
  have HLn : Hid (∀ c : Tree, (consL c).length ≤ c.size) := hide (fun c => consL_len c)
  cases h22 : (t.kind == 22)
  · cases h14 : (t.kind == 14)
    · rw [h22, h14, Bool.false_or, if_neg Bool.false_ne_true] at hpre
      have X1 : Hid (Ext W W) := hide (Ext.refl _)
      have O1 : Hid (W.ownsRow W.heap.size 39 2 (.slice none 0 0) (pre ++ consesL (t.kids.take 0)).length ((pre ++ consesL (t.kids.take 0)).flatMap useC.f)) := hide (by rw [hpre]; exact World.ownsRow_nil _ _ _ _)
      have Hpre := hide hpre
      clear hpre
      generalize consL t = R at *
      unfold treeV at *
      have HN := hide h
      clear h
      generalize hA0 : t.A = A0 at *
      have HA0 := hide hA0
      clear hA0
      go_enter Tryz.func29, Tryz.ntmps29
      go_wp2
      rw [← hW]
      go_loopw [3, 4] (fun v i wr => ∃ k : Nat, k ≤ t.kids.length ∧ i = .int .i64 k ∧ Hid (Ext W wr) ∧ Hid (wr.ownsRow W.heap.size 39 2 v (pre ++ consesL (t.kids.take k)).length ((pre ++ consesL (t.kids.take k)).flatMap useC.f))) (fun _ i _ => t.kids.length - (intOf i).toNat)
      case atStart => exact ⟨0, Nat.zero_le _, rfl, X1, O1⟩
      case round =>
        obtain ⟨k, hk, rfl, HX, HO⟩ := hrel
        have HBr := hide (HB0.out.ext HX.out)
        have c0_r := HBr.out.c0
        have c1_r := HBr.out.c1
        have c2_r := HBr.out.c2
        have c3_r := HBr.out.c3
        have c4_r := HBr.out.c4
        rw [HA0.out] at c4_r
        have XR := hide (X0.out.trans HX.out)
        by_cases hlt : k < t.kids.length
        · have hlt' : (k : Int) < (t.kids.length : Int) := by omega
          have hk0 : (0 : Int) ≤ (k : Int) := by omega
          obtain ⟨b, o, rfl, hb, q0, q1, q2, q3, q4⟩ := (Hk.out.ext XR.out).at_ hlt
          have hck := List.getElem_mem hlt
          have hcs := HSz.out _ hck
          have Hst := hide (HSt.out k hlt)
          have hrm := HSk.out k hlt
          have hon := HLn.out (t.kids[k]'hlt)
          have hss := HS.out
          have HKc := hide ((Hk.out.kids _ hck).ext XR.out)
          have HC := hide (IH.out _ hck wr HKc.out (by omega))
          have hpl : (pre ++ consesL (t.kids.take k)).length ≤ pre.length + sizes t.kids := by rw [List.length_append]; omega
          clear hck
          generalize pre ++ consesL (t.kids.take k) = L at *
          generalize consL (t.kids[k]'hlt) = M at *
          generalize t.kids[k]'hlt = c at *
          go_wp2_with fail
          refine HC.out.mono ?_
          rintro e w4 ⟨⟨v4, rfl, hO4⟩, hx4⟩
          obtain ⟨A4, c4, rfl, l4, m4, hR4, -⟩ := RowOf.own useC hO4
          have R4 := hide hR4
          have X4 := hide (HX.out.trans hx4)
          have O4 := hide (own_extB HO.out hx4)
          clear hO4 hx4 hR4
          go_wp2_with (at_builtin; refine wpList_append_row _ rfl _ _ 28 rfl W.heap.size 39 i0 _ 2 24 Tryz.underlying28 hi hz0 hz1 hz2 rfl (by decide) u3 L.length (L.flatMap useC.f) rfl O4.out A4 M.length c4 (M.flatMap useC.f) rfl R4.out (one_uses M) ?c4 ?c5 ?c6 ?_)
          case c4 => unfold maxLen; omega
          case c5 => omega
          case c6 => exact X4.out.size
          intro v5 w5 hown5 hg5 _
          have X5 := hide (Ext.appU X4.out hg5 O4.out (Nat.le_refl _))
          have O5 := hide hown5
          clear hown5 hg5
          go_wp2
          go_roundw
          case rel => exact ⟨k + 1, hlt, by go_num, X5, hide (by rw [Hst.out, List.flatMap_append, List.length_append]; first | exact O5.out | (rw [hsW]; exact O5.out))⟩
          case measure => simp [intOf]; omega
        · have hge : ¬ (k : Int) < (t.kids.length : Int) := by omega
          have HF : Hid (pre ++ consesL (t.kids.take k) = R) := hide (by rw [List.take_of_length_le (by omega)]; exact HU.out)
          rw [HF.out] at HO
          go_wp2
          go_ret
          exact ⟨⟨_, rfl, own_mono HO.out (by omega)⟩, XR.out⟩
    · rw [h22, h14, Bool.false_or, if_pos rfl] at hpre
      have X1 : Hid (Ext W (W.alloc (.cells #[encStr t.text, .int .i64 t.pos] 39))) := hide ((Ext.refl _).alloc _)
      have O1 : Hid ((W.alloc (.cells #[encStr t.text, .int .i64 t.pos] 39)).ownsRow W.heap.size 39 2 (.slice (some ⟨w.heap.size + 1, 0, none⟩) 1 1) (pre ++ consesL (t.kids.take 0)).length ((pre ++ consesL (t.kids.take 0)).flatMap useC.f)) := hide (by
        have := World.ownsRow_lit (base := W.heap.size) (e := 39) (size := 2) W #[encStr t.text, .int .i64 t.pos] 1 (by omega) (by unfold maxLen; omega) rfl
        rw [hpre, ← hsW]
        exact this)
      have Hpre := hide hpre
      clear hpre
      generalize consL t = R at *
      unfold treeV at *
      have HN := hide h
      clear h
      generalize hA0 : t.A = A0 at *
      have HA0 := hide hA0
      clear hA0
      go_enter Tryz.func29, Tryz.ntmps29
      go_wp2
      rw [← hW]
      go_loopw [3, 4] (fun v i wr => ∃ k : Nat, k ≤ t.kids.length ∧ i = .int .i64 k ∧ Hid (Ext W wr) ∧ Hid (wr.ownsRow W.heap.size 39 2 v (pre ++ consesL (t.kids.take k)).length ((pre ++ consesL (t.kids.take k)).flatMap useC.f))) (fun _ i _ => t.kids.length - (intOf i).toNat)
      case atStart => exact ⟨0, Nat.zero_le _, rfl, X1, O1⟩
      case round =>
        obtain ⟨k, hk, rfl, HX, HO⟩ := hrel
        have HBr := hide (HB0.out.ext HX.out)
        have c0_r := HBr.out.c0
        have c1_r := HBr.out.c1
        have c2_r := HBr.out.c2
        have c3_r := HBr.out.c3
        have c4_r := HBr.out.c4
        rw [HA0.out] at c4_r
        have XR := hide (X0.out.trans HX.out)
        by_cases hlt : k < t.kids.length
        · have hlt' : (k : Int) < (t.kids.length : Int) := by omega
          have hk0 : (0 : Int) ≤ (k : Int) := by omega
          obtain ⟨b, o, rfl, hb, q0, q1, q2, q3, q4⟩ := (Hk.out.ext XR.out).at_ hlt
          have hck := List.getElem_mem hlt
          have hcs := HSz.out _ hck
          have Hst := hide (HSt.out k hlt)
          have hrm := HSk.out k hlt
          have hon := HLn.out (t.kids[k]'hlt)
          have hss := HS.out
          have HKc := hide ((Hk.out.kids _ hck).ext XR.out)
          have HC := hide (IH.out _ hck wr HKc.out (by omega))
          have hpl : (pre ++ consesL (t.kids.take k)).length ≤ pre.length + sizes t.kids := by rw [List.length_append]; omega
          clear hck
          generalize pre ++ consesL (t.kids.take k) = L at *
          generalize consL (t.kids[k]'hlt) = M at *
          generalize t.kids[k]'hlt = c at *
          go_wp2_with fail
          refine HC.out.mono ?_
          rintro e w4 ⟨⟨v4, rfl, hO4⟩, hx4⟩
          obtain ⟨A4, c4, rfl, l4, m4, hR4, -⟩ := RowOf.own useC hO4
          have R4 := hide hR4
          have X4 := hide (HX.out.trans hx4)
          have O4 := hide (own_extB HO.out hx4)
          clear hO4 hx4 hR4
          go_wp2_with (at_builtin; refine wpList_append_row _ rfl _ _ 28 rfl W.heap.size 39 i0 _ 2 24 Tryz.underlying28 hi hz0 hz1 hz2 rfl (by decide) u3 L.length (L.flatMap useC.f) rfl O4.out A4 M.length c4 (M.flatMap useC.f) rfl R4.out (one_uses M) ?c4 ?c5 ?c6 ?_)
          case c4 => unfold maxLen; omega
          case c5 => omega
          case c6 => exact X4.out.size
          intro v5 w5 hown5 hg5 _
          have X5 := hide (Ext.appU X4.out hg5 O4.out (Nat.le_refl _))
          have O5 := hide hown5
          clear hown5 hg5
          go_wp2
          go_roundw
          case rel => exact ⟨k + 1, hlt, by go_num, X5, hide (by rw [Hst.out, List.flatMap_append, List.length_append]; first | exact O5.out | (rw [hsW]; exact O5.out))⟩
          case measure => simp [intOf]; omega
        · have hge : ¬ (k : Int) < (t.kids.length : Int) := by omega
          have HF : Hid (pre ++ consesL (t.kids.take k) = R) := hide (by rw [List.take_of_length_le (by omega)]; exact HU.out)
          rw [HF.out] at HO
          go_wp2
          go_ret
          exact ⟨⟨_, rfl, own_mono HO.out (by omega)⟩, XR.out⟩
  · rw [h22, Bool.true_or, if_pos rfl] at hpre
    have X1 : Hid (Ext W (W.alloc (.cells #[encStr t.text, .int .i64 t.pos] 39))) := hide ((Ext.refl _).alloc _)
    have O1 : Hid ((W.alloc (.cells #[encStr t.text, .int .i64 t.pos] 39)).ownsRow W.heap.size 39 2 (.slice (some ⟨w.heap.size + 1, 0, none⟩) 1 1) (pre ++ consesL (t.kids.take 0)).length ((pre ++ consesL (t.kids.take 0)).flatMap useC.f)) := hide (by
      have := World.ownsRow_lit (base := W.heap.size) (e := 39) (size := 2) W #[encStr t.text, .int .i64 t.pos] 1 (by omega) (by unfold maxLen; omega) rfl
      rw [hpre, ← hsW]
      exact this)
    have Hpre := hide hpre
    clear hpre
    generalize consL t = R at *
    unfold treeV at *
    have HN := hide h
    clear h
    generalize hA0 : t.A = A0 at *
    have HA0 := hide hA0
    clear hA0
    go_enter Tryz.func29, Tryz.ntmps29
    go_wp2
    rw [← hW]
    go_loopw [3, 4] (fun v i wr => ∃ k : Nat, k ≤ t.kids.length ∧ i = .int .i64 k ∧ Hid (Ext W wr) ∧ Hid (wr.ownsRow W.heap.size 39 2 v (pre ++ consesL (t.kids.take k)).length ((pre ++ consesL (t.kids.take k)).flatMap useC.f))) (fun _ i _ => t.kids.length - (intOf i).toNat)
    case atStart => exact ⟨0, Nat.zero_le _, rfl, X1, O1⟩
    case round =>
      obtain ⟨k, hk, rfl, HX, HO⟩ := hrel
      have HBr := hide (HB0.out.ext HX.out)
      have c0_r := HBr.out.c0
      have c1_r := HBr.out.c1
      have c2_r := HBr.out.c2
      have c3_r := HBr.out.c3
      have c4_r := HBr.out.c4
      rw [HA0.out] at c4_r
      have XR := hide (X0.out.trans HX.out)
      by_cases hlt : k < t.kids.length
      · have hlt' : (k : Int) < (t.kids.length : Int) := by omega
        have hk0 : (0 : Int) ≤ (k : Int) := by omega
        obtain ⟨b, o, rfl, hb, q0, q1, q2, q3, q4⟩ := (Hk.out.ext XR.out).at_ hlt
        have hck := List.getElem_mem hlt
        have hcs := HSz.out _ hck
        have Hst := hide (HSt.out k hlt)
        have hrm := HSk.out k hlt
        have hon := HLn.out (t.kids[k]'hlt)
        have hss := HS.out
        have HKc := hide ((Hk.out.kids _ hck).ext XR.out)
        have HC := hide (IH.out _ hck wr HKc.out (by omega))
        have hpl : (pre ++ consesL (t.kids.take k)).length ≤ pre.length + sizes t.kids := by rw [List.length_append]; omega
        clear hck
        generalize pre ++ consesL (t.kids.take k) = L at *
        generalize consL (t.kids[k]'hlt) = M at *
        generalize t.kids[k]'hlt = c at *
        go_wp2_with fail
        refine HC.out.mono ?_
        rintro e w4 ⟨⟨v4, rfl, hO4⟩, hx4⟩
        obtain ⟨A4, c4, rfl, l4, m4, hR4, -⟩ := RowOf.own useC hO4
        have R4 := hide hR4
        have X4 := hide (HX.out.trans hx4)
        have O4 := hide (own_extB HO.out hx4)
        clear hO4 hx4 hR4
        go_wp2_with (at_builtin; refine wpList_append_row _ rfl _ _ 28 rfl W.heap.size 39 i0 _ 2 24 Tryz.underlying28 hi hz0 hz1 hz2 rfl (by decide) u3 L.length (L.flatMap useC.f) rfl O4.out A4 M.length c4 (M.flatMap useC.f) rfl R4.out (one_uses M) ?c4 ?c5 ?c6 ?_)
        case c4 => unfold maxLen; omega
        case c5 => omega
        case c6 => exact X4.out.size
        intro v5 w5 hown5 hg5 _
        have X5 := hide (Ext.appU X4.out hg5 O4.out (Nat.le_refl _))
        have O5 := hide hown5
        clear hown5 hg5
        go_wp2
        go_roundw
        case rel => exact ⟨k + 1, hlt, by go_num, X5, hide (by rw [Hst.out, List.flatMap_append, List.length_append]; first | exact O5.out | (rw [hsW]; exact O5.out))⟩
        case measure => simp [intOf]; omega
      · have hge : ¬ (k : Int) < (t.kids.length : Int) := by omega
        have HF : Hid (pre ++ consesL (t.kids.take k) = R) := hide (by rw [List.take_of_length_le (by omega)]; exact HU.out)
        rw [HF.out] at HO
        go_wp2
        go_ret
        exact ⟨⟨_, rfl, own_mono HO.out (by omega)⟩, XR.out⟩

end Go.Proofs.YtnbnhchgkbbiiaaGreat

/- Contracts on the reference: the names that nodes bind, of the variables of a pattern; the constructors of an expression. -/
namespace Go.Proofs.YtnbnhchgkbbiiaaGreat
open Go.RowKit Go.Sort

set_option maxRecDepth 10000 in
set_option maxHeartbeats 1000000 in
theorem r_binds14o (A : Option Addr) (cap : Nat) (l : List Tree) (w : World) (h : NodesIn w A l) (hl : l.length ≤ 100000) :
    Calls Tryz.prog 39 #[.slice A l.length cap] w fun e w' => (∃ v, e = .returned v ∧ w'.ownsRow w.heap.size 9 1 v (bindsL l).length ((bindsL l).map encStr)) ∧ Ext w w' := by
  obtain ⟨i0, hi, hz0, hz1, hz2⟩ := info_parts str_infoU
  have HK := hide h
  have Htk := hide (fun k (hk : k < l.length) => bindsL_take l hk)
  have Hln := hide (fun k => bindsL_len (l.take k))
  have HR : Hid (bindsL (l.take l.length) = bindsL l) := hide (by rw [List.take_length])
  generalize bindsL l = R at *
  clear h
  go_enter Tryz.func39, Tryz.ntmps39
  go_wp2
  go_loopw [3, 4] (fun v i wr => ∃ k : Nat, k ≤ l.length ∧ i = .int .i64 k ∧ Hid (Ext w wr) ∧ Hid (wr.ownsRow w.heap.size 9 1 v (bindsL (l.take k)).length ((bindsL (l.take k)).map encStr))) (fun _ i _ => l.length - (intOf i).toNat)
  case atStart => exact ⟨0, Nat.zero_le _, rfl, hide (Ext.refl _), hide (World.ownsRow_nil _ _ _ _)⟩
  case round =>
    obtain ⟨k, hk, rfl, HX, HO⟩ := hrel
    by_cases hlt : k < l.length
    · have hlt' : (k : Int) < (l.length : Int) := by omega
      have hk0 : (0 : Int) ≤ (k : Int) := by omega
      obtain ⟨b, o, rfl, hb, q0, q1, q2, q3, q4⟩ := (HK.out.ext HX.out).at_ hlt
      have Hst := hide (Htk.out k hlt)
      have hol : (bindsL (l.take k)).length ≤ k := by have := Hln.out k; rw [List.length_take] at this; omega
      generalize bindsL (l.take k) = L at *
      generalize l[k]'hlt = c at *
      cases hc : (c.kind == 31)
      · rw [hc] at Hst
        go_wp2
        go_roundw
        case rel => exact ⟨k + 1, hlt, by go_num, HX, hide (by rw [Hst.out]; simpa using HO.out)⟩
        case measure => simp [intOf]; omega
      · rw [hc] at Hst
        go_wp2_with (at_builtin; refine wpList_append_row _ rfl _ _ 31 rfl w.heap.size 9 i0 _ 1 16 Tryz.underlying31 hi hz0 hz1 hz2 rfl (by decide) u3 L.length (L.map encStr) rfl (own_extB HO.out ((Ext.refl _).alloc _)) _ 1 1 [encStr c.text] rfl ?c2 ?c3 ?c4 ?c5 ?c6 ?_)
        case c2 => exact Strs.boxedU _ (at_newB _ _ _ (by simp))
        case c3 => first | rfl | (intro y hy; simp at hy; subst hy; rfl)
        case c4 => unfold maxLen; omega
        case c5 => omega
        case c6 => have := HX.out.size; simp; omega
        intro v4 w4 hown4 hg4 _
        have X4 := hide (Ext.appU (HX.out.alloc _) hg4 (own_extB HO.out ((Ext.refl _).alloc _)) (Nat.le_refl _))
        have O4 := hide hown4
        clear hown4 hg4
        go_wp2
        go_roundw
        case rel => exact ⟨k + 1, hlt, by go_num, X4, hide (by rw [Hst.out]; simpa using O4.out)⟩
        case measure => simp [intOf]; omega
    · have hge : ¬ (k : Int) < (l.length : Int) := by omega
      have hkl : k = l.length := by omega
      rw [hkl, HR.out] at HO
      clear hkl
      go_wp2
      go_ret
      exact ⟨⟨_, rfl, HO.out⟩, HX.out⟩

set_option maxRecDepth 10000 in
set_option maxHeartbeats 2000000 in
theorem r_vars08 (t : Tree) (w : World) (h : NodeIn w t) (hsz : t.size ≤ 100000) :
    Calls Tryz.prog 40 #[treeV t] w fun e w' => (∃ v, e = .returned v ∧ w'.ownsRow w.heap.size 9 1 v (varsN t).length ((varsN t).map encStr)) ∧ Ext w w' := by
  obtain ⟨i0, hi, hz0, hz1, hz2⟩ := info_parts str_infoU
  have X0 : Hid (Ext w (w.alloc (.cells #[.int .i64 t.kind, .int .i64 t.pos, .int .i64 t.n, encStr t.text, .slice t.A t.kids.length t.cap] 24))) := hide ((Ext.refl w).alloc _)
  have HC := hide (r_varsI t _ (h.ext X0.out) hsz)
  have hln := varsL_len t
  have HIn := hide (varsL_in h)
  have HR : Hid ((varsL t).map Tree.text = varsN t) := hide rfl
  generalize varsN t = R at *
  clear h
  unfold treeV at *
  generalize varsL t = l at *
  go_enter Tryz.func40, Tryz.ntmps40
  go_wp2_with fail
  refine HC.out.mono ?_
  rintro e w2 ⟨⟨v2, rfl, hO2⟩, hx2⟩
  obtain ⟨A2, c2, rfl, r1, r2, r3, -⟩ := RowOf.own treeC hO2
  have X2 : Hid (Ext w w2) := hide (X0.out.trans hx2)
  have HK : Hid (NodesIn w2 A2 l) := hide ⟨r3, fun k hk => (HIn.out k hk).ext X2.out⟩
  clear hO2 hx2 r3
  go_wp2
  go_loopw [4, 5] (fun v i wr => ∃ k : Nat, k ≤ l.length ∧ i = .int .i64 k ∧ Hid (Ext w2 wr) ∧ Hid (wr.ownsRow w2.heap.size 9 1 v ((l.take k).map Tree.text).length (((l.take k).map Tree.text).map encStr))) (fun _ i _ => l.length - (intOf i).toNat)
  case atStart => exact ⟨0, Nat.zero_le _, rfl, hide (Ext.refl _), hide (World.ownsRow_nil _ _ _ _)⟩
  case round =>
    obtain ⟨k, hk, rfl, HX, HO⟩ := hrel
    by_cases hlt : k < l.length
    · have hlt' : (k : Int) < (l.length : Int) := by omega
      have hk0 : (0 : Int) ≤ (k : Int) := by omega
      obtain ⟨b, o, rfl, hb, q0, q1, q2, q3, q4⟩ := (HK.out.ext HX.out).at_ hlt
      have Hst := hide (texts_take l hlt)
      have hol : ((l.take k).map Tree.text).length ≤ k := by simp; omega
      generalize (l.take k).map Tree.text = L at *
      generalize l[k]'hlt = c at *
      go_wp2_with (at_builtin; refine wpList_append_row _ rfl _ _ 31 rfl w2.heap.size 9 i0 _ 1 16 Tryz.underlying31 hi hz0 hz1 hz2 rfl (by decide) u4 L.length (L.map encStr) rfl (own_extB HO.out (by repeat (first | exact Ext.refl _ | exact Ext.pre (by simp) | exact Ext.alloc (by assumption) _ | refine Ext.alloc ?_ _ |  refine Ext.more ?_ _ _ | refine Ext.drew ?_ | refine Ext.drewN ?_ _))) _ 1 1 [encStr c.text] rfl ?c2 ?c3 ?c4 ?c5 ?c6 ?_)
      case c2 => exact Strs.boxedU _ (at_newB _ _ _ (by simp))
      case c3 => first | rfl | (intro y hy; simp at hy; subst hy; rfl)
      case c4 => unfold maxLen; omega
      case c5 => omega
      case c6 => have := HX.out.size; simp; omega
      intro v4 w4 hown4 hg4 _
      have X4 : Hid (Ext w2 w4) := hide (Ext.appU (HX.out.alloc _) hg4 (own_extB HO.out ((Ext.refl _).alloc _)) (Nat.le_refl _))
      have O4 := hide hown4
      clear hown4 hg4
      go_wp2
      go_roundw
      case rel => exact ⟨k + 1, hlt, by go_num, X4, hide (by rw [Hst.out]; simpa using O4.out)⟩
      case measure => simp [intOf]; omega
    · have hge : ¬ (k : Int) < (l.length : Int) := by omega
      have hkl : l.take k = l := List.take_of_length_le (by omega)
      rw [hkl, HR.out] at HO
      clear hkl
      have hsz2 := X2.out.size
      go_wp2
      go_ret
      exact ⟨⟨_, rfl, own_mono HO.out hsz2⟩, X2.out.trans HX.out⟩

set_option maxRecDepth 10000 in
set_option maxHeartbeats 2000000 in
theorem r_cons14 (t : Tree) (w : World) (h : NodeIn w t) (hsz : t.size ≤ 90000) :
    Calls Tryz.prog 13 #[treeV t] w fun e w' => (∃ A cap, e = .returned (.slice A (consE t).length cap) ∧ (consE t).length ≤ cap ∧ cap ≤ 9223372036854775807 ∧ Uses w' A (consE t)) ∧ Ext w w' := by
  have HX := hide (fun w' (e : Ext w w') => hide (r_exp t w' (h.ext e) (by omega)))
  have X1 : Hid (Ext w (w.alloc (.cells #[.int .i64 t.kind, .int .i64 t.pos, .int .i64 t.n, encStr t.text, .slice t.A t.kids.length t.cap] 24))) := hide ((Ext.refl _).alloc _)
  have HB1 := hide (NBox.new w t)
  have HC := hide (fun w' (e : Ext w w') => hide (r_consI t w' (h.ext e) (by omega)))
  cases he : isExpB t
  · have hU : consE t = [] := by unfold consE; rw [he]; rfl
    rw [hU]
    rw [he] at HX
    clear h he hU HC
    unfold treeV at *
    go_enter Tryz.func13, Tryz.ntmps13
    go_wp2_with fail
    refine (HX.out _ X1.out).out.mono ?_
    rintro e w2 ⟨rfl, hx2⟩
    go_wp2
    go_ret
    exact ⟨⟨none, 0, rfl, Nat.le_refl _, by omega, RowOf.nil _ _ _⟩, X1.out.trans hx2⟩
  · have hU : consE t = consL t := by unfold consE; rw [he]; rfl
    rw [hU]
    rw [he] at HX
    clear h he hU
    generalize consL t = L at *
    unfold treeV at *
    go_enter Tryz.func13, Tryz.ntmps13
    go_wp2_with fail
    refine (HX.out _ X1.out).out.mono ?_
    rintro e w2 ⟨rfl, hx2⟩
    have X2 := hide (X1.out.trans hx2)
    have HB2 := hide (HB1.out.ext hx2)
    have c0 := HB2.out.c0
    have c1 := HB2.out.c1
    have c2 := HB2.out.c2
    have c3 := HB2.out.c3
    have c4 := HB2.out.c4
    clear hx2
    go_wp2_with fail
    refine (HC.out _ X2.out).out.mono ?_
    rintro e w3 ⟨⟨v3, rfl, hO3⟩, hx3⟩
    obtain ⟨A4, cp4, rfl, p1, p2, p3, -⟩ := Use.own hO3
    have P3 := hide p3
    have X3 := hide (X2.out.trans hx3)
    clear hO3 hx3 p3
    go_wp2
    go_ret
    exact ⟨⟨A4, cp4, rfl, p1, p2, P3.out⟩, X3.out⟩

end Go.Proofs.YtnbnhchgkbbiiaaGreat

/- What the reference's walk over names gathers: the plain law. -/
namespace Go.Proofs.YtnbnhchgkbbiiaaGreat
open Go.RowKit Go.Sort

/-- What the walk takes from a node is there, and nothing else. -/
def shapeOk (t : Tree) : Prop := (t.kind = 21 → t.kids.length = 0) ∧ (t.kind = 25 → t.kids.length = 1) ∧ (t.kind = 15 → t.kids.length = 2)
def refOk : Tree → Prop := Tree.fold fun t l => t.kind = 32 ∨ (shapeOk t ∧ ∀ q ∈ (if t.kind = 15 then l.drop 1 else l), q)
theorem refOk_eq (t : Tree) : refOk t ↔ t.kind = 32 ∨ (shapeOk t ∧ ∀ k ∈ inner t, refOk k) := by
  unfold refOk
  rw [Tree.fold_eq]
  unfold inner
  constructor
  · rintro (h | ⟨h1, h2⟩)
    · exact .inl h
    · refine .inr ⟨h1, fun k hk => ?_⟩
      split at hk
      · rename_i e
        rw [if_pos e] at h2
        exact h2 _ (by rw [← List.map_drop]; exact List.mem_map.2 ⟨k, hk, rfl⟩)
      · rename_i e
        rw [if_neg e] at h2
        exact h2 _ (List.mem_map.2 ⟨k, hk, rfl⟩)
  · rintro (h | ⟨h1, h2⟩)
    · exact .inl h
    · refine .inr ⟨h1, fun q hq => ?_⟩
      split at hq
      · rename_i e
        rw [if_pos e] at h2
        rw [← List.map_drop] at hq
        obtain ⟨k, hk, rfl⟩ := List.mem_map.1 hq
        exact h2 k hk
      · rename_i e
        rw [if_neg e] at h2
        obtain ⟨k, hk, rfl⟩ := List.mem_map.1 hq
        exact h2 k hk
/-- An expression may be gone into. -/
theorem exp_refs : ∀ n (t : Tree), t.size ≤ n → (expB t = true → refOk t) ∧ (bindB t = true → refOk t) ∧ (altB t = true → refOk t) ∧ (sigB t = true → refOk t) := by
  intro n
  induction n with
  | zero => intro t h; have := t.size_pos; omega
  | succ n IH =>
    intro t hsz
    have ih : ∀ k ∈ t.kids, (expB k = true → refOk k) ∧ (bindB k = true → refOk k) ∧ (altB k = true → refOk k) ∧ (sigB k = true → refOk k) := fun k hk => IH k (by have := Tree.size_kid hk; omega)
    have key : shapeOk t → (∀ k ∈ t.kids, refOk k) → refOk t := fun h1 h2 => (refOk_eq t).2 (.inr ⟨h1, fun k hk => h2 k (inner_mem hk)⟩)
    have kall : t.kids.all expB = true → ∀ k ∈ t.kids, refOk k := fun h k hk => (ih k hk).1 (List.all_eq_true.1 h k hk)
    have kone : t.kids.length = 1 → expB (t.kid 0) = true → ∀ k ∈ t.kids, refOk k := fun h1 h2 k hk => by
      obtain ⟨i, hi, rfl⟩ := List.getElem_of_mem hk
      have : i = 0 := by omega
      subst this
      rw [kid_get hi] at h2
      exact (ih _ hk).1 h2
    have knil : t.kids.length = 0 → ∀ k ∈ t.kids, refOk k := fun h k hk => by rw [List.eq_nil_of_length_eq_zero h] at hk; cases hk
    refine ⟨fun h => ?_, fun h => ?_, fun h => ?_, fun h => ?_⟩
    · by_cases h0 : t.kind = 21
      · rw [exp_var t h0] at h; simp only [Bool.and_eq_true, decide_eq_true_eq] at h
        exact key (by refine ⟨fun e => ?_, fun e => ?_, fun e => ?_⟩ <;> omega) (knil h.2)
      by_cases h1 : t.kind = 22
      · rw [exp_con t h1] at h; simp only [Bool.and_eq_true, decide_eq_true_eq] at h
        exact key (by refine ⟨fun e => ?_, fun e => ?_, fun e => ?_⟩ <;> omega) (knil h.2)
      by_cases h2 : t.kind = 23
      · rw [exp_int t h2] at h; simp only [Bool.and_eq_true, decide_eq_true_eq] at h
        exact key (by refine ⟨fun e => ?_, fun e => ?_, fun e => ?_⟩ <;> omega) (knil h.2)
      by_cases h3 : t.kind = 24
      · rw [exp_app t h3] at h; simp only [Bool.and_eq_true, decide_eq_true_eq] at h
        exact key (by refine ⟨fun e => ?_, fun e => ?_, fun e => ?_⟩ <;> omega) (kall h.2)
      by_cases h4 : t.kind = 25
      · rw [exp_lam t h4] at h; simp only [Bool.and_eq_true, decide_eq_true_eq] at h
        exact key (by refine ⟨fun e => ?_, fun e => ?_, fun e => ?_⟩ <;> omega) (kone h.1.2 h.2)
      by_cases h5 : t.kind = 26
      · rw [exp_let t h5] at h; simp only [Bool.and_eq_true, decide_eq_true_eq] at h
        obtain ⟨⟨⟨_, g1⟩, g2⟩, g3⟩ := h
        refine key (by refine ⟨fun e => ?_, fun e => ?_, fun e => ?_⟩ <;> omega) (fun k hk => ?_)
        obtain ⟨i, hi, rfl⟩ := List.getElem_of_mem hk
        by_cases hl : i = t.kids.length - 1
        · subst hl
          rw [kid_get hi] at g3
          exact (ih _ hk).1 g3
        · have g4 := List.all_eq_true.1 g2 (t.kids[i]'hi) (by rw [List.mem_take_iff_getElem]; exact ⟨i, by omega, rfl⟩)
          unfold withinB at g4
          rw [Bool.or_eq_true] at g4
          rcases g4 with g4 | g4
          · exact (ih _ hk).2.1 g4
          · exact (ih _ hk).2.2.2 g4
      by_cases h6 : t.kind = 27
      · rw [exp_case t h6] at h; simp only [Bool.and_eq_true, decide_eq_true_eq] at h
        obtain ⟨⟨⟨_, g1⟩, g2⟩, g3⟩ := h
        refine key (by refine ⟨fun e => ?_, fun e => ?_, fun e => ?_⟩ <;> omega) (fun k hk => ?_)
        obtain ⟨i, hi, rfl⟩ := List.getElem_of_mem hk
        by_cases hl : i = 0
        · subst hl
          rw [kid_get hi] at g2
          exact (ih _ hk).1 g2
        · have g4 := List.all_eq_true.1 g3 (t.kids[i]'hi) (by rw [List.mem_drop_iff_getElem]; exact ⟨i - 1, by omega, by congr 1; omega⟩)
          exact (ih _ hk).2.2.1 g4
      by_cases h7 : t.kind = 28
      · rw [exp_if t h7] at h; simp only [Bool.and_eq_true, decide_eq_true_eq] at h
        exact key (by refine ⟨fun e => ?_, fun e => ?_, fun e => ?_⟩ <;> omega) (kall h.2)
      rw [exp_else t h0 h1 h2 h3 h4 h5 h6 h7] at h
      cases h
    · rw [bind_eq] at h; simp only [Bool.and_eq_true, decide_eq_true_eq] at h
      exact key (by refine ⟨fun e => ?_, fun e => ?_, fun e => ?_⟩ <;> omega) (kone h.1.2 h.2)
    · rw [alt_eq] at h; simp only [Bool.and_eq_true, decide_eq_true_eq] at h
      obtain ⟨⟨⟨⟨g0, _⟩, g1⟩, _⟩, g3⟩ := h
      refine (refOk_eq t).2 (.inr ⟨by refine ⟨fun e => ?_, fun e => ?_, fun e => ?_⟩ <;> omega, fun k hk => ?_⟩)
      unfold inner at hk
      rw [if_pos g0] at hk
      rw [List.mem_drop_iff_getElem] at hk
      obtain ⟨i, hi, rfl⟩ := hk
      have : i = 0 := by omega
      subst this
      have hi1 : 1 < t.kids.length := by omega
      rw [kid_get hi1] at g3
      exact (ih _ (List.getElem_mem hi1)).1 g3
    · unfold sigB at h; simp only [Bool.and_eq_true, decide_eq_true_eq] at h
      exact (refOk_eq t).2 (.inl h.1.1.1)
theorem expB_refs {t : Tree} (h : expB t = true) : refOk t := (exp_refs t.size t (Nat.le_refl _)).1 h

/-- Names that are bound. -/
abbrev inL (bl : List Str) : Str → Bool := fun x => bl.any (· == x)
theorem inL_app (a b : List Str) : (fun s => a.any (· == s) || inL b s) = inL (a ++ b) := by
  funext s
  show (_ || _) = _
  unfold inL
  rw [List.any_append]
section
variable {t : Tree} {bl : List Str}
theorem refOk_sh (h : refOk t) (h32 : (t.kind == 32) = false) : shapeOk t ∧ ∀ k ∈ inner t, refOk k := by
  rcases (refOk_eq t).1 h with h | h
  · rw [h] at h32; cases h32
  · exact h
theorem kind_ne {n : Int} (h : (t.kind == n) = false) : t.kind ≠ n := fun e => by rw [e] at h; simp at h
theorem kind_eq {n : Int} (h : (t.kind == n) = true) : t.kind = n := by simpa using h
theorem uses_sig (p : Str → Bool) (h : (t.kind == 32) = true) : usesL t p = [] := by rw [usesL_eq, if_pos (kind_eq h)]
theorem own_no (p : Str → Bool) (h : (t.kind == 21) = false) : ownU t p = [] := by unfold ownU; rw [h]; rfl
theorem inner_else (h15 : (t.kind == 15) = false) : inner t = t.kids := by unfold inner; rw [if_neg (kind_ne h15)]
theorem uses_var1 (p : Str → Bool) (h : (t.kind == 21) = true) (hl : t.kids.length = 0) : usesL t p = if p t.text then [] else [⟨t.text, t.pos⟩] := by
  have h1 := kind_eq h
  rw [usesL_eq, if_neg (by omega), inner_else (by rw [h1]; rfl), List.eq_nil_of_length_eq_zero hl]
  unfold ownU
  rw [h]
  cases p t.text <;> simp [usesesL]
theorem usesesL_one (k : Tree) (p : Str → Bool) : usesesL [k] p = usesL k p := by unfold usesesL; simp
theorem uses_lam1 (h : (t.kind == 25) = true) (hl : 0 < t.kids.length) (hl1 : t.kids.length = 1) : usesL t (inL bl) = usesL (t.kids[0]'hl) (inL ([t.text] ++ bl)) := by
  have h1 := kind_eq h
  have h3 : t.kids = [t.kids[0]'hl] := by
    refine List.ext_getElem (by simp [hl1]) (fun i a b => ?_)
    have : i = 0 := by simp at b; omega
    subst this
    rfl
  have hb : bp t (inL bl) = inL ([t.text] ++ bl) := by unfold bp; rw [if_pos h1]; exact inL_app _ _
  rw [usesL_eq, if_neg (by omega), own_no _ (by rw [h1]; rfl), inner_else (by rw [h1]; rfl), hb, List.nil_append]
  conv => lhs; rw [h3]
  exact usesesL_one _ _
theorem uses_let1 (h : (t.kind == 26) = true) : usesL t (inL bl) = usesesL t.kids (inL (bindsL t.kids ++ bl)) := by
  have h1 := kind_eq h
  have hb : bp t (inL bl) = inL (bindsL t.kids ++ bl) := by unfold bp; rw [if_neg (by omega), if_pos h1]; exact inL_app _ _
  rw [usesL_eq, if_neg (by omega), own_no _ (by rw [h1]; rfl), inner_else (by rw [h1]; rfl), hb, List.nil_append]
theorem uses_alt1 (h : (t.kind == 15) = true) (hl : 1 < t.kids.length) (hl0 : 0 < t.kids.length) (hl1 : t.kids.length = 2) : usesL t (inL bl) = usesL (t.kids[1]'hl) (inL (varsN (t.kids[0]'hl0) ++ bl)) := by
  have h1 := kind_eq h
  have h3 : t.kids.drop 1 = [t.kids[1]'hl] := by
    refine List.ext_getElem (by simp [hl1]) (fun i a b => ?_)
    have : i = 0 := by simp at b; omega
    subst this
    simp
  have hi : inner t = t.kids.drop 1 := by unfold inner; rw [if_pos h1]
  have hb : bp t (inL bl) = inL (varsN (t.kids[0]'hl0) ++ bl) := by unfold bp; rw [if_neg (by omega), if_neg (by omega), if_pos h1, kid_get hl0]; exact inL_app _ _
  rw [usesL_eq, if_neg (by omega), own_no _ (by rw [h1]; rfl), hi, hb, List.nil_append, h3]
  exact usesesL_one _ _
theorem uses_else1 (p : Str → Bool) (h21 : (t.kind == 21) = false) (h25 : (t.kind == 25) = false) (h26 : (t.kind == 26) = false) (h15 : (t.kind == 15) = false) (h32 : (t.kind == 32) = false) : usesL t p = usesesL t.kids p := by
  have hb : bp t p = p := by unfold bp; rw [if_neg (kind_ne h25), if_neg (kind_ne h26), if_neg (kind_ne h15)]
  rw [usesL_eq, if_neg (kind_ne h32), own_no _ h21, inner_else h15, hb, List.nil_append]
theorem kid_room {k : Tree} (h : k ∈ t.kids) : k.size + t.kids.length ≤ t.size := by
  rw [Tree.size_eq t]
  have : ∀ l : List Tree, k ∈ l → k.size + l.length ≤ (l.map Tree.size).sum + 1 := by
    intro l
    induction l with
    | nil => intro h; cases h
    | cons x l ih =>
      intro hk
      simp only [List.map_cons, List.sum_cons, List.length_cons]
      have hx := x.size_pos
      rcases List.mem_cons.1 hk with rfl | hk
      · have : ∀ l : List Tree, l.length ≤ (l.map Tree.size).sum := by
          intro l
          induction l with
          | nil => simp
          | cons y l ih => have := y.size_pos; simp only [List.map_cons, List.sum_cons, List.length_cons]; omega
        have := this l
        omega
      · have := ih hk; omega
  exact this _ h
end

end Go.Proofs.YtnbnhchgkbbiiaaGreat

/- Contract on the reference: the names that a tree uses, in which some are bound: a variable, a signature, a lambda. -/
namespace Go.Proofs.YtnbnhchgkbbiiaaGreat
open Go.RowKit Go.Sort

/-- What the contract says of a tree. -/
def WithinAt (t : Tree) : Prop := ∀ (w : World) (AB : Option Addr) (cB : Nat) (bl : List Str), NodeIn w t → refOk t → Strs w AB bl → bl.length ≤ cB → cB ≤ 9223372036854775807 → bl.length + t.size ≤ 100000 →
    Calls Tryz.prog 23 #[treeV t, .slice AB bl.length cB] w fun e w' => (∃ v, e = .returned v ∧ w'.ownsRow w.heap.size 39 2 v (usesL t (inL bl)).length ((usesL t (inL bl)).flatMap useC.f)) ∧ Ext w w'

set_option maxRecDepth 10000 in
set_option maxHeartbeats 4000000 in
theorem within_var (t : Tree) (h21 : (t.kind == 21) = true) : WithinAt t := by
  intro w AB cB bl h hok hB hBl hBm hsz
  obtain ⟨i0, hi, hz0, hz1, hz2⟩ := info_parts use_info
  obtain ⟨i1, hj, hy0, hy1, hy2⟩ := info_parts str_infoU
  have hle := h.le
  have hmx := h.max
  have htx := h.txt
  have Hk := hide h.nodes
  have HB0w := hide (NBox.new w t)
  have HSz := hide (fun k (hk : k ∈ t.kids) => Tree.size_kid hk)
  have HS : Hid (t.size = sizes t.kids + 1) := hide (Tree.size_eq t)
  have hkl := Tree.kids_len t
  obtain ⟨W, hW⟩ : ∃ W, W = w.alloc (.cells #[.int .i64 t.kind, .int .i64 t.pos, .int .i64 t.n, encStr t.text, .slice t.A t.kids.length t.cap] 24) := ⟨_, rfl⟩
  have X0 : Hid (Ext w W) := hide (by rw [hW]; exact (Ext.refl w).alloc _)
  have hsW : W.heap.size = w.heap.size + 1 := by rw [hW]; simp
  rw [← hW] at HB0w
  have HB0 := HB0w
  clear HB0w
  have HS0 := hide (hB.ext X0.out)
  have HH := hide (ref_has AB cB bl t.text W HS0.out (by omega))
  have HRo := hide hok
  have hBle := hBl
  have hBmx := hBm
  clear hB
  have hl0 : t.kids.length = 0 := (refOk_sh HRo.out (by rw [kind_eq h21]; rfl)).1.1 (kind_eq h21)
  have hR : usesL t (inL bl) = if bl.any (· == t.text) then [] else [⟨t.text, t.pos⟩] := uses_var1 _ h21 hl0
  clear hl0
  cases hb : bl.any (· == t.text)
  · rw [hb, if_neg Bool.false_ne_true] at hR
    rw [hb] at HH
    rw [hR]
    clear hR hb
    unfold treeV at *
    go_enter Tryz.func23, Tryz.ntmps23
    go_wp2_with fail
    rw [← hW]
    clear hW
    refine HH.out.mono ?_
    rintro e w2 ⟨rfl, rfl⟩
    have c1 := HB0.out.c1
    have c3 := HB0.out.c3
    go_wp2
    go_ret
    refine ⟨⟨_, rfl, ?_⟩, X0.out.alloc _⟩
    have := World.ownsRow_lit (base := w.heap.size) (e := 39) (size := 2) w2 #[encStr t.text, .int .i64 t.pos] 1 (by omega) (by unfold maxLen; omega) rfl
    first | exact this | (rw [hsW] at this; exact this)
  · rw [hb, if_pos rfl] at hR
    rw [hb] at HH
    rw [hR]
    clear hR hb
    unfold treeV at *
    go_enter Tryz.func23, Tryz.ntmps23
    go_wp2_with fail
    rw [← hW]
    clear hW
    refine HH.out.mono ?_
    rintro e w2 ⟨rfl, rfl⟩
    go_wp2
    go_ret
    exact ⟨⟨_, rfl, World.ownsRow_nil _ _ _ _⟩, X0.out⟩

set_option maxRecDepth 10000 in
set_option maxHeartbeats 4000000 in
theorem within_sig (t : Tree) (h21 : (t.kind == 21) = false) (h25 : (t.kind == 25) = false) (h26 : (t.kind == 26) = false) (h15 : (t.kind == 15) = false) (h32 : (t.kind == 32) = true) : WithinAt t := by
  intro w AB cB bl h hok hB hBl hBm hsz
  obtain ⟨i0, hi, hz0, hz1, hz2⟩ := info_parts use_info
  obtain ⟨i1, hj, hy0, hy1, hy2⟩ := info_parts str_infoU
  have hle := h.le
  have hmx := h.max
  have htx := h.txt
  have Hk := hide h.nodes
  have HB0w := hide (NBox.new w t)
  have HSz := hide (fun k (hk : k ∈ t.kids) => Tree.size_kid hk)
  have HS : Hid (t.size = sizes t.kids + 1) := hide (Tree.size_eq t)
  have hkl := Tree.kids_len t
  obtain ⟨W, hW⟩ : ∃ W, W = w.alloc (.cells #[.int .i64 t.kind, .int .i64 t.pos, .int .i64 t.n, encStr t.text, .slice t.A t.kids.length t.cap] 24) := ⟨_, rfl⟩
  have X0 : Hid (Ext w W) := hide (by rw [hW]; exact (Ext.refl w).alloc _)
  have hsW : W.heap.size = w.heap.size + 1 := by rw [hW]; simp
  rw [← hW] at HB0w
  have HB0 := HB0w
  clear HB0w
  have HS0 := hide (hB.ext X0.out)
  have HH := hide (ref_has AB cB bl t.text W HS0.out (by omega))
  have HRo := hide hok
  have hBle := hBl
  have hBmx := hBm
  clear hB
  have hR : usesL t (inL bl) = [] := uses_sig _ h32
  rw [hR]
  clear hR
  unfold treeV at *
  have HN := hide h
  clear h
  generalize hA0 : t.A = A0 at *
  have HA0 := hide hA0
  clear hA0
  go_enter Tryz.func23, Tryz.ntmps23
  go_wp2
  go_ret
  rw [← hW]
  clear hW
  exact ⟨⟨_, rfl, World.ownsRow_nil _ _ _ _⟩, X0.out⟩

end Go.Proofs.YtnbnhchgkbbiiaaGreat
