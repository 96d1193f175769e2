/- Contracts: the edges of classes; the program's check. -/
import Derived.Test.YtnegamkakdbhfaaSupC
import Derived.Test.YtnegamkakdbhfaaGrD
namespace Go.Proofs.Ytnegamkakdbhfaa
open Go.RowKit

/-! ### Plain facts -/
def edgesTo (l : List Cls) (i : Nat) : List Edge := (List.range i).flatMap fun i => (supAt l i).map fun s => ⟨(i : Int), atI l s⟩
theorem edgesTo_succ (l : List Cls) (i : Nat) : edgesTo l (i + 1) = edgesTo l i ++ (supAt l i).map fun s => ⟨(i : Int), atI l s⟩ := by
  unfold edgesTo
  rw [List.range_succ, List.flatMap_append]
  simp
theorem edgesTo_len (l : List Cls) (h : ∀ c ∈ l, c.sup.length ≤ 9) : ∀ i, i ≤ l.length → (edgesTo l i).length ≤ 9 * i
  | 0, _ => by simp [edgesTo]
  | i + 1, hi => by
    have ih := edgesTo_len l h i (by omega)
    have h1 : (supAt l i).length ≤ 9 := by rw [supAt_eq (by omega)]; exact h _ (List.getElem_mem _)
    rw [edgesTo_succ, List.length_append, List.length_map]
    omega
theorem graph_ok {l : List Cls} (h : Sound l) (hl : l.length ≤ 9) : graphOk l.length (edgesL l) = true := by
  unfold graphOk
  simp only [Bool.and_eq_true, decide_eq_true_eq, List.all_eq_true]
  refine ⟨⟨by omega, by omega⟩, fun e he => ?_⟩
  unfold edgesL at he
  obtain ⟨i, hi, he⟩ := List.mem_flatMap.1 he
  simp only [List.mem_range] at hi
  rw [supAt_eq hi] at he
  obtain ⟨s, hs, rfl⟩ := List.mem_map.1 he
  obtain ⟨j, hj, e, _⟩ := h.to hi hs
  unfold edgeOk
  simp only [e, Bool.and_eq_true, decide_eq_true_eq]
  omega
theorem reach_eq {l : List Cls} (h : Sound l) {i x : Nat} (hi : i < l.length) : SR (nextN (edgesL l)) i x ↔ SR (succC l) i x := by
  have hn : ∀ v, v < l.length → nextN (edgesL l) v = succC l v := fun v hv => by
    unfold nextN
    rw [next_edges h, if_pos hv]
  constructor
  · intro hr
    have key : SR (succC l) i x ∧ x < l.length := by
      induction hr with
      | one h1 => rw [hn _ hi] at h1; exact ⟨.one h1, succC_lt h _ hi _ h1⟩
      | step _ h1 ih => rw [hn _ ih.2] at h1; exact ⟨.step ih.1 h1, succC_lt h _ ih.2 _ h1⟩
    exact key.1
  · intro hr
    have key : SR (nextN (edgesL l)) i x ∧ x < l.length := by
      induction hr with
      | one h1 => exact ⟨.one (by rw [hn _ hi]; exact h1), succC_lt h _ hi _ h1⟩
      | step _ h1 ih => exact ⟨.step ih.1 (by rw [hn _ ih.2]; exact h1), succC_lt h _ ih.2 _ h1⟩
    exact key.1
theorem marked_any (p : Nat → Bool) {n i : Nat} (hi : i < n) : (markedL p n).any (· == (i : Int)) = p i := by
  rw [Bool.eq_iff_iff, List.any_eq_true]
  unfold markedL
  constructor
  · rintro ⟨y, hy, e⟩
    obtain ⟨x, hx, rfl⟩ := List.mem_map.1 hy
    have h1 := (List.mem_filter.1 hx).2
    simp at e
    have : x = i := by omega
    subst this
    exact h1
  · intro hp
    exact ⟨_, List.mem_map.2 ⟨i, List.mem_filter.2 ⟨by simpa using hi, hp⟩, rfl⟩, by simp⟩

theorem edge_info : (Try.prog.info? 124).map (fun i => (i.zero, i.size, i.bytes)) = some (some (.agg #[.int .i64 0, .int .i64 0]), 2, 16) := by kernel_rfl
theorem Row.box2 {w : World} {b : Nat} {t : TypeId} {fr : Nat × Nat} (u v : Value) (h : w.heap[b]? = some (.cells #[u, v] t fr)) : Row w (some ⟨b, 0, none⟩) 2 1 [u, v] := by
  refine ⟨rfl, fun _ => ⟨b, 0, rfl, lt_of_obj h, fun j x hx => ?_⟩⟩
  match j with
  | 0 => simp at hx; subst hx; simp [World.cell?, h]
  | 1 => simp at hx; subst hx; simp [World.cell?, h]
  | j + 2 => simp at hx

set_option maxRecDepth 10000 in
set_option maxHeartbeats 2000000 in
theorem sup_edges (A : Option Addr) (cap : Nat) (l : List Cls) (w : World) (h : Classes w A l) (hl : l.length ≤ 9) (hs : ∀ c ∈ l, c.sup.length ≤ 9) :
    Calls Try.prog 76 #[.slice A l.length cap] w fun e w' => (∃ A' cap', e = .returned (.slice A' (edgesL l).length cap') ∧ (edgesL l).length ≤ cap' ∧ cap' ≤ 9223372036854775807 ∧ Edges w' A' (edgesL l)) ∧ Ext w w' := by
  obtain ⟨i0, hi, hz0, hz1, hz2⟩ := info_parts edge_info
  have HC := hide h
  have HS := hide hs
  have HE : Hid (edgesTo l l.length = edgesL l) := hide rfl
  have Hlen := hide (edgesTo_len l hs)
  have hle : l.length ≤ 9223372036854775807 := by omega
  clear h hs
  generalize edgesL l = RES at *
  go_enter Try.func76, Try.ntmps76
  go_wp2
  go_loopw [3, 9] (fun v i wr => ∃ (k : Nat), k ≤ l.length ∧ i = .int .i64 k ∧ Hid (Ext w wr) ∧ Hid (wr.ownsRow w.heap.size 124 2 v (edgesTo l k).length ((edgesTo l k).flatMap edgeC.f))) (fun _ i _ => l.length - (intOf i).toNat)
  case atStart => exact ⟨0, Nat.zero_le _, rfl, hide (Ext.refl _), hide (World.ownsRow_nil _ _ _ _)⟩
  case round =>
    obtain ⟨k, hk, rfl, HX, HO⟩ := hrel
    obtain ⟨wo, rfl⟩ : ∃ wo : World, wo = wr := ⟨_, rfl⟩
    by_cases hlt : k < l.length
    · obtain ⟨b, o, rfl, hb, q0, q1, q2⟩ := (HC.out.ext HX.out).at_ hlt
      have hlt' : (k : Int) < (l.length : Int) := by omega
      have hk0 : (0 : Int) ≤ (k : Int) := by omega
      have Hst := hide (HC.out.sup _ (List.getElem_mem hlt))
      have hsl := HS.out _ (List.getElem_mem hlt)
      have Hsu : Hid (edgesTo l (k + 1) = edgesTo l k ++ ((l[k]'hlt).sup).map fun s => ⟨(k : Int), atI l s⟩) := hide (by rw [edgesTo_succ, supAt_eq hlt])
      have hll := Hlen.out k hk
      clear q0 q2
      generalize (l[k]'hlt).sup = S at *
      generalize (l[k]'hlt).A = A1 at *
      generalize (l[k]'hlt).cap = c1 at *
      generalize edgesTo l k = E at *
      go_wp2
      go_loopw [3, 18] (fun v i wr => ∃ (m : Nat), m ≤ S.length ∧ i = .int .i64 m ∧ Hid (Ext w wr) ∧ Hid (wr.ownsRow w.heap.size 124 2 v (E ++ (S.take m).map fun s => (⟨(k : Int), atI l s⟩ : Edge)).length ((E ++ (S.take m).map fun s => (⟨(k : Int), atI l s⟩ : Edge)).flatMap edgeC.f))) (fun _ i _ => S.length - (intOf i).toNat)
      case atStart => exact ⟨0, Nat.zero_le _, rfl, HX, hide (by simpa using HO.out)⟩
      case round =>
        obtain ⟨m, hm, rfl, HX2, HO2⟩ := hrel
        by_cases hlt2 : m < S.length
        · obtain ⟨b2, o2, rfl, hb2, z0⟩ := (Hst.out.ext HX2.out).at_ hlt2
          have hlt2' : (m : Int) < (S.length : Int) := by omega
          have Htk : Hid (∀ f : Str → Edge, (S.take (m + 1)).map f = (S.take m).map f ++ [f (S.getD m [])]) := hide (fun f => by rw [List.take_succ_eq_append_getElem hlt2, List.map_append]; simp [hlt2])
          generalize S.getD m [] = y at *
          have Ha := hide (sup_at (some ⟨b, o, none⟩) cap l y wr (HC.out.ext HX2.out) hle)
          have Hfin : Hid ((E ++ (S.take (m + 1)).map fun s => (⟨(k : Int), atI l s⟩ : Edge)) = (E ++ (S.take m).map fun s => (⟨(k : Int), atI l s⟩ : Edge)) ++ [⟨(k : Int), atI l y⟩]) := hide (by rw [Htk.out]; simp)
          have hlE : (E ++ (S.take m).map fun s => (⟨(k : Int), atI l s⟩ : Edge)).length ≤ 1000 := by
            rw [List.length_append, List.length_map, List.length_take]; omega
          clear Htk
          generalize (E ++ (S.take m).map fun s => (⟨(k : Int), atI l s⟩ : Edge)) = E2 at *
          generalize atI l y = a at *
          go_wp2_with fail
          refine Ha.out.mono ?_
          rintro e w1 ⟨rfl, rfl⟩
          go_wp2_with (at_builtin; refine wpList_append_row _ rfl _ _ 102 rfl w.heap.size 124 i0 _ 2 16 Try.underlying102 hi hz0 hz1 hz2 rfl (by decide) u3 E2.length (E2.flatMap edgeC.f) rfl (HO2.out.alloc _) _ 1 1 [.int .i64 k, .int .i64 a] rfl ?c2 ?c3 ?c4 ?c5 ?c6 ?_)
          case c2 => exact Row.box2 _ _ (at_newB _ _ _ (by simp))
          case c3 => intro y hy; simp at hy; rcases hy with rfl | rfl <;> rfl
          case c4 => unfold maxLen; omega
          case c5 => omega
          case c6 => have := HX2.out.size; simp; omega
          intro v4 w4 hown4 hg4 _
          have X4 := hide (Ext.app (HX2.out.alloc _) hg4 (HO2.out.alloc _) (Nat.le_refl _))
          have O4 := hide hown4
          clear hown4 hg4
          go_wp2
          go_roundw
          case rel => exact ⟨m + 1, hlt2, by go_num, X4, hide (by rw [Hfin.out]; simpa [edgeC] using O4.out)⟩
          case measure => simp [intOf]; omega
        · have hge2 : (S.length : Int) ≤ (m : Int) := by omega
          have hmt : S.take m = S := List.take_of_length_le (by omega)
          rw [hmt, ← Hsu.out] at HO2
          clear hmt
          go_wp2
          go_roundw
          case rel => exact ⟨k + 1, hlt, by go_num, HX2, HO2⟩
          case measure => simp [intOf]; omega
    · have hge : (l.length : Int) ≤ (k : Int) := by omega
      have hkl : k = l.length := by omega
      rw [hkl, HE.out] at HO
      clear hkl
      obtain ⟨A5, c5, rfl, p1, p2, p3, _⟩ := RowOf.own edgeC HO.out
      have P3 := hide p3
      clear p3
      go_wp2
      go_ret
      exact ⟨⟨A5, c5, rfl, p1, p2, P3.out⟩, HX.out⟩

end Go.Proofs.Ytnegamkakdbhfaa
