/- Contracts: the variables of a pattern, and their names. -/
import Derived.Test.YtnbnhchgkbbiiaaUsA
namespace Go.Proofs.Ytnbnhchgkbbiiaa
open Go.RowKit

theorem node_info : (Try.prog.info? 54).map (fun i => (i.zero, i.size, i.bytes)) = some (some (.agg #[.int .i64 0, .int .i64 0, .int .i64 0, .string ⟨#[]⟩, .slice none 0 0]), 5, 64) := by kernel_rfl
theorem Row.node {w : World} {b : Nat} {t : TypeId} {fr : Nat × Nat} (x0 x1 x2 x3 x4 : Value) (h : w.heap[b]? = some (.cells #[x0, x1, x2, x3, x4] t fr)) : Row w (some ⟨b, 0, none⟩) 5 1 [x0, x1, x2, x3, x4] := by
  refine ⟨rfl, fun _ => ⟨b, 0, rfl, lt_of_obj h, fun j u hu => ?_⟩⟩
  match j with
  | 0 => simp at hu; subst hu; simp [World.cell?, h]
  | 1 => simp at hu; subst hu; simp [World.cell?, h]
  | 2 => simp at hu; subst hu; simp [World.cell?, h]
  | 3 => simp at hu; subst hu; simp [World.cell?, h]
  | 4 => simp at hu; subst hu; simp [World.cell?, h]
  | j + 5 => simp at hu
theorem node_flat (l : List Tree) (u : Tree) : (l ++ [u]).flatMap treeC.f = l.flatMap treeC.f ++ [.int .i64 u.kind, .int .i64 u.pos, .int .i64 u.n, encStr u.text, .slice u.A u.kids.length u.cap] := by
  rw [List.flatMap_append]
  rfl

/-- The variables of a pattern. -/
noncomputable def varsL : Tree → List Tree := Tree.fold fun t l => if t.kind == 11 then [t] else l.flatten
noncomputable def varsesL (l : List Tree) : List Tree := (l.map varsL).flatten
theorem varsL_eq (t : Tree) : varsL t = if t.kind == 11 then [t] else varsesL t.kids := by
  unfold varsL
  rw [Tree.fold_eq]
  rfl
theorem varsesL_take (l : List Tree) {k : Nat} (h : k < l.length) : varsesL (l.take (k + 1)) = varsesL (l.take k) ++ varsL (l[k]'h) := by
  unfold varsesL
  rw [List.take_succ_eq_append_getElem h, List.map_append, List.flatten_append]
  congr 1
  simp
theorem sum_map_leV {α : Type} (f g : α → Nat) : ∀ l : List α, (∀ x ∈ l, f x ≤ g x) → (l.map f).sum ≤ (l.map g).sum
  | [], _ => Nat.le_refl _
  | x :: l, h => by
    have h1 := h x (List.mem_cons_self ..)
    have h2 := sum_map_leV f g l (fun y hy => h y (List.mem_cons_of_mem _ hy))
    simp only [List.map_cons, List.sum_cons]
    omega
theorem varsL_len (t : Tree) : (varsL t).length ≤ t.size := by
  induction t using Tree.ind with
  | h t ih =>
  rw [varsL_eq, Tree.size_eq]
  have h1 : (varsesL t.kids).length ≤ (t.kids.map Tree.size).sum := by
    unfold varsesL
    rw [List.length_flatten, List.map_map]
    exact sum_map_leV _ _ _ ih
  split
  · simp
  · omega
theorem varsesL_room (l : List Tree) {k : Nat} (h : k < l.length) : (varsesL (l.take k)).length + (l[k]'h).size ≤ sizes l := by
  have h1 : (varsesL (l.take k)).length ≤ sizes (l.take k) := by
    unfold varsesL sizes
    rw [List.length_flatten, List.map_map]
    exact sum_map_leV _ _ _ (fun x _ => varsL_len x)
  have h2 := sizes_take l h
  have h3 := sizes_le l (k + 1)
  omega
theorem varsL_in {w : World} {t : Tree} (h : NodeIn w t) : ∀ u ∈ varsL t, NodeIn w u := by
  revert h
  induction t using Tree.ind with
  | h t ih =>
  intro h u hu
  rw [varsL_eq] at hu
  split at hu
  · rw [List.mem_singleton] at hu
    subst hu
    exact h
  · unfold varsesL at hu
    obtain ⟨_, hl, hu⟩ := List.mem_flatten.1 hu
    obtain ⟨k, hk, rfl⟩ := List.mem_map.1 hl
    exact ih k hk (h.nodes.kids k hk) u hu

set_option maxRecDepth 10000 in
set_option maxHeartbeats 2000000 in
theorem p_varsI (t : Tree) : ∀ (w0 w : World) (base : Nat) (v : Value) (us : List Tree), NodeIn w0 t → Below w0.heap.size w0 w → w0.heap.size ≤ base → base ≤ w.heap.size →
    w.ownsRow base 54 5 v us.length (us.flatMap treeC.f) → us.length + t.size ≤ 100000 →
    Calls Try.prog 102 #[v, treeV t] w fun e w' => (∃ v', e = .returned v' ∧ w'.ownsRow base 54 5 v' (us ++ varsL t).length ((us ++ varsL t).flatMap treeC.f)) ∧ Below base w w' := by
  induction t using Tree.ind with
  | h t ih =>
  intro w0 w base v us h hB hb0 hb hO hsz
  obtain ⟨i0, hi, hz0, hz1, hz2⟩ := info_parts node_info
  have IH := hide ih
  have Hk := hide h.nodes
  have hle := h.le
  have hmx := h.max
  have HBw := hide hB
  have HO := hide hO
  have HE := hide (varsL_eq t)
  have HS : Hid (t.size = sizes t.kids + 1) := hide (Tree.size_eq t)
  have HSt := hide (fun k (hk : k < t.kids.length) => varsesL_take t.kids hk)
  have HSk := hide (fun k (hk : k < t.kids.length) => varsesL_room t.kids hk)
  have HSz := hide (fun k (hk : k ∈ t.kids) => Tree.size_kid hk)
  have HB0 := hide (NBox.new w t)
  have HA : Hid (Below base w (w.alloc (.cells #[.int .i64 t.kind, .int .i64 t.pos, .int .i64 t.n, encStr t.text, .slice t.A t.kids.length t.cap] 54))) := hide ((Below.refl _ _).alloc hb _)
  have OA : Hid ((w.alloc (.cells #[.int .i64 t.kind, .int .i64 t.pos, .int .i64 t.n, encStr t.text, .slice t.A t.kids.length t.cap] 54)).ownsRow base 54 5 v us.length (us.flatMap treeC.f)) := hide (own_extB HO.out ((Ext.refl _).alloc _))
  clear ih h hB hO
  unfold treeV
  generalize hA0 : t.A = A0 at *
  have HA0 := hide hA0
  clear hA0
  cases h11 : (t.kind == 11)
  · have HE2 : Hid (varsL t = varsesL t.kids) := hide (by rw [HE.out, h11]; rfl)
    clear HE
    have HU : Hid (us ++ varsesL t.kids = us ++ varsL t) := hide (by rw [HE2.out])
    go_enter Try.func102, Try.ntmps102
    go_wp2
    go_loopw [0, 17] (fun v i wr => ∃ k : Nat, k ≤ t.kids.length ∧ i = .int .i64 k ∧ Hid (Below base w wr) ∧ Hid (wr.ownsRow base 54 5 v (us ++ varsesL (t.kids.take k)).length ((us ++ varsesL (t.kids.take k)).flatMap treeC.f))) (fun _ i _ => t.kids.length - (intOf i).toNat)
    case atStart => exact ⟨0, Nat.zero_le _, rfl, HA, hide (by simpa [varsesL] using OA.out)⟩
    case round =>
      obtain ⟨k, hk, rfl, HW, HOw⟩ := hrel
      by_cases hlt : k < t.kids.length
      · have hlt' : (k : Int) < (t.kids.length : Int) := by omega
        have hk0 : (0 : Int) ≤ (k : Int) := by omega
        have HKw : Hid (Below w0.heap.size w0 wr) := hide (HBw.out.trans (HW.out.mono hb0))
        obtain ⟨b, o, rfl, hbb, q0, q1, q2, q3, q4⟩ := (Hk.out.old HKw.out).at_ hlt
        have hck := List.getElem_mem hlt
        have hcs := HSz.out _ hck
        have hsw := HW.out.size
        have Hst := hide (HSt.out k hlt)
        have HC := hide (IH.out _ hck w0 (wr.alloc (.cells #[.int .i64 (t.kids[k]'hlt).kind, .int .i64 (t.kids[k]'hlt).pos, .int .i64 (t.kids[k]'hlt).n, encStr (t.kids[k]'hlt).text, .slice (t.kids[k]'hlt).A (t.kids[k]'hlt).kids.length (t.kids[k]'hlt).cap] 54)) base u0 (us ++ varsesL (t.kids.take k)) (Hk.out.kids _ hck)
          (HKw.out.alloc (by have := HKw.out.size; omega) _) hb0 (by simp; omega) (own_extB HOw.out ((Ext.refl _).alloc _)) (by
            have h1 := HS.out
            have h2 := HSk.out k hlt
            rw [List.length_append]
            omega))
        have HWa : Hid (Below base w (wr.alloc (.cells #[.int .i64 (t.kids[k]'hlt).kind, .int .i64 (t.kids[k]'hlt).pos, .int .i64 (t.kids[k]'hlt).n, encStr (t.kids[k]'hlt).text, .slice (t.kids[k]'hlt).A (t.kids[k]'hlt).kids.length (t.kids[k]'hlt).cap] 54))) := hide (HW.out.alloc (by omega) _)
        clear hck
        generalize t.kids[k]'hlt = c at *
        go_wp2_with fail
        refine HC.out.mono ?_
        rintro e w4 ⟨⟨v4, rfl, hO4⟩, hB4⟩
        have W4 := hide (HWa.out.trans hB4)
        have O4 := hide hO4
        clear hO4 hB4
        go_wp2
        go_roundw
        case rel => exact ⟨k + 1, hlt, by go_num, W4, hide (by rw [Hst.out, ← List.append_assoc]; exact O4.out)⟩
        case measure => simp [intOf]; omega
      · have hge : ¬ (k : Int) < (t.kids.length : Int) := by omega
        have HF : Hid (us ++ varsesL (t.kids.take k) = us ++ varsL t) := hide (by rw [List.take_of_length_le (by omega)]; exact HU.out)
        rw [HF.out] at HOw
        go_wp2
        go_ret
        exact ⟨⟨u0, rfl, by simpa using HOw.out⟩, HW.out⟩
  · have HU : Hid (us ++ [t] = us ++ varsL t) := hide (by rw [HE.out, h11]; simp)
    have hus : us.length ≤ 100000 := by omega
    clear HE
    go_enter Try.func102, Try.ntmps102
    go_wp2_with (at_builtin; refine wpList_append_row _ rfl _ _ 46 rfl base 54 i0 _ 5 64 Try.underlying46 hi hz0 hz1 hz2 rfl (by decide) v us.length (us.flatMap treeC.f) rfl (own_extB HO.out (((Ext.refl _).alloc _).alloc _)) _ 1 1 [.int .i64 t.kind, .int .i64 t.pos, .int .i64 t.n, encStr t.text, .slice A0 t.kids.length t.cap] rfl ?c2 ?c3 ?c4 ?c5 ?c6 ?_)
    case c2 => exact Row.node _ _ _ _ _ (at_newB _ _ _ (by simp))
    case c3 => first | exact ⟨rfl, rfl, rfl, rfl, rfl⟩ | (intro y hy; simp at hy; rcases hy with rfl | rfl | rfl | rfl | rfl <;> rfl)
    case c4 => unfold maxLen; omega
    case c5 => omega
    case c6 => (first | omega | (simp; omega))
    intro v4 w4 hown4 hg4 _
    have hB1 : Below base w w4 := (HA.out.trans ((Below.refl _ _).alloc (by simp; omega) _)).grown hg4 (by simp; omega) (fun k hk => (HO.out.lt k hk).1)
    have W1 := hide hB1
    have O1 : Hid (w4.ownsRow base 54 5 v4 (us ++ varsL t).length ((us ++ varsL t).flatMap treeC.f)) := hide (by rw [← HU.out, node_flat, List.length_append, HA0.out]; exact hown4)
    clear hB1 hown4 hg4
    go_wp2
    go_ret
    exact ⟨⟨v4, rfl, by simpa using O1.out⟩, W1.out⟩

end Go.Proofs.Ytnbnhchgkbbiiaa
