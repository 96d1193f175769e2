/- Contracts: the constructors of a tree, behind others. -/
import Derived.Test.YtnbnhchgkbbiiaaGreatJUsesUses6
/- Contracts: the constructors of a tree, behind others. -/
namespace Go.Proofs.YtnbnhchgkbbiiaaGreat
open Go.RowKit

/-- A name that is used, and where. -/
structure Use where
  name : Str
  pos : Int
def useC : Coder Use := ⟨2, fun u => [encStr u.name, .int .i64 u.pos], fun _ => rfl, by omega⟩
abbrev Uses (w : World) (A : Option Addr) (l : List Use) : Prop := RowOf useC w A l
theorem use_info : (Tryz.prog.info? 39).map (fun i => (i.zero, i.size, i.bytes)) = some (some (.agg #[.string ⟨#[]⟩, .int .i64 0]), 2, 24) := by kernel_rfl
theorem Row.use2 {w : World} {b : Nat} {t : TypeId} {fr : Nat × Nat} (x : Str) (z : Int) (h : w.heap[b]? = some (.cells #[encStr x, .int .i64 z] t fr)) : Row w (some ⟨b, 0, none⟩) 2 1 [encStr x, .int .i64 z] := by
  refine ⟨rfl, fun _ => ⟨b, 0, rfl, lt_of_obj h, fun j u hu => ?_⟩⟩
  match j with
  | 0 => simp at hu; subst hu; simp [World.cell?, h]
  | 1 => simp at hu; subst hu; simp [World.cell?, h]
  | j + 2 => simp at hu
theorem Use.own {w : World} {base : Nat} {v : Value} {l : List Use} (h : w.ownsRow base 39 2 v l.length (l.flatMap useC.f)) :
    ∃ A cap, v = .slice A l.length cap ∧ l.length ≤ cap ∧ cap ≤ 9223372036854775807 ∧ Uses w A l ∧ ∀ c o, A = some ⟨c, o, none⟩ → base ≤ c ∧ c < w.heap.size := RowOf.own useC h
theorem use_flat (l : List Use) (u : Use) : (l ++ [u]).flatMap useC.f = l.flatMap useC.f ++ [encStr u.name, .int .i64 u.pos] := by
  rw [List.flatMap_append]
  rfl

/-- The constructors of a tree. -/
noncomputable def consL : Tree → List Use := Tree.fold fun t l => (if t.kind == 22 || t.kind == 14 then [⟨t.text, t.pos⟩] else []) ++ l.flatten
noncomputable def consesL (l : List Tree) : List Use := (l.map consL).flatten
theorem consL_eq (t : Tree) : consL t = (if t.kind == 22 || t.kind == 14 then [⟨t.text, t.pos⟩] else []) ++ consesL t.kids := by
  unfold consL
  rw [Tree.fold_eq]
  rfl
theorem consesL_take (l : List Tree) {k : Nat} (h : k < l.length) : consesL (l.take (k + 1)) = consesL (l.take k) ++ consL (l[k]'h) := by
  unfold consesL
  rw [List.take_succ_eq_append_getElem h, List.map_append, List.flatten_append]
  congr 1
  simp
theorem sum_map_le {α : Type} (f g : α → Nat) : ∀ l : List α, (∀ x ∈ l, f x ≤ g x) → (l.map f).sum ≤ (l.map g).sum
  | [], _ => Nat.le_refl _
  | x :: l, h => by
    have h1 := h x (List.mem_cons_self ..)
    have h2 := sum_map_le f g l (fun y hy => h y (List.mem_cons_of_mem _ hy))
    simp only [List.map_cons, List.sum_cons]
    omega
theorem consL_len (t : Tree) : (consL t).length ≤ t.size := by
  induction t using Tree.ind with
  | h t ih =>
  rw [consL_eq, Tree.size_eq, List.length_append]
  have h1 : (consesL t.kids).length ≤ (t.kids.map Tree.size).sum := by
    unfold consesL
    rw [List.length_flatten, List.map_map]
    exact sum_map_le _ _ _ ih
  split <;> simp <;> omega
theorem consesL_len (l : List Tree) (k : Nat) : (consesL (l.take k)).length ≤ sizes l := by
  have h1 : (consesL (l.take k)).length ≤ sizes (l.take k) := by
    unfold consesL sizes
    rw [List.length_flatten, List.map_map]
    exact sum_map_le _ _ _ (fun x _ => consL_len x)
  exact Nat.le_trans h1 (sizes_le l k)

theorem consesL_room (l : List Tree) {k : Nat} (h : k < l.length) : (consesL (l.take k)).length + (l[k]'h).size ≤ sizes l := by
  have h1 : (consesL (l.take k)).length ≤ sizes (l.take k) := by
    have := consesL_len (l.take k) k
    rwa [List.take_take, Nat.min_self] at this
  have h2 := sizes_take l h
  have h3 := sizes_le l (k + 1)
  omega

set_option maxRecDepth 10000 in
set_option maxHeartbeats 2000000 in
theorem u_consI (t : Tree) : ∀ (w0 w : World) (base : Nat) (v : Value) (us : List Use), NodeIn w0 t → Below w0.heap.size w0 w → w0.heap.size ≤ base → base ≤ w.heap.size →
    w.ownsRow base 39 2 v us.length (us.flatMap useC.f) → us.length + t.size ≤ 100000 →
    Calls Tryz.prog 28 #[v, treeV t] w fun e w' => (∃ v', e = .returned v' ∧ w'.ownsRow base 39 2 v' (us ++ consL t).length ((us ++ consL t).flatMap useC.f)) ∧ Below base w w' := by
  induction t using Tree.ind with
  | h t ih =>
  intro w0 w base v us h hB hb0 hb hO hsz
  obtain ⟨i0, hi, hz0, hz1, hz2⟩ := info_parts use_info
  have IH := hide ih
  have Hk := hide h.nodes
  have hle := h.le
  have hmx := h.max
  have HBw := hide hB
  have HO := hide hO
  have HE := hide (consL_eq t)
  have HS : Hid (t.size = sizes t.kids + 1) := hide (Tree.size_eq t)
  have HSl := hide (fun k => consesL_len t.kids k)
  have HSt := hide (fun k (hk : k < t.kids.length) => consesL_take t.kids hk)
  have HSk := hide (fun k (hk : k < t.kids.length) => consesL_room t.kids hk)
  have HSz := hide (fun k (hk : k ∈ t.kids) => Tree.size_kid hk)
  have HB0 := hide (NBox.new w t)
  have HA : Hid (Below base w (w.alloc (.cells #[.int .i64 t.kind, .int .i64 t.pos, .int .i64 t.n, encStr t.text, .slice t.A t.kids.length t.cap] 24))) := hide ((Below.refl _ _).alloc hb _)
  have OA : Hid ((w.alloc (.cells #[.int .i64 t.kind, .int .i64 t.pos, .int .i64 t.n, encStr t.text, .slice t.A t.kids.length t.cap] 24)).ownsRow base 39 2 v us.length (us.flatMap useC.f)) := hide (own_extB HO.out ((Ext.refl _).alloc _))
  clear ih h hB hO
  unfold treeV
  generalize hA0 : t.A = A0 at *
  have HA0 := hide hA0
  clear hA0
  cases h22 : (t.kind == 22)
  · cases h14 : (t.kind == 14)
    · have HE2 : Hid (consL t = consesL t.kids) := hide (by rw [HE.out, h22, h14]; rfl)
      clear HE
      have HU : Hid (us ++ consesL t.kids = us ++ consL t) := hide (by rw [HE2.out])
      go_enter Tryz.func28, Tryz.ntmps28
      go_wp2
      go_loopw [0, 26] (fun v i wr => ∃ k : Nat, k ≤ t.kids.length ∧ i = .int .i64 k ∧ Hid (Below base w wr) ∧ Hid (wr.ownsRow base 39 2 v (us ++ consesL (t.kids.take k)).length ((us ++ consesL (t.kids.take k)).flatMap useC.f))) (fun _ i _ => t.kids.length - (intOf i).toNat)
      case atStart => exact ⟨0, Nat.zero_le _, rfl, HA, hide (by simpa [consesL] using OA.out)⟩
      case round =>
        obtain ⟨k, hk, rfl, HW, HOw⟩ := hrel
        by_cases hlt : k < t.kids.length
        · have hlt' : (k : Int) < (t.kids.length : Int) := by omega
          have hk0 : (0 : Int) ≤ (k : Int) := by omega
          have HKw : Hid (Below w0.heap.size w0 wr) := hide (HBw.out.trans (HW.out.mono hb0))
          obtain ⟨b, o, rfl, hbb, q0, q1, q2, q3, q4⟩ := (Hk.out.old HKw.out).at_ hlt
          have hck := List.getElem_mem hlt
          have hcs := HSz.out _ hck
          have hcl := HSl.out k
          have hsw := HW.out.size
          have Hst := hide (HSt.out k hlt)
          have HC := hide (IH.out _ hck w0 (wr.alloc (.cells #[.int .i64 (t.kids[k]'hlt).kind, .int .i64 (t.kids[k]'hlt).pos, .int .i64 (t.kids[k]'hlt).n, encStr (t.kids[k]'hlt).text, .slice (t.kids[k]'hlt).A (t.kids[k]'hlt).kids.length (t.kids[k]'hlt).cap] 24)) base u0 (us ++ consesL (t.kids.take k)) (Hk.out.kids _ hck)
            (HKw.out.alloc (by have := HKw.out.size; omega) _) hb0 (by simp; omega) (own_extB HOw.out ((Ext.refl _).alloc _)) (by
              have h1 := HS.out
              have h2 := HSk.out k hlt
              rw [List.length_append]
              omega))
          have HWa : Hid (Below base w (wr.alloc (.cells #[.int .i64 (t.kids[k]'hlt).kind, .int .i64 (t.kids[k]'hlt).pos, .int .i64 (t.kids[k]'hlt).n, encStr (t.kids[k]'hlt).text, .slice (t.kids[k]'hlt).A (t.kids[k]'hlt).kids.length (t.kids[k]'hlt).cap] 24))) := hide (HW.out.alloc (by omega) _)
          clear hck
          generalize t.kids[k]'hlt = c at *
          go_wp2_with fail
          refine HC.out.mono ?_
          rintro e w4 ⟨⟨v4, rfl, hO4⟩, hB4⟩
          have W4 := hide (HWa.out.trans hB4)
          have O4 := hide hO4
          clear hO4 hB4
          go_wp2
          go_roundw
          case rel => exact ⟨k + 1, hlt, by go_num, W4, hide (by rw [Hst.out, ← List.append_assoc]; exact O4.out)⟩
          case measure => simp [intOf]; omega
        · have hge : ¬ (k : Int) < (t.kids.length : Int) := by omega
          have HF : Hid (us ++ consesL (t.kids.take k) = us ++ consL t) := hide (by rw [List.take_of_length_le (by omega)]; exact HU.out)
          rw [HF.out] at HOw
          go_wp2
          go_ret
          exact ⟨⟨u0, rfl, by simpa using HOw.out⟩, HW.out⟩
    · have HU : Hid ((us ++ [Use.mk t.text t.pos]) ++ consesL t.kids = us ++ consL t) := hide (by rw [HE.out, h22, h14]; simp)
      have hus : us.length ≤ 100000 := by omega
      clear HE
      go_enter Tryz.func28, Tryz.ntmps28
      go_wp2_with (at_builtin; refine wpList_append_row _ rfl _ _ 28 rfl base 39 i0 _ 2 24 Tryz.underlying28 hi hz0 hz1 hz2 rfl (by decide) v us.length (us.flatMap useC.f) rfl (own_extB HO.out (((Ext.refl _).alloc _).alloc _)) _ 1 1 [encStr t.text, .int .i64 t.pos] rfl ?c2 ?c3 ?c4 ?c5 ?c6 ?_)
      case c2 => exact Row.use2 _ _ (at_newB _ _ _ (by simp))
      case c3 => first | exact ⟨rfl, rfl⟩ | (intro y hy; simp at hy; rcases hy with rfl | rfl <;> rfl)
      case c4 => unfold maxLen; omega
      case c5 => omega
      case c6 => (first | omega | (simp; omega))
      intro v4 w4 hown4 hg4 _
      have hB1 : Below base w w4 := (HA.out.trans ((Below.refl _ _).alloc (by simp; omega) _)).grown hg4 (by simp; omega) (fun k hk => (HO.out.lt k hk).1)
      have W1 := hide hB1
      have O1 : Hid (w4.ownsRow base 39 2 v4 (us ++ [Use.mk t.text t.pos]).length ((us ++ [Use.mk t.text t.pos]).flatMap useC.f)) := hide (by rw [use_flat, List.length_append]; exact hown4)
      have hb4 : w4.cell? ⟨w.heap.size, 4, none⟩ = some (.slice A0 t.kids.length t.cap) := by
        have hb4 := (hg4.block w.heap.size (by simp; omega) (fun e => by have := (HO.out.lt _ e.symm).2; omega))
        have := NBox.c4 (w := w4) (b := w.heap.size) (t := t) (by
          unfold NBox
          rw [HA0.out, hb4]
          exact (Below.heap_alloc _ _ _ (by simp)).trans (by have := HB0.out; unfold NBox at this; rwa [HA0.out] at this))
        rwa [HA0.out] at this
      clear hB1 hown4 hg4
      go_wp2
      go_loopw [0, 26] (fun v i wr => ∃ k : Nat, k ≤ t.kids.length ∧ i = .int .i64 k ∧ Hid (Below base w wr) ∧ Hid (wr.ownsRow base 39 2 v ((us ++ [Use.mk t.text t.pos]) ++ consesL (t.kids.take k)).length (((us ++ [Use.mk t.text t.pos]) ++ consesL (t.kids.take k)).flatMap useC.f))) (fun _ i _ => t.kids.length - (intOf i).toNat)
      case atStart => exact ⟨0, Nat.zero_le _, rfl, W1, hide (by simpa [consesL] using O1.out)⟩
      case round =>
        obtain ⟨k, hk, rfl, HW, HOw⟩ := hrel
        by_cases hlt : k < t.kids.length
        · have hlt' : (k : Int) < (t.kids.length : Int) := by omega
          have hk0 : (0 : Int) ≤ (k : Int) := by omega
          have HKw : Hid (Below w0.heap.size w0 wr) := hide (HBw.out.trans (HW.out.mono hb0))
          obtain ⟨b, o, rfl, hbb, q0, q1, q2, q3, q4⟩ := (Hk.out.old HKw.out).at_ hlt
          have hck := List.getElem_mem hlt
          have hcs := HSz.out _ hck
          have hcl := HSl.out k
          have hsw := HW.out.size
          have Hst := hide (HSt.out k hlt)
          have HC := hide (IH.out _ hck w0 (wr.alloc (.cells #[.int .i64 (t.kids[k]'hlt).kind, .int .i64 (t.kids[k]'hlt).pos, .int .i64 (t.kids[k]'hlt).n, encStr (t.kids[k]'hlt).text, .slice (t.kids[k]'hlt).A (t.kids[k]'hlt).kids.length (t.kids[k]'hlt).cap] 24)) base u0 ((us ++ [Use.mk t.text t.pos]) ++ consesL (t.kids.take k)) (Hk.out.kids _ hck)
            (HKw.out.alloc (by have := HKw.out.size; omega) _) hb0 (by simp; omega) (own_extB HOw.out ((Ext.refl _).alloc _)) (by
              have h1 := HS.out
              have h2 := HSk.out k hlt
              simp only [List.length_append, List.length_cons, List.length_nil]
              omega))
          have HWa : Hid (Below base w (wr.alloc (.cells #[.int .i64 (t.kids[k]'hlt).kind, .int .i64 (t.kids[k]'hlt).pos, .int .i64 (t.kids[k]'hlt).n, encStr (t.kids[k]'hlt).text, .slice (t.kids[k]'hlt).A (t.kids[k]'hlt).kids.length (t.kids[k]'hlt).cap] 24))) := hide (HW.out.alloc (by omega) _)
          clear hck
          generalize t.kids[k]'hlt = c at *
          go_wp2_with fail
          refine HC.out.mono ?_
          rintro e w4 ⟨⟨v4, rfl, hO4⟩, hB4⟩
          have W4 := hide (HWa.out.trans hB4)
          have O4 := hide hO4
          clear hO4 hB4
          go_wp2
          go_roundw
          case rel => exact ⟨k + 1, hlt, by go_num, W4, hide (by rw [Hst.out, ← List.append_assoc]; exact O4.out)⟩
          case measure => simp [intOf]; omega
        · have hge : ¬ (k : Int) < (t.kids.length : Int) := by omega
          have HF : Hid ((us ++ [Use.mk t.text t.pos]) ++ consesL (t.kids.take k) = us ++ consL t) := hide (by rw [List.take_of_length_le (by omega)]; exact HU.out)
          rw [HF.out] at HOw
          go_wp2
          go_ret
          exact ⟨⟨u0, rfl, by simpa using HOw.out⟩, HW.out⟩
  · have HU : Hid ((us ++ [Use.mk t.text t.pos]) ++ consesL t.kids = us ++ consL t) := hide (by rw [HE.out, h22]; simp)
    have hus : us.length ≤ 100000 := by omega
    clear HE
    go_enter Tryz.func28, Tryz.ntmps28
    go_wp2_with (at_builtin; refine wpList_append_row _ rfl _ _ 28 rfl base 39 i0 _ 2 24 Tryz.underlying28 hi hz0 hz1 hz2 rfl (by decide) v us.length (us.flatMap useC.f) rfl (own_extB HO.out (((Ext.refl _).alloc _).alloc _)) _ 1 1 [encStr t.text, .int .i64 t.pos] rfl ?c2 ?c3 ?c4 ?c5 ?c6 ?_)
    case c2 => exact Row.use2 _ _ (at_newB _ _ _ (by simp))
    case c3 => first | exact ⟨rfl, rfl⟩ | (intro y hy; simp at hy; rcases hy with rfl | rfl <;> rfl)
    case c4 => unfold maxLen; omega
    case c5 => omega
    case c6 => (first | omega | (simp; omega))
    intro v4 w4 hown4 hg4 _
    have hB1 : Below base w w4 := (HA.out.trans ((Below.refl _ _).alloc (by simp; omega) _)).grown hg4 (by simp; omega) (fun k hk => (HO.out.lt k hk).1)
    have W1 := hide hB1
    have O1 : Hid (w4.ownsRow base 39 2 v4 (us ++ [Use.mk t.text t.pos]).length ((us ++ [Use.mk t.text t.pos]).flatMap useC.f)) := hide (by rw [use_flat, List.length_append]; exact hown4)
    have hb4 : w4.cell? ⟨w.heap.size, 4, none⟩ = some (.slice A0 t.kids.length t.cap) := by
      have hb4 := (hg4.block w.heap.size (by simp; omega) (fun e => by have := (HO.out.lt _ e.symm).2; omega))
      have := NBox.c4 (w := w4) (b := w.heap.size) (t := t) (by
        unfold NBox
        rw [HA0.out, hb4]
        exact (Below.heap_alloc _ _ _ (by simp)).trans (by have := HB0.out; unfold NBox at this; rwa [HA0.out] at this))
      rwa [HA0.out] at this
    clear hB1 hown4 hg4
    go_wp2
    go_loopw [0, 26] (fun v i wr => ∃ k : Nat, k ≤ t.kids.length ∧ i = .int .i64 k ∧ Hid (Below base w wr) ∧ Hid (wr.ownsRow base 39 2 v ((us ++ [Use.mk t.text t.pos]) ++ consesL (t.kids.take k)).length (((us ++ [Use.mk t.text t.pos]) ++ consesL (t.kids.take k)).flatMap useC.f))) (fun _ i _ => t.kids.length - (intOf i).toNat)
    case atStart => exact ⟨0, Nat.zero_le _, rfl, W1, hide (by simpa [consesL] using O1.out)⟩
    case round =>
      obtain ⟨k, hk, rfl, HW, HOw⟩ := hrel
      by_cases hlt : k < t.kids.length
      · have hlt' : (k : Int) < (t.kids.length : Int) := by omega
        have hk0 : (0 : Int) ≤ (k : Int) := by omega
        have HKw : Hid (Below w0.heap.size w0 wr) := hide (HBw.out.trans (HW.out.mono hb0))
        obtain ⟨b, o, rfl, hbb, q0, q1, q2, q3, q4⟩ := (Hk.out.old HKw.out).at_ hlt
        have hck := List.getElem_mem hlt
        have hcs := HSz.out _ hck
        have hcl := HSl.out k
        have hsw := HW.out.size
        have Hst := hide (HSt.out k hlt)
        have HC := hide (IH.out _ hck w0 (wr.alloc (.cells #[.int .i64 (t.kids[k]'hlt).kind, .int .i64 (t.kids[k]'hlt).pos, .int .i64 (t.kids[k]'hlt).n, encStr (t.kids[k]'hlt).text, .slice (t.kids[k]'hlt).A (t.kids[k]'hlt).kids.length (t.kids[k]'hlt).cap] 24)) base u0 ((us ++ [Use.mk t.text t.pos]) ++ consesL (t.kids.take k)) (Hk.out.kids _ hck)
          (HKw.out.alloc (by have := HKw.out.size; omega) _) hb0 (by simp; omega) (own_extB HOw.out ((Ext.refl _).alloc _)) (by
            have h1 := HS.out
            have h2 := HSk.out k hlt
            simp only [List.length_append, List.length_cons, List.length_nil]
            omega))
        have HWa : Hid (Below base w (wr.alloc (.cells #[.int .i64 (t.kids[k]'hlt).kind, .int .i64 (t.kids[k]'hlt).pos, .int .i64 (t.kids[k]'hlt).n, encStr (t.kids[k]'hlt).text, .slice (t.kids[k]'hlt).A (t.kids[k]'hlt).kids.length (t.kids[k]'hlt).cap] 24))) := hide (HW.out.alloc (by omega) _)
        clear hck
        generalize t.kids[k]'hlt = c at *
        go_wp2_with fail
        refine HC.out.mono ?_
        rintro e w4 ⟨⟨v4, rfl, hO4⟩, hB4⟩
        have W4 := hide (HWa.out.trans hB4)
        have O4 := hide hO4
        clear hO4 hB4
        go_wp2
        go_roundw
        case rel => exact ⟨k + 1, hlt, by go_num, W4, hide (by rw [Hst.out, ← List.append_assoc]; exact O4.out)⟩
        case measure => simp [intOf]; omega
      · have hge : ¬ (k : Int) < (t.kids.length : Int) := by omega
        have HF : Hid ((us ++ [Use.mk t.text t.pos]) ++ consesL (t.kids.take k) = us ++ consL t) := hide (by rw [List.take_of_length_le (by omega)]; exact HU.out)
        rw [HF.out] at HOw
        go_wp2
        go_ret
        exact ⟨⟨u0, rfl, by simpa using HOw.out⟩, HW.out⟩

end Go.Proofs.YtnbnhchgkbbiiaaGreat

/- Contracts: the variables of a pattern, and their names. -/
namespace Go.Proofs.YtnbnhchgkbbiiaaGreat
open Go.RowKit

theorem node_info : (Tryz.prog.info? 24).map (fun i => (i.zero, i.size, i.bytes)) = some (some (.agg #[.int .i64 0, .int .i64 0, .int .i64 0, .string ⟨#[]⟩, .slice none 0 0]), 5, 64) := by kernel_rfl
theorem Row.node {w : World} {b : Nat} {t : TypeId} {fr : Nat × Nat} (x0 x1 x2 x3 x4 : Value) (h : w.heap[b]? = some (.cells #[x0, x1, x2, x3, x4] t fr)) : Row w (some ⟨b, 0, none⟩) 5 1 [x0, x1, x2, x3, x4] := by
  refine ⟨rfl, fun _ => ⟨b, 0, rfl, lt_of_obj h, fun j u hu => ?_⟩⟩
  match j with
  | 0 => simp at hu; subst hu; simp [World.cell?, h]
  | 1 => simp at hu; subst hu; simp [World.cell?, h]
  | 2 => simp at hu; subst hu; simp [World.cell?, h]
  | 3 => simp at hu; subst hu; simp [World.cell?, h]
  | 4 => simp at hu; subst hu; simp [World.cell?, h]
  | j + 5 => simp at hu
theorem node_flat (l : List Tree) (u : Tree) : (l ++ [u]).flatMap treeC.f = l.flatMap treeC.f ++ [.int .i64 u.kind, .int .i64 u.pos, .int .i64 u.n, encStr u.text, .slice u.A u.kids.length u.cap] := by
  rw [List.flatMap_append]
  rfl

/-- The variables of a pattern. -/
noncomputable def varsL : Tree → List Tree := Tree.fold fun t l => if t.kind == 11 then [t] else l.flatten
noncomputable def varsesL (l : List Tree) : List Tree := (l.map varsL).flatten
theorem varsL_eq (t : Tree) : varsL t = if t.kind == 11 then [t] else varsesL t.kids := by
  unfold varsL
  rw [Tree.fold_eq]
  rfl
theorem varsesL_take (l : List Tree) {k : Nat} (h : k < l.length) : varsesL (l.take (k + 1)) = varsesL (l.take k) ++ varsL (l[k]'h) := by
  unfold varsesL
  rw [List.take_succ_eq_append_getElem h, List.map_append, List.flatten_append]
  congr 1
  simp
theorem sum_map_leV {α : Type} (f g : α → Nat) : ∀ l : List α, (∀ x ∈ l, f x ≤ g x) → (l.map f).sum ≤ (l.map g).sum
  | [], _ => Nat.le_refl _
  | x :: l, h => by
    have h1 := h x (List.mem_cons_self ..)
    have h2 := sum_map_leV f g l (fun y hy => h y (List.mem_cons_of_mem _ hy))
    simp only [List.map_cons, List.sum_cons]
    omega
theorem varsL_len (t : Tree) : (varsL t).length ≤ t.size := by
  induction t using Tree.ind with
  | h t ih =>
  rw [varsL_eq, Tree.size_eq]
  have h1 : (varsesL t.kids).length ≤ (t.kids.map Tree.size).sum := by
    unfold varsesL
    rw [List.length_flatten, List.map_map]
    exact sum_map_leV _ _ _ ih
  split
  · simp
  · omega
theorem varsesL_room (l : List Tree) {k : Nat} (h : k < l.length) : (varsesL (l.take k)).length + (l[k]'h).size ≤ sizes l := by
  have h1 : (varsesL (l.take k)).length ≤ sizes (l.take k) := by
    unfold varsesL sizes
    rw [List.length_flatten, List.map_map]
    exact sum_map_leV _ _ _ (fun x _ => varsL_len x)
  have h2 := sizes_take l h
  have h3 := sizes_le l (k + 1)
  omega
theorem varsL_in {w : World} {t : Tree} (h : NodeIn w t) : ∀ u ∈ varsL t, NodeIn w u := by
  revert h
  induction t using Tree.ind with
  | h t ih =>
  intro h u hu
  rw [varsL_eq] at hu
  split at hu
  · rw [List.mem_singleton] at hu
    subst hu
    exact h
  · unfold varsesL at hu
    obtain ⟨_, hl, hu⟩ := List.mem_flatten.1 hu
    obtain ⟨k, hk, rfl⟩ := List.mem_map.1 hl
    exact ih k hk (h.nodes.kids k hk) u hu

set_option maxRecDepth 10000 in
set_option maxHeartbeats 2000000 in
theorem p_varsI (t : Tree) : ∀ (w0 w : World) (base : Nat) (v : Value) (us : List Tree), NodeIn w0 t → Below w0.heap.size w0 w → w0.heap.size ≤ base → base ≤ w.heap.size →
    w.ownsRow base 24 5 v us.length (us.flatMap treeC.f) → us.length + t.size ≤ 100000 →
    Calls Tryz.prog 57 #[v, treeV t] w fun e w' => (∃ v', e = .returned v' ∧ w'.ownsRow base 24 5 v' (us ++ varsL t).length ((us ++ varsL t).flatMap treeC.f)) ∧ Below base w w' := by
  induction t using Tree.ind with
  | h t ih =>
  intro w0 w base v us h hB hb0 hb hO hsz
  obtain ⟨i0, hi, hz0, hz1, hz2⟩ := info_parts node_info
  have IH := hide ih
  have Hk := hide h.nodes
  have hle := h.le
  have hmx := h.max
  have HBw := hide hB
  have HO := hide hO
  have HE := hide (varsL_eq t)
  have HS : Hid (t.size = sizes t.kids + 1) := hide (Tree.size_eq t)
  have HSt := hide (fun k (hk : k < t.kids.length) => varsesL_take t.kids hk)
  have HSk := hide (fun k (hk : k < t.kids.length) => varsesL_room t.kids hk)
  have HSz := hide (fun k (hk : k ∈ t.kids) => Tree.size_kid hk)
  have HB0 := hide (NBox.new w t)
  have HA : Hid (Below base w (w.alloc (.cells #[.int .i64 t.kind, .int .i64 t.pos, .int .i64 t.n, encStr t.text, .slice t.A t.kids.length t.cap] 24))) := hide ((Below.refl _ _).alloc hb _)
  have OA : Hid ((w.alloc (.cells #[.int .i64 t.kind, .int .i64 t.pos, .int .i64 t.n, encStr t.text, .slice t.A t.kids.length t.cap] 24)).ownsRow base 24 5 v us.length (us.flatMap treeC.f)) := hide (own_extB HO.out ((Ext.refl _).alloc _))
  clear ih h hB hO
  unfold treeV
  generalize hA0 : t.A = A0 at *
  have HA0 := hide hA0
  clear hA0
  cases h11 : (t.kind == 11)
  · have HE2 : Hid (varsL t = varsesL t.kids) := hide (by rw [HE.out, h11]; rfl)
    clear HE
    have HU : Hid (us ++ varsesL t.kids = us ++ varsL t) := hide (by rw [HE2.out])
    go_enter Tryz.func57, Tryz.ntmps57
    go_wp2
    go_loopw [0, 17] (fun v i wr => ∃ k : Nat, k ≤ t.kids.length ∧ i = .int .i64 k ∧ Hid (Below base w wr) ∧ Hid (wr.ownsRow base 24 5 v (us ++ varsesL (t.kids.take k)).length ((us ++ varsesL (t.kids.take k)).flatMap treeC.f))) (fun _ i _ => t.kids.length - (intOf i).toNat)
    case atStart => exact ⟨0, Nat.zero_le _, rfl, HA, hide (by simpa [varsesL] using OA.out)⟩
    case round =>
      obtain ⟨k, hk, rfl, HW, HOw⟩ := hrel
      by_cases hlt : k < t.kids.length
      · have hlt' : (k : Int) < (t.kids.length : Int) := by omega
        have hk0 : (0 : Int) ≤ (k : Int) := by omega
        have HKw : Hid (Below w0.heap.size w0 wr) := hide (HBw.out.trans (HW.out.mono hb0))
        obtain ⟨b, o, rfl, hbb, q0, q1, q2, q3, q4⟩ := (Hk.out.old HKw.out).at_ hlt
        have hck := List.getElem_mem hlt
        have hcs := HSz.out _ hck
        have hsw := HW.out.size
        have Hst := hide (HSt.out k hlt)
        have HC := hide (IH.out _ hck w0 (wr.alloc (.cells #[.int .i64 (t.kids[k]'hlt).kind, .int .i64 (t.kids[k]'hlt).pos, .int .i64 (t.kids[k]'hlt).n, encStr (t.kids[k]'hlt).text, .slice (t.kids[k]'hlt).A (t.kids[k]'hlt).kids.length (t.kids[k]'hlt).cap] 24)) base u0 (us ++ varsesL (t.kids.take k)) (Hk.out.kids _ hck)
          (HKw.out.alloc (by have := HKw.out.size; omega) _) hb0 (by simp; omega) (own_extB HOw.out ((Ext.refl _).alloc _)) (by
            have h1 := HS.out
            have h2 := HSk.out k hlt
            rw [List.length_append]
            omega))
        have HWa : Hid (Below base w (wr.alloc (.cells #[.int .i64 (t.kids[k]'hlt).kind, .int .i64 (t.kids[k]'hlt).pos, .int .i64 (t.kids[k]'hlt).n, encStr (t.kids[k]'hlt).text, .slice (t.kids[k]'hlt).A (t.kids[k]'hlt).kids.length (t.kids[k]'hlt).cap] 24))) := hide (HW.out.alloc (by omega) _)
        clear hck
        generalize t.kids[k]'hlt = c at *
        go_wp2_with fail
        refine HC.out.mono ?_
        rintro e w4 ⟨⟨v4, rfl, hO4⟩, hB4⟩
        have W4 := hide (HWa.out.trans hB4)
        have O4 := hide hO4
        clear hO4 hB4
        go_wp2
        go_roundw
        case rel => exact ⟨k + 1, hlt, by go_num, W4, hide (by rw [Hst.out, ← List.append_assoc]; exact O4.out)⟩
        case measure => simp [intOf]; omega
      · have hge : ¬ (k : Int) < (t.kids.length : Int) := by omega
        have HF : Hid (us ++ varsesL (t.kids.take k) = us ++ varsL t) := hide (by rw [List.take_of_length_le (by omega)]; exact HU.out)
        rw [HF.out] at HOw
        go_wp2
        go_ret
        exact ⟨⟨u0, rfl, by simpa using HOw.out⟩, HW.out⟩
  · have HU : Hid (us ++ [t] = us ++ varsL t) := hide (by rw [HE.out, h11]; simp)
    have hus : us.length ≤ 100000 := by omega
    clear HE
    go_enter Tryz.func57, Tryz.ntmps57
    go_wp2_with (at_builtin; refine wpList_append_row _ rfl _ _ 22 rfl base 24 i0 _ 5 64 Tryz.underlying22 hi hz0 hz1 hz2 rfl (by decide) v us.length (us.flatMap treeC.f) rfl (own_extB HO.out (((Ext.refl _).alloc _).alloc _)) _ 1 1 [.int .i64 t.kind, .int .i64 t.pos, .int .i64 t.n, encStr t.text, .slice A0 t.kids.length t.cap] rfl ?c2 ?c3 ?c4 ?c5 ?c6 ?_)
    case c2 => exact Row.node _ _ _ _ _ (at_newB _ _ _ (by simp))
    case c3 => first | exact ⟨rfl, rfl, rfl, rfl, rfl⟩ | (intro y hy; simp at hy; rcases hy with rfl | rfl | rfl | rfl | rfl <;> rfl)
    case c4 => unfold maxLen; omega
    case c5 => omega
    case c6 => (first | omega | (simp; omega))
    intro v4 w4 hown4 hg4 _
    have hB1 : Below base w w4 := (HA.out.trans ((Below.refl _ _).alloc (by simp; omega) _)).grown hg4 (by simp; omega) (fun k hk => (HO.out.lt k hk).1)
    have W1 := hide hB1
    have O1 : Hid (w4.ownsRow base 24 5 v4 (us ++ varsL t).length ((us ++ varsL t).flatMap treeC.f)) := hide (by rw [← HU.out, node_flat, List.length_append, HA0.out]; exact hown4)
    clear hB1 hown4 hg4
    go_wp2
    go_ret
    exact ⟨⟨v4, rfl, by simpa using O1.out⟩, W1.out⟩

end Go.Proofs.YtnbnhchgkbbiiaaGreat

/- Contract: the names of a pattern's variables. -/
namespace Go.Proofs.YtnbnhchgkbbiiaaGreat
open Go.RowKit

noncomputable def varsN (t : Tree) : List Str := (varsL t).map Tree.text
theorem texts_take (l : List Tree) {k : Nat} (h : k < l.length) : (l.take (k + 1)).map Tree.text = (l.take k).map Tree.text ++ [(l[k]'h).text] := by
  rw [List.take_succ_eq_append_getElem h, List.map_append]; rfl

set_option maxRecDepth 10000 in
set_option maxHeartbeats 1000000 in
theorem p_vars (t : Tree) (w : World) (h : NodeIn w t) (hsz : t.size ≤ 100000) :
    Calls Tryz.prog 35 #[treeV t] w fun e w' => (∃ A' cap', e = .returned (.slice A' (varsN t).length cap') ∧ (varsN t).length ≤ cap' ∧ cap' ≤ 9223372036854775807 ∧ Strs w' A' (varsN t) ∧ ∀ c o, A' = some ⟨c, o, none⟩ → w.heap.size ≤ c) ∧ Ext w w' := by
  obtain ⟨i0, hi, hz0, hz1, hz2⟩ := info_parts str_infoU
  have X0 : Hid (Ext w (w.alloc (.cells #[.int .i64 t.kind, .int .i64 t.pos, .int .i64 t.n, encStr t.text, .slice t.A t.kids.length t.cap] 24))) := hide ((Ext.refl w).alloc _)
  have HC := hide (p_varsI t w (w.alloc (.cells #[.int .i64 t.kind, .int .i64 t.pos, .int .i64 t.n, encStr t.text, .slice t.A t.kids.length t.cap] 24)) (w.heap.size + 1) (.slice none 0 0) [] h (X0.out.below) (by omega) (by simp) (World.ownsRow_nil _ _ _ _) (by simpa using hsz))
  have hln := varsL_len t
  have HIn := hide (varsL_in h)
  have HR : Hid ((varsL t).map Tree.text = varsN t) := hide rfl
  generalize varsN t = R at *
  clear h
  unfold treeV at *
  generalize varsL t = l at *
  go_enter Tryz.func35, Tryz.ntmps35
  go_wp2_with fail
  refine HC.out.mono ?_
  rintro e w2 ⟨⟨v2, rfl, hO2⟩, hB2⟩
  rw [List.nil_append] at hO2
  obtain ⟨A2, c2, rfl, r1, r2, r3, -⟩ := RowOf.own treeC hO2
  have X2 : Hid (Ext w w2) := hide (X0.out.trans (Ext.of_below hB2 (by simp)))
  have HK : Hid (NodesIn w2 A2 l) := hide ⟨r3, fun k hk => (HIn.out k hk).ext X2.out⟩
  have hsz2 := X2.out.size
  clear hO2 hB2 r3
  go_wp2
  go_loopw [3, 9] (fun v i wr => ∃ k : Nat, k ≤ l.length ∧ i = .int .i64 k ∧ Hid (Ext w2 wr) ∧ Hid (wr.ownsRow w2.heap.size 9 1 v ((l.take k).map Tree.text).length (((l.take k).map Tree.text).map encStr))) (fun _ i _ => l.length - (intOf i).toNat)
  case atStart => exact ⟨0, Nat.zero_le _, rfl, hide (Ext.refl _), hide (World.ownsRow_nil _ _ _ _)⟩
  case round =>
    obtain ⟨k, hk, rfl, HX, HO⟩ := hrel
    by_cases hlt : k < l.length
    · have hlt' : (k : Int) < (l.length : Int) := by omega
      have hk0 : (0 : Int) ≤ (k : Int) := by omega
      obtain ⟨b, o, rfl, hb, q0, q1, q2, q3, q4⟩ := (HK.out.ext HX.out).at_ hlt
      have Hst := hide (texts_take l hlt)
      have hol : ((l.take k).map Tree.text).length ≤ k := by simp; omega
      generalize (l.take k).map Tree.text = L at *
      generalize l[k]'hlt = c at *
      go_wp2_with (at_builtin; refine wpList_append_row _ rfl _ _ 31 rfl w2.heap.size 9 i0 _ 1 16 Tryz.underlying31 hi hz0 hz1 hz2 rfl (by decide) u3 L.length (L.map encStr) rfl (own_extB HO.out (((Ext.refl _).alloc _).alloc _)) _ 1 1 [encStr c.text] rfl ?c2 ?c3 ?c4 ?c5 ?c6 ?_)
      case c2 => exact Strs.boxedU _ (at_newB _ _ _ (by simp))
      case c3 => first | rfl | (intro y hy; simp at hy; subst hy; rfl)
      case c4 => unfold maxLen; omega
      case c5 => omega
      case c6 => have := HX.out.size; simp; omega
      intro v4 w4 hown4 hg4 _
      have X4 := hide (Ext.appU ((HX.out.alloc _).alloc _) hg4 (own_extB HO.out (((Ext.refl _).alloc _).alloc _)) (Nat.le_refl _))
      have O4 := hide hown4
      clear hown4 hg4
      go_wp2
      go_roundw
      case rel => exact ⟨k + 1, hlt, by go_num, X4, hide (by rw [Hst.out]; simpa using O4.out)⟩
      case measure => simp [intOf]; omega
    · have hge : ¬ (k : Int) < (l.length : Int) := by omega
      have hkl : l.take k = l := List.take_of_length_le (by omega)
      rw [hkl, HR.out] at HO
      obtain ⟨A5, c5, rfl, p1, p2, p3, p4⟩ := Strs.of_own HO.out
      have P3 := hide p3
      have P4 := hide p4
      clear p3 p4 hkl
      go_wp2
      go_ret
      exact ⟨⟨A5, c5, rfl, p1, p2, P3.out, fun c o e => by have := (P4.out c o e).1; omega⟩, X2.out.trans HX.out⟩

end Go.Proofs.YtnbnhchgkbbiiaaGreat

/- Contracts: the functions that uses' walk is handed and makes: whether a name is bound; a use that is told. -/
namespace Go.Proofs.YtnbnhchgkbbiiaaGreat
open Go.RowKit

/-- From w to w' nothing has turned but block `c` and the block of what is told, which was `v` and is `v'`. -/
structure Tr (c : Nat) (w : World) (v : Value) (w' : World) (v' : Value) : Prop where
  os : w'.os = w.os
  tape : w'.tape = w.tape
  output : w'.output = w.output
  size : w.heap.size ≤ w'.heap.size
  blk : ∀ k, k < w.heap.size → k ≠ c → v.ownBlock ≠ some k → w'.heap[k]? = w.heap[k]?
  own : v'.ownBlock = v.ownBlock ∨ ∀ k, v'.ownBlock = some k → w.heap.size ≤ k
section
variable {c : Nat} {a b d w w' : World} {v v1 v2 v' : Value}
theorem Tr.trans (h : Tr c a v b v1) (k : Tr c b v1 d v2) : Tr c a v d v2 where
  os := k.os.trans h.os
  tape := k.tape.trans h.tape
  output := k.output.trans h.output
  size := Nat.le_trans h.size k.size
  blk i hi hc hv := (k.blk i (Nat.lt_of_lt_of_le hi h.size) hc (fun e => by
    rcases h.own with h1 | h1
    · exact hv (h1 ▸ e)
    · have := h1 i e; omega)).trans (h.blk i hi hc hv)
  own := by
    rcases k.own with k1 | k1
    · rcases h.own with h1 | h1
      · exact .inl (k1.trans h1)
      · exact .inr (fun i hi => h1 i (k1 ▸ hi))
    · exact .inr (fun i hi => Nat.le_trans h.size (k1 i hi))
theorem Tr.of_ext (e : Ext w w') : Tr c w v w' v :=
  ⟨e.below.os, e.below.tape, e.below.output, e.size, fun _ hk _ _ => e.heap hk, .inl rfl⟩
theorem Tr.refl (c : Nat) (w : World) (v : Value) : Tr c w v w v := Tr.of_ext (Ext.refl w)
/-- What lies below is as it was. -/
theorem Tr.below {B : Nat} (h : Tr c w v w' v') (hB : B ≤ w.heap.size) (hc : B ≤ c) (hv : ∀ k, v.ownBlock = some k → B ≤ k) : Below B w w' :=
  ⟨h.os, h.tape, h.output, h.size, fun k hk => h.blk k (by omega) (by omega) (fun e => by have := hv k e; omega)⟩
end

/-- A function value tells whether a name is bound, now and later. -/
def AsksB (c : Nat) (w : World) (v fv : Value) (p : Str → Bool) : Prop := ∃ f lb, fv = .func (.func f) #[] lb ∧ Opens f ∧
  ∀ w' v', Tr c w v w' v' → ∀ s : Str, s.length ≤ 9223372036854775807 → Calls Tryz.prog f (#[encStr s] ++ lb) w' fun e w'' => e = .returned (.bool (p s)) ∧ Ext w' w''
theorem AsksB.on {c : Nat} {w w' : World} {v v' fv : Value} {p : Str → Bool} (h : AsksB c w v fv p) (k : Tr c w v w' v') : AsksB c w' v' fv p := by
  obtain ⟨f, lb, h1, h2, h3⟩ := h
  exact ⟨f, lb, h1, h2, fun w2 v2 k2 => h3 w2 v2 (k.trans k2)⟩

theorem u_uses1 (s : Str) (w : World) : Calls Tryz.prog 20 #[encStr s] w fun e w' => e = .returned (.bool false) ∧ Ext w w' := by
  go_enter Tryz.func20, Tryz.ntmps20
  go_wp2
  go_ret
  exact ⟨rfl, Ext.refl _⟩
theorem none_asks (c : Nat) (w : World) (v : Value) (eg : Opens 20) : AsksB c w v (.func (.func 20) #[] #[]) (fun _ => false) :=
  ⟨20, #[], rfl, eg, fun w' _ _ s _ => u_uses1 s w'⟩

theorem u_also (A : Option Addr) (n cap ob : Nat) (w : World) :
    Calls Tryz.prog 32 #[.slice A n cap, .pointer (some ⟨ob, 0, none⟩)] w fun e w' => e = .returned (.func (.func 33) #[] #[.pointer (some ⟨w.heap.size, 0, none⟩), .pointer (some ⟨ob, 0, none⟩)]) ∧ w' = w.alloc (.cells #[.slice A n cap] 31) := by
  go_enter Tryz.func32, Tryz.ntmps32
  go_wp2
  go_ret
  exact ⟨rfl, rfl⟩

set_option maxHeartbeats 1000000 in
theorem u_in (s : Str) (A : Option Addr) (cap lbx ob : Nat) (l : List Str) (f : FuncId) (lb : Array Value) (p : Str → Bool) (w : World) (h1 : w.cell? ⟨lbx, 0, none⟩ = some (.slice A l.length cap)) (h2 : w.cell? ⟨ob, 0, none⟩ = some (.func (.func f) #[] lb))
    (h3 : Strs w A l) (hl : l.length ≤ 9223372036854775807) (eg : Opens f) (hf : ∀ w', Ext w w' → Calls Tryz.prog f (#[encStr s] ++ lb) w' fun e w'' => e = .returned (.bool (p s)) ∧ Ext w' w'') :
    Calls Tryz.prog 33 #[encStr s, .pointer (some ⟨lbx, 0, none⟩), .pointer (some ⟨ob, 0, none⟩)] w fun e w' => e = .returned (.bool (l.any (· == s) || p s)) ∧ Ext w w' := by
  have HC := hide (has_s A cap l s w h3 hl)
  have HF := hide hf
  unfold Opens at eg
  clear hf h3
  cases hb : l.any (· == s)
  · rw [hb] at HC
    go_enter Tryz.func33, Tryz.ntmps33
    go_wp2_with fail
    refine HC.out.mono ?_
    rintro e w1 ⟨rfl, rfl⟩
    go_wp2_with fail
    refine (HF.out _ (Ext.refl _)).mono ?_
    rintro e w2 ⟨rfl, hx⟩
    go_wp2
    go_ret
    exact ⟨by simp, hx⟩
  · rw [hb] at HC
    go_enter Tryz.func33, Tryz.ntmps33
    go_wp2_with fail
    refine HC.out.mono ?_
    rintro e w1 ⟨rfl, rfl⟩
    go_wp2
    go_ret
    exact ⟨by simp, Ext.refl _⟩

/-- A function that is made: a name of a list, or one that is bound around. -/
theorem also_asks {c : Nat} {w : World} {v fv : Value} {p : Str → Bool} (A : Option Addr) (cap lbx ob : Nat) (l : List Str) (eg : Opens 33) (h1 : w.heap[lbx]? = some (.cells #[.slice A l.length cap] 31 (0, 0))) (h2 : w.heap[ob]? = some (.cells #[fv] 42 (0, 0)))
    (h3 : Strs w A l) (hl : l.length ≤ 9223372036854775807) (c1 : lbx ≠ c) (c2 : ob ≠ c) (c3 : v.ownBlock ≠ some lbx) (c4 : v.ownBlock ≠ some ob) (c5 : ∀ b o, A = some ⟨b, o, none⟩ → b ≠ c ∧ v.ownBlock ≠ some b) (ho : AsksB c w v fv p) :
    AsksB c w v (.func (.func 33) #[] #[.pointer (some ⟨lbx, 0, none⟩), .pointer (some ⟨ob, 0, none⟩)]) (fun s => l.any (· == s) || p s) := by
  refine ⟨33, _, rfl, eg, fun w' v' k s hs => ?_⟩
  have g1 := (k.blk lbx (lt_of_obj h1) c1 c3).trans h1
  have g2 := (k.blk ob (lt_of_obj h2) c2 c4).trans h2
  have g3 : Strs w' A l := by
    refine ⟨h3.1, fun hn => ?_⟩
    obtain ⟨b, o, rfl, hb, hc⟩ := h3.2 hn
    obtain ⟨e1, e2⟩ := c5 b o rfl
    exact ⟨b, o, rfl, Nat.lt_of_lt_of_le hb k.size, fun j u hu => (World.cell?_of_block (a := ⟨b, o + j, none⟩) (k.blk b hb e1 e2)).trans (hc j u hu)⟩
  obtain ⟨f, lb, rfl, e2, e3⟩ := ho.on k
  exact u_in s A cap lbx ob l f lb p w' (by simp [World.cell?, g1]) (by simp [World.cell?, g2]) g3 hl e2 (fun w2 e => e3 w2 v' (Tr.of_ext e) s hs)

/-- What has been told, in block `c`. -/
structure OutAt (c base : Nat) (w : World) (v : Value) (us : List Use) : Prop where
  cell : w.heap[c]? = some (.cells #[v] 28 (0, 0))
  own : w.ownsRow base 39 2 v us.length (us.flatMap useC.f)
  lt : c < base
  le : base ≤ w.heap.size
section
variable {c base : Nat} {w w' : World} {v : Value} {us : List Use}
theorem OutAt.ext (h : OutAt c base w v us) (e : Ext w w') : OutAt c base w' v us := ⟨(e.heap (lt_of_obj h.cell)).trans h.cell, own_extB h.own e, h.lt, Nat.le_trans h.le e.size⟩
theorem OutAt.ltc (h : OutAt c base w v us) : c < w.heap.size := lt_of_obj h.cell
theorem OutAt.ne (h : OutAt c base w v us) : v.ownBlock ≠ some c := fun e => by have := (h.own.lt c e).1; have := h.lt; omega
theorem OutAt.new (h : OutAt c base w v us) {k : Nat} (hk : w.heap.size ≤ k) : k ≠ c ∧ v.ownBlock ≠ some k := ⟨by have := h.ltc; omega, fun e => by have := (h.own.lt k e).2; omega⟩
end

set_option maxRecDepth 10000 in
set_option maxHeartbeats 1000000 in
theorem u_tell (t : Tree) (w : World) (c base : Nat) (v : Value) (us : List Use) (h : OutAt c base w v us) (hl : us.length ≤ 100000) :
    Calls Tryz.prog 21 #[treeV t, .pointer (some ⟨c, 0, none⟩)] w fun e w' => e = .returned (.tuple #[]) ∧ ∃ v', OutAt c base w' v' (us ++ [Use.mk t.text t.pos]) ∧ Tr c w v w' v' := by
  obtain ⟨i0, hi, hz0, hz1, hz2⟩ := info_parts use_info
  have HO := hide h
  have hc := h.ltc
  have hcc : w.cell? ⟨c, 0, none⟩ = some v := by simp [World.cell?, h.cell]
  have hcf : w.frozen? ⟨c, 0, none⟩ = false := by simp [World.frozen?, h.cell]
  clear h
  unfold treeV
  go_enter Tryz.func21, Tryz.ntmps21
  go_wp2_with (at_builtin; refine wpList_append_row _ rfl _ _ 28 rfl base 39 i0 _ 2 24 Tryz.underlying28 hi hz0 hz1 hz2 rfl (by decide) v us.length (us.flatMap useC.f) rfl (own_extB HO.out.own (((Ext.refl _).alloc _).alloc _)) _ 1 1 [encStr t.text, .int .i64 t.pos] rfl ?c2 ?c3 ?c4 ?c5 ?c6 ?_)
  case c2 => exact Row.use2 _ _ (at_newB _ _ _ (by simp))
  case c3 => first | exact ⟨rfl, rfl⟩ | (intro y hy; simp at hy; rcases hy with rfl | rfl <;> rfl)
  case c4 => unfold maxLen; omega
  case c5 => omega
  case c6 => have := HO.out.le; (first | omega | (simp; omega))
  intro v4 w4 hown4 hg4 hat4
  obtain ⟨A4, cp4, hv4, -⟩ := Use.own (l := us ++ [Use.mk t.text t.pos]) (v := v4) (w := w4) (base := base) (by rw [use_flat, List.length_append]; exact hown4)
  have hv5 : v4 = .slice A4 (us.length + 1) cp4 := by rw [hv4]; simp
  clear hv4
  subst hv5
  have E1 : Ext w ((w.alloc (.cells #[.int .i64 t.kind, .int .i64 t.pos, .int .i64 t.n, encStr t.text, .slice t.A t.kids.length t.cap] 24)).alloc (.cells #[encStr t.text, .int .i64 t.pos] 39)) := ((Ext.refl _).alloc _).alloc _
  have T1 : Tr c w v w4 (.slice A4 (us.length + 1) cp4) := ⟨hg4.os.trans E1.below.os, hg4.tape.trans E1.below.tape, hg4.output.trans E1.below.output, Nat.le_trans E1.size hg4.size,
    fun k hk hkc hkv => (hg4.block k (Nat.lt_of_lt_of_le hk E1.size) (fun e => hkv e.symm)).trans (E1.heap hk),
    by
      rcases hat4 with h1 | h1
      · exact .inl h1
      · exact .inr (fun k hk => by rw [h1] at hk; injection hk with hk; omega)⟩
  have hc4 : w4.heap[c]? = some (.cells #[v] 28 (0, 0)) := (hg4.block c (Nat.lt_of_lt_of_le hc E1.size) (fun e => HO.out.ne e.symm)).trans ((E1.heap hc).trans HO.out.cell)
  have O4 : Hid (OutAt c base (w4.setCell ⟨c, 0, none⟩ (.slice A4 (us.length + 1) cp4)) (.slice A4 (us.length + 1) cp4) (us ++ [Use.mk t.text t.pos])) := hide ⟨by have := blk_setCell hc4 0 (.slice A4 (us.length + 1) cp4); simpa using this, by
      have h5 := ownsRow_setCell_below (a := ⟨c, 0, none⟩) hown4 HO.out.lt (.slice A4 (us.length + 1) cp4)
      rw [use_flat, List.length_append]
      exact h5, HO.out.lt, by have := HO.out.le; have := T1.size; simp [World.setCell]; omega⟩
  have T4 : Hid (Tr c w v (w4.setCell ⟨c, 0, none⟩ (.slice A4 (us.length + 1) cp4)) (.slice A4 (us.length + 1) cp4)) := hide ⟨T1.os, T1.tape, T1.output, by have := T1.size; simpa [World.setCell] using this,
    fun k hk hkc hkv => (Below.heap_setCell w4 ⟨c, 0, none⟩ (.slice A4 (us.length + 1) cp4) k hkc).trans (T1.blk k hk hkc hkv), T1.own⟩
  have hcc4 : w4.cell? ⟨c, 0, none⟩ = some v := by simp [World.cell?, hc4]
  have hcf4 : w4.frozen? ⟨c, 0, none⟩ = false := by simp [World.frozen?, hc4]
  clear T1 E1 hown4 hg4 hat4 hcc hcf
  go_wp2
  go_end0
  exact ⟨rfl, _, O4.out, T4.out⟩

end Go.Proofs.YtnbnhchgkbbiiaaGreat
