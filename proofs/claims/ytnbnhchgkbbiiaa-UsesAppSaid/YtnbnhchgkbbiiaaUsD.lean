/- Contracts: the constructors of a tree, behind others. -/
import Derived.Test.YtnbnhchgkbbiiaaUsA
namespace Go.Proofs.Ytnbnhchgkbbiiaa
open Go.RowKit

/-- A name that is used, and where. -/
structure Use where
  name : Str
  pos : Int
def useC : Coder Use := ⟨2, fun u => [encStr u.name, .int .i64 u.pos], fun _ => rfl, by omega⟩
abbrev Uses (w : World) (A : Option Addr) (l : List Use) : Prop := RowOf useC w A l
theorem use_info : (Try.prog.info? 84).map (fun i => (i.zero, i.size, i.bytes)) = some (some (.agg #[.string ⟨#[]⟩, .int .i64 0]), 2, 24) := by kernel_rfl
theorem Row.use2 {w : World} {b : Nat} {t : TypeId} {fr : Nat × Nat} (x : Str) (z : Int) (h : w.heap[b]? = some (.cells #[encStr x, .int .i64 z] t fr)) : Row w (some ⟨b, 0, none⟩) 2 1 [encStr x, .int .i64 z] := by
  refine ⟨rfl, fun _ => ⟨b, 0, rfl, lt_of_obj h, fun j u hu => ?_⟩⟩
  match j with
  | 0 => simp at hu; subst hu; simp [World.cell?, h]
  | 1 => simp at hu; subst hu; simp [World.cell?, h]
  | j + 2 => simp at hu
theorem Use.own {w : World} {base : Nat} {v : Value} {l : List Use} (h : w.ownsRow base 84 2 v l.length (l.flatMap useC.f)) :
    ∃ A cap, v = .slice A l.length cap ∧ l.length ≤ cap ∧ cap ≤ 9223372036854775807 ∧ Uses w A l ∧ ∀ c o, A = some ⟨c, o, none⟩ → base ≤ c ∧ c < w.heap.size := RowOf.own useC h
theorem use_flat (l : List Use) (u : Use) : (l ++ [u]).flatMap useC.f = l.flatMap useC.f ++ [encStr u.name, .int .i64 u.pos] := by
  rw [List.flatMap_append]
  rfl

/-- The constructors of a tree. -/
noncomputable def consL : Tree → List Use := Tree.fold fun t l => (if t.kind == 22 || t.kind == 14 then [⟨t.text, t.pos⟩] else []) ++ l.flatten
noncomputable def consesL (l : List Tree) : List Use := (l.map consL).flatten
theorem consL_eq (t : Tree) : consL t = (if t.kind == 22 || t.kind == 14 then [⟨t.text, t.pos⟩] else []) ++ consesL t.kids := by
  unfold consL
  rw [Tree.fold_eq]
  rfl
theorem consesL_take (l : List Tree) {k : Nat} (h : k < l.length) : consesL (l.take (k + 1)) = consesL (l.take k) ++ consL (l[k]'h) := by
  unfold consesL
  rw [List.take_succ_eq_append_getElem h, List.map_append, List.flatten_append]
  congr 1
  simp
theorem sum_map_le {α : Type} (f g : α → Nat) : ∀ l : List α, (∀ x ∈ l, f x ≤ g x) → (l.map f).sum ≤ (l.map g).sum
  | [], _ => Nat.le_refl _
  | x :: l, h => by
    have h1 := h x (List.mem_cons_self ..)
    have h2 := sum_map_le f g l (fun y hy => h y (List.mem_cons_of_mem _ hy))
    simp only [List.map_cons, List.sum_cons]
    omega
theorem consL_len (t : Tree) : (consL t).length ≤ t.size := by
  induction t using Tree.ind with
  | h t ih =>
  rw [consL_eq, Tree.size_eq, List.length_append]
  have h1 : (consesL t.kids).length ≤ (t.kids.map Tree.size).sum := by
    unfold consesL
    rw [List.length_flatten, List.map_map]
    exact sum_map_le _ _ _ ih
  split <;> simp <;> omega
theorem consesL_len (l : List Tree) (k : Nat) : (consesL (l.take k)).length ≤ sizes l := by
  have h1 : (consesL (l.take k)).length ≤ sizes (l.take k) := by
    unfold consesL sizes
    rw [List.length_flatten, List.map_map]
    exact sum_map_le _ _ _ (fun x _ => consL_len x)
  exact Nat.le_trans h1 (sizes_le l k)

theorem consesL_room (l : List Tree) {k : Nat} (h : k < l.length) : (consesL (l.take k)).length + (l[k]'h).size ≤ sizes l := by
  have h1 : (consesL (l.take k)).length ≤ sizes (l.take k) := by
    have := consesL_len (l.take k) k
    rwa [List.take_take, Nat.min_self] at this
  have h2 := sizes_take l h
  have h3 := sizes_le l (k + 1)
  omega

set_option maxRecDepth 10000 in
set_option maxHeartbeats 2000000 in
theorem u_consI (t : Tree) : ∀ (w0 w : World) (base : Nat) (v : Value) (us : List Use), NodeIn w0 t → Below w0.heap.size w0 w → w0.heap.size ≤ base → base ≤ w.heap.size →
    w.ownsRow base 84 2 v us.length (us.flatMap useC.f) → us.length + t.size ≤ 100000 →
    Calls Try.prog 63 #[v, treeV t] w fun e w' => (∃ v', e = .returned v' ∧ w'.ownsRow base 84 2 v' (us ++ consL t).length ((us ++ consL t).flatMap useC.f)) ∧ Below base w w' := by
  induction t using Tree.ind with
  | h t ih =>
  intro w0 w base v us h hB hb0 hb hO hsz
  obtain ⟨i0, hi, hz0, hz1, hz2⟩ := info_parts use_info
  have IH := hide ih
  have Hk := hide h.nodes
  have hle := h.le
  have hmx := h.max
  have HBw := hide hB
  have HO := hide hO
  have HE := hide (consL_eq t)
  have HS : Hid (t.size = sizes t.kids + 1) := hide (Tree.size_eq t)
  have HSl := hide (fun k => consesL_len t.kids k)
  have HSt := hide (fun k (hk : k < t.kids.length) => consesL_take t.kids hk)
  have HSk := hide (fun k (hk : k < t.kids.length) => consesL_room t.kids hk)
  have HSz := hide (fun k (hk : k ∈ t.kids) => Tree.size_kid hk)
  have HB0 := hide (NBox.new w t)
  have HA : Hid (Below base w (w.alloc (.cells #[.int .i64 t.kind, .int .i64 t.pos, .int .i64 t.n, encStr t.text, .slice t.A t.kids.length t.cap] 54))) := hide ((Below.refl _ _).alloc hb _)
  have OA : Hid ((w.alloc (.cells #[.int .i64 t.kind, .int .i64 t.pos, .int .i64 t.n, encStr t.text, .slice t.A t.kids.length t.cap] 54)).ownsRow base 84 2 v us.length (us.flatMap useC.f)) := hide (own_extB HO.out ((Ext.refl _).alloc _))
  clear ih h hB hO
  unfold treeV
  generalize hA0 : t.A = A0 at *
  have HA0 := hide hA0
  clear hA0
  cases h22 : (t.kind == 22)
  · cases h14 : (t.kind == 14)
    · have HE2 : Hid (consL t = consesL t.kids) := hide (by rw [HE.out, h22, h14]; rfl)
      clear HE
      have HU : Hid (us ++ consesL t.kids = us ++ consL t) := hide (by rw [HE2.out])
      go_enter Try.func63, Try.ntmps63
      go_wp2
      go_loopw [0, 26] (fun v i wr => ∃ k : Nat, k ≤ t.kids.length ∧ i = .int .i64 k ∧ Hid (Below base w wr) ∧ Hid (wr.ownsRow base 84 2 v (us ++ consesL (t.kids.take k)).length ((us ++ consesL (t.kids.take k)).flatMap useC.f))) (fun _ i _ => t.kids.length - (intOf i).toNat)
      case atStart => exact ⟨0, Nat.zero_le _, rfl, HA, hide (by simpa [consesL] using OA.out)⟩
      case round =>
        obtain ⟨k, hk, rfl, HW, HOw⟩ := hrel
        by_cases hlt : k < t.kids.length
        · have hlt' : (k : Int) < (t.kids.length : Int) := by omega
          have hk0 : (0 : Int) ≤ (k : Int) := by omega
          have HKw : Hid (Below w0.heap.size w0 wr) := hide (HBw.out.trans (HW.out.mono hb0))
          obtain ⟨b, o, rfl, hbb, q0, q1, q2, q3, q4⟩ := (Hk.out.old HKw.out).at_ hlt
          have hck := List.getElem_mem hlt
          have hcs := HSz.out _ hck
          have hcl := HSl.out k
          have hsw := HW.out.size
          have Hst := hide (HSt.out k hlt)
          have HC := hide (IH.out _ hck w0 (wr.alloc (.cells #[.int .i64 (t.kids[k]'hlt).kind, .int .i64 (t.kids[k]'hlt).pos, .int .i64 (t.kids[k]'hlt).n, encStr (t.kids[k]'hlt).text, .slice (t.kids[k]'hlt).A (t.kids[k]'hlt).kids.length (t.kids[k]'hlt).cap] 54)) base u0 (us ++ consesL (t.kids.take k)) (Hk.out.kids _ hck)
            (HKw.out.alloc (by have := HKw.out.size; omega) _) hb0 (by simp; omega) (own_extB HOw.out ((Ext.refl _).alloc _)) (by
              have h1 := HS.out
              have h2 := HSk.out k hlt
              rw [List.length_append]
              omega))
          have HWa : Hid (Below base w (wr.alloc (.cells #[.int .i64 (t.kids[k]'hlt).kind, .int .i64 (t.kids[k]'hlt).pos, .int .i64 (t.kids[k]'hlt).n, encStr (t.kids[k]'hlt).text, .slice (t.kids[k]'hlt).A (t.kids[k]'hlt).kids.length (t.kids[k]'hlt).cap] 54))) := hide (HW.out.alloc (by omega) _)
          clear hck
          generalize t.kids[k]'hlt = c at *
          go_wp2_with fail
          refine HC.out.mono ?_
          rintro e w4 ⟨⟨v4, rfl, hO4⟩, hB4⟩
          have W4 := hide (HWa.out.trans hB4)
          have O4 := hide hO4
          clear hO4 hB4
          go_wp2
          go_roundw
          case rel => exact ⟨k + 1, hlt, by go_num, W4, hide (by rw [Hst.out, ← List.append_assoc]; exact O4.out)⟩
          case measure => simp [intOf]; omega
        · have hge : ¬ (k : Int) < (t.kids.length : Int) := by omega
          have HF : Hid (us ++ consesL (t.kids.take k) = us ++ consL t) := hide (by rw [List.take_of_length_le (by omega)]; exact HU.out)
          rw [HF.out] at HOw
          go_wp2
          go_ret
          exact ⟨⟨u0, rfl, by simpa using HOw.out⟩, HW.out⟩
    · have HU : Hid ((us ++ [Use.mk t.text t.pos]) ++ consesL t.kids = us ++ consL t) := hide (by rw [HE.out, h22, h14]; simp)
      have hus : us.length ≤ 100000 := by omega
      clear HE
      go_enter Try.func63, Try.ntmps63
      go_wp2_with (at_builtin; refine wpList_append_row _ rfl _ _ 57 rfl base 84 i0 _ 2 24 Try.underlying57 hi hz0 hz1 hz2 rfl (by decide) v us.length (us.flatMap useC.f) rfl (own_extB HO.out (((Ext.refl _).alloc _).alloc _)) _ 1 1 [encStr t.text, .int .i64 t.pos] rfl ?c2 ?c3 ?c4 ?c5 ?c6 ?_)
      case c2 => exact Row.use2 _ _ (at_newB _ _ _ (by simp))
      case c3 => first | exact ⟨rfl, rfl⟩ | (intro y hy; simp at hy; rcases hy with rfl | rfl <;> rfl)
      case c4 => unfold maxLen; omega
      case c5 => omega
      case c6 => (first | omega | (simp; omega))
      intro v4 w4 hown4 hg4 _
      have hB1 : Below base w w4 := (HA.out.trans ((Below.refl _ _).alloc (by simp; omega) _)).grown hg4 (by simp; omega) (fun k hk => (HO.out.lt k hk).1)
      have W1 := hide hB1
      have O1 : Hid (w4.ownsRow base 84 2 v4 (us ++ [Use.mk t.text t.pos]).length ((us ++ [Use.mk t.text t.pos]).flatMap useC.f)) := hide (by rw [use_flat, List.length_append]; exact hown4)
      have hb4 : w4.cell? ⟨w.heap.size, 4, none⟩ = some (.slice A0 t.kids.length t.cap) := by
        have hb4 := (hg4.block w.heap.size (by simp; omega) (fun e => by have := (HO.out.lt _ e.symm).2; omega))
        have := NBox.c4 (w := w4) (b := w.heap.size) (t := t) (by
          unfold NBox
          rw [HA0.out, hb4]
          exact (Below.heap_alloc _ _ _ (by simp)).trans (by have := HB0.out; unfold NBox at this; rwa [HA0.out] at this))
        rwa [HA0.out] at this
      clear hB1 hown4 hg4
      go_wp2
      go_loopw [0, 26] (fun v i wr => ∃ k : Nat, k ≤ t.kids.length ∧ i = .int .i64 k ∧ Hid (Below base w wr) ∧ Hid (wr.ownsRow base 84 2 v ((us ++ [Use.mk t.text t.pos]) ++ consesL (t.kids.take k)).length (((us ++ [Use.mk t.text t.pos]) ++ consesL (t.kids.take k)).flatMap useC.f))) (fun _ i _ => t.kids.length - (intOf i).toNat)
      case atStart => exact ⟨0, Nat.zero_le _, rfl, W1, hide (by simpa [consesL] using O1.out)⟩
      case round =>
        obtain ⟨k, hk, rfl, HW, HOw⟩ := hrel
        by_cases hlt : k < t.kids.length
        · have hlt' : (k : Int) < (t.kids.length : Int) := by omega
          have hk0 : (0 : Int) ≤ (k : Int) := by omega
          have HKw : Hid (Below w0.heap.size w0 wr) := hide (HBw.out.trans (HW.out.mono hb0))
          obtain ⟨b, o, rfl, hbb, q0, q1, q2, q3, q4⟩ := (Hk.out.old HKw.out).at_ hlt
          have hck := List.getElem_mem hlt
          have hcs := HSz.out _ hck
          have hcl := HSl.out k
          have hsw := HW.out.size
          have Hst := hide (HSt.out k hlt)
          have HC := hide (IH.out _ hck w0 (wr.alloc (.cells #[.int .i64 (t.kids[k]'hlt).kind, .int .i64 (t.kids[k]'hlt).pos, .int .i64 (t.kids[k]'hlt).n, encStr (t.kids[k]'hlt).text, .slice (t.kids[k]'hlt).A (t.kids[k]'hlt).kids.length (t.kids[k]'hlt).cap] 54)) base u0 ((us ++ [Use.mk t.text t.pos]) ++ consesL (t.kids.take k)) (Hk.out.kids _ hck)
            (HKw.out.alloc (by have := HKw.out.size; omega) _) hb0 (by simp; omega) (own_extB HOw.out ((Ext.refl _).alloc _)) (by
              have h1 := HS.out
              have h2 := HSk.out k hlt
              simp only [List.length_append, List.length_cons, List.length_nil]
              omega))
          have HWa : Hid (Below base w (wr.alloc (.cells #[.int .i64 (t.kids[k]'hlt).kind, .int .i64 (t.kids[k]'hlt).pos, .int .i64 (t.kids[k]'hlt).n, encStr (t.kids[k]'hlt).text, .slice (t.kids[k]'hlt).A (t.kids[k]'hlt).kids.length (t.kids[k]'hlt).cap] 54))) := hide (HW.out.alloc (by omega) _)
          clear hck
          generalize t.kids[k]'hlt = c at *
          go_wp2_with fail
          refine HC.out.mono ?_
          rintro e w4 ⟨⟨v4, rfl, hO4⟩, hB4⟩
          have W4 := hide (HWa.out.trans hB4)
          have O4 := hide hO4
          clear hO4 hB4
          go_wp2
          go_roundw
          case rel => exact ⟨k + 1, hlt, by go_num, W4, hide (by rw [Hst.out, ← List.append_assoc]; exact O4.out)⟩
          case measure => simp [intOf]; omega
        · have hge : ¬ (k : Int) < (t.kids.length : Int) := by omega
          have HF : Hid ((us ++ [Use.mk t.text t.pos]) ++ consesL (t.kids.take k) = us ++ consL t) := hide (by rw [List.take_of_length_le (by omega)]; exact HU.out)
          rw [HF.out] at HOw
          go_wp2
          go_ret
          exact ⟨⟨u0, rfl, by simpa using HOw.out⟩, HW.out⟩
  · have HU : Hid ((us ++ [Use.mk t.text t.pos]) ++ consesL t.kids = us ++ consL t) := hide (by rw [HE.out, h22]; simp)
    have hus : us.length ≤ 100000 := by omega
    clear HE
    go_enter Try.func63, Try.ntmps63
    go_wp2_with (at_builtin; refine wpList_append_row _ rfl _ _ 57 rfl base 84 i0 _ 2 24 Try.underlying57 hi hz0 hz1 hz2 rfl (by decide) v us.length (us.flatMap useC.f) rfl (own_extB HO.out (((Ext.refl _).alloc _).alloc _)) _ 1 1 [encStr t.text, .int .i64 t.pos] rfl ?c2 ?c3 ?c4 ?c5 ?c6 ?_)
    case c2 => exact Row.use2 _ _ (at_newB _ _ _ (by simp))
    case c3 => first | exact ⟨rfl, rfl⟩ | (intro y hy; simp at hy; rcases hy with rfl | rfl <;> rfl)
    case c4 => unfold maxLen; omega
    case c5 => omega
    case c6 => (first | omega | (simp; omega))
    intro v4 w4 hown4 hg4 _
    have hB1 : Below base w w4 := (HA.out.trans ((Below.refl _ _).alloc (by simp; omega) _)).grown hg4 (by simp; omega) (fun k hk => (HO.out.lt k hk).1)
    have W1 := hide hB1
    have O1 : Hid (w4.ownsRow base 84 2 v4 (us ++ [Use.mk t.text t.pos]).length ((us ++ [Use.mk t.text t.pos]).flatMap useC.f)) := hide (by rw [use_flat, List.length_append]; exact hown4)
    have hb4 : w4.cell? ⟨w.heap.size, 4, none⟩ = some (.slice A0 t.kids.length t.cap) := by
      have hb4 := (hg4.block w.heap.size (by simp; omega) (fun e => by have := (HO.out.lt _ e.symm).2; omega))
      have := NBox.c4 (w := w4) (b := w.heap.size) (t := t) (by
        unfold NBox
        rw [HA0.out, hb4]
        exact (Below.heap_alloc _ _ _ (by simp)).trans (by have := HB0.out; unfold NBox at this; rwa [HA0.out] at this))
      rwa [HA0.out] at this
    clear hB1 hown4 hg4
    go_wp2
    go_loopw [0, 26] (fun v i wr => ∃ k : Nat, k ≤ t.kids.length ∧ i = .int .i64 k ∧ Hid (Below base w wr) ∧ Hid (wr.ownsRow base 84 2 v ((us ++ [Use.mk t.text t.pos]) ++ consesL (t.kids.take k)).length (((us ++ [Use.mk t.text t.pos]) ++ consesL (t.kids.take k)).flatMap useC.f))) (fun _ i _ => t.kids.length - (intOf i).toNat)
    case atStart => exact ⟨0, Nat.zero_le _, rfl, W1, hide (by simpa [consesL] using O1.out)⟩
    case round =>
      obtain ⟨k, hk, rfl, HW, HOw⟩ := hrel
      by_cases hlt : k < t.kids.length
      · have hlt' : (k : Int) < (t.kids.length : Int) := by omega
        have hk0 : (0 : Int) ≤ (k : Int) := by omega
        have HKw : Hid (Below w0.heap.size w0 wr) := hide (HBw.out.trans (HW.out.mono hb0))
        obtain ⟨b, o, rfl, hbb, q0, q1, q2, q3, q4⟩ := (Hk.out.old HKw.out).at_ hlt
        have hck := List.getElem_mem hlt
        have hcs := HSz.out _ hck
        have hcl := HSl.out k
        have hsw := HW.out.size
        have Hst := hide (HSt.out k hlt)
        have HC := hide (IH.out _ hck w0 (wr.alloc (.cells #[.int .i64 (t.kids[k]'hlt).kind, .int .i64 (t.kids[k]'hlt).pos, .int .i64 (t.kids[k]'hlt).n, encStr (t.kids[k]'hlt).text, .slice (t.kids[k]'hlt).A (t.kids[k]'hlt).kids.length (t.kids[k]'hlt).cap] 54)) base u0 ((us ++ [Use.mk t.text t.pos]) ++ consesL (t.kids.take k)) (Hk.out.kids _ hck)
          (HKw.out.alloc (by have := HKw.out.size; omega) _) hb0 (by simp; omega) (own_extB HOw.out ((Ext.refl _).alloc _)) (by
            have h1 := HS.out
            have h2 := HSk.out k hlt
            simp only [List.length_append, List.length_cons, List.length_nil]
            omega))
        have HWa : Hid (Below base w (wr.alloc (.cells #[.int .i64 (t.kids[k]'hlt).kind, .int .i64 (t.kids[k]'hlt).pos, .int .i64 (t.kids[k]'hlt).n, encStr (t.kids[k]'hlt).text, .slice (t.kids[k]'hlt).A (t.kids[k]'hlt).kids.length (t.kids[k]'hlt).cap] 54))) := hide (HW.out.alloc (by omega) _)
        clear hck
        generalize t.kids[k]'hlt = c at *
        go_wp2_with fail
        refine HC.out.mono ?_
        rintro e w4 ⟨⟨v4, rfl, hO4⟩, hB4⟩
        have W4 := hide (HWa.out.trans hB4)
        have O4 := hide hO4
        clear hO4 hB4
        go_wp2
        go_roundw
        case rel => exact ⟨k + 1, hlt, by go_num, W4, hide (by rw [Hst.out, ← List.append_assoc]; exact O4.out)⟩
        case measure => simp [intOf]; omega
      · have hge : ¬ (k : Int) < (t.kids.length : Int) := by omega
        have HF : Hid ((us ++ [Use.mk t.text t.pos]) ++ consesL (t.kids.take k) = us ++ consL t) := hide (by rw [List.take_of_length_le (by omega)]; exact HU.out)
        rw [HF.out] at HOw
        go_wp2
        go_ret
        exact ⟨⟨u0, rfl, by simpa using HOw.out⟩, HW.out⟩

end Go.Proofs.Ytnbnhchgkbbiiaa
