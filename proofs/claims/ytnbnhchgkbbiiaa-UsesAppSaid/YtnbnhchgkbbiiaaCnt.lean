/- Contracts: how many nodes a tree has, if not too many. -/
import Derived.Test.YtnbnhchgkbbiiaaProg
import Derived.Test.YtnbnhchgkbbiiaaTree
import Derived.Test.YtnbnhchgkbbiiaaApp
import Derived.WalkSpells
import Derived.WalkLawsBesides
import Derived.Deep.QuietTactic
import Derived.BigQuiet
namespace Go.Proofs.Ytnbnhchgkbbiiaa
open Go.RowKit

/-- A node in a box. -/
def NBox (w : World) (b : Nat) (t : Tree) : Prop := w.heap[b]? = some (.cells #[.int .i64 t.kind, .int .i64 t.pos, .int .i64 t.n, encStr t.text, .slice t.A t.kids.length t.cap] 54 (0, 0))
section
variable {w w' : World} {b : Nat} {t : Tree}
theorem NBox.lt (h : NBox w b t) : b < w.heap.size := lt_of_obj h
theorem NBox.ext (h : NBox w b t) (e : Ext w w') : NBox w' b t := (e.heap h.lt).trans h
theorem NBox.c0 (h : NBox w b t) : w.cell? ⟨b, 0, none⟩ = some (.int .i64 t.kind) := by unfold NBox at h; simp [World.cell?, h]
theorem NBox.c1 (h : NBox w b t) : w.cell? ⟨b, 1, none⟩ = some (.int .i64 t.pos) := by unfold NBox at h; simp [World.cell?, h]
theorem NBox.c2 (h : NBox w b t) : w.cell? ⟨b, 2, none⟩ = some (.int .i64 t.n) := by unfold NBox at h; simp [World.cell?, h]
theorem NBox.c3 (h : NBox w b t) : w.cell? ⟨b, 3, none⟩ = some (encStr t.text) := by unfold NBox at h; simp [World.cell?, h]
theorem NBox.c4 (h : NBox w b t) : w.cell? ⟨b, 4, none⟩ = some (.slice t.A t.kids.length t.cap) := by unfold NBox at h; simp [World.cell?, h]
theorem NBox.free (h : NBox w b t) (i : Nat) : w.frozen? ⟨b, i, none⟩ = false := by unfold NBox at h; simp [World.frozen?, h]
end
/-- What is left of so many nodes; below 0: there are more. -/
def leftI (L : Int) (s : Nat) : Int := if (s : Int) ≤ L then L - s else -1
theorem leftI_le {L : Int} {s : Nat} (h : (s : Int) ≤ L) : leftI L s = L - s := if_pos h
theorem leftI_gt {L : Int} {s : Nat} (h : ¬ (s : Int) ≤ L) : leftI L s = -1 := if_neg h
theorem leftI_sub {L : Int} {s z : Nat} (_h : ((s + 1 : Nat) : Int) ≤ L) : leftI (L - ((s : Int) + 1)) z = leftI L (s + z + 1) := by
  unfold leftI
  split <;> split <;> omega
noncomputable def sizes (l : List Tree) : Nat := (l.map Tree.size).sum
theorem sizes_snoc (l : List Tree) (t : Tree) : sizes (l ++ [t]) = sizes l + t.size := by simp [sizes]
theorem sizes_take (l : List Tree) {k : Nat} (h : k < l.length) : sizes (l.take (k + 1)) = sizes (l.take k) + (l[k]'h).size := by rw [List.take_succ_eq_append_getElem h, sizes_snoc]
theorem sizes_le (l : List Tree) (k : Nat) : sizes (l.take k) ≤ sizes l := by
  have : sizes l = sizes (l.take k) + sizes (l.drop k) := by unfold sizes; rw [← List.sum_append, ← List.map_append, List.take_append_drop]
  omega

set_option maxRecDepth 10000 in
set_option maxHeartbeats 2000000 in
theorem l_count (t : Tree) : ∀ (L : Int) (w : World), NodeIn w t → 0 ≤ L → L ≤ 1000000 →
    Calls Try.prog 51 #[treeV t, .int .i64 L] w fun e w' => e = .returned (.int .i64 (leftI L t.size)) ∧ Ext w w' := by
  induction t using Tree.ind with
  | h t ih =>
  intro L w h h0 hL
  have IH := hide ih
  have Hk := hide h.nodes
  have hle := h.le
  have hmx := h.max
  have HB0 : Hid (NBox (w.alloc (.cells #[.int .i64 t.kind, .int .i64 t.pos, .int .i64 t.n, encStr t.text, .slice t.A t.kids.length t.cap] 54)) w.heap.size t) := hide (at_newB _ _ _ rfl)
  have X0 : Hid (Ext w (w.alloc (.cells #[.int .i64 t.kind, .int .i64 t.pos, .int .i64 t.n, encStr t.text, .slice t.A t.kids.length t.cap] 54))) := hide ((Ext.refl w).alloc _)
  have HS : Hid (t.size = sizes t.kids + 1) := hide (Tree.size_eq t)
  have HSl := hide (fun k => sizes_le t.kids k)
  have HSt := hide (fun k (hk : k < t.kids.length) => sizes_take t.kids hk)
  clear ih h
  have hne : w.heap.size < (w.alloc (.cells #[.int .i64 t.kind, .int .i64 t.pos, .int .i64 t.n, encStr t.text, .slice t.A t.kids.length t.cap] 54)).heap.size := by simp
  unfold treeV
  go_enter Try.func51, Try.ntmps51
  go_wp2
  generalize (w.alloc (.cells #[.int .i64 t.kind, .int .i64 t.pos, .int .i64 t.n, encStr t.text, .slice t.A t.kids.length t.cap] 54)) = w0 at *
  go_loopw [1, 5] (fun v i wr => ∃ k : Nat, k ≤ t.kids.length ∧ i = .int .i64 k ∧ v = .int .i64 (leftI L (sizes (t.kids.take k) + 1)) ∧ Hid (Ext w0 wr)) (fun _ i _ => t.kids.length - (intOf i).toNat)
  case atStart => exact ⟨0, Nat.zero_le _, rfl, by simp [sizes, leftI]; omega, hide (Ext.refl _)⟩
  case round =>
    obtain ⟨k, hk, rfl, rfl, HX⟩ := hrel
    have HB := hide (HB0.out.ext HX.out)
    have hc4 := HB.out.c4
    by_cases hs : ((sizes (t.kids.take k) + 1 : Nat) : Int) ≤ L
    · rw [leftI_le hs]
      have hs0 : (0 : Int) ≤ L - ((sizes (t.kids.take k) + 1 : Nat) : Int) := by omega
      by_cases hlt : k < t.kids.length
      · have hlt' : (k : Int) < (t.kids.length : Int) := by omega
        have hk0 : (0 : Int) ≤ (k : Int) := by omega
        obtain ⟨b, o, hA, hb, q0, q1, q2, q3, q4⟩ := (Hk.out.ext (X0.out.trans HX.out)).at_ hlt
        have HC := hide (IH.out _ (List.getElem_mem hlt) (L - ((sizes (t.kids.take k) + 1 : Nat) : Int)) wr ((Hk.out.kids _ (List.getElem_mem hlt)).ext (X0.out.trans HX.out)) hs0 (by omega))
        have Hst := hide (HSt.out k hlt)
        rw [hA] at hc4; clear hA
        generalize t.kids[k]'hlt = c at *
        generalize sizes (t.kids.take k) = s at *
        go_wp2_with fail
        refine HC.out.mono ?_
        rintro e w3 ⟨rfl, hx3⟩
        have X3 := hide (HX.out.trans hx3)
        clear hx3
        go_wp2
        go_roundw
        case rel => exact ⟨k + 1, hlt, by go_num, by rw [Hst.out, leftI_sub hs], X3⟩
        case measure => simp [intOf]; omega
      · have hge : ¬ (k : Int) < (t.kids.length : Int) := by omega
        have hS : sizes (t.kids.take k) + 1 = t.size := by rw [HS.out, List.take_of_length_le (by omega)]
        have HS2 := hide hS
        have HL : Hid (L - ((sizes (t.kids.take k) + 1 : Nat) : Int) = leftI L t.size) := hide (by rw [← hS, leftI_le hs])
        clear hS
        generalize sizes (t.kids.take k) = s at *
        go_wp2
        go_ret
        exact ⟨by rw [← HL.out]; rfl, X0.out.trans HX.out⟩
    · have HL : Hid (leftI L t.size = -1) := hide (leftI_gt (by have := HSl.out k; have := HS.out; omega))
      rw [leftI_gt hs]
      have hs0 : ¬ (0 : Int) ≤ -1 := by decide
      by_cases hlt : k < t.kids.length
      · have hlt' : (k : Int) < (t.kids.length : Int) := by omega
        go_wp2
        go_ret
        exact ⟨by rw [HL.out]; rfl, X0.out.trans HX.out⟩
      · have hge : ¬ (k : Int) < (t.kids.length : Int) := by omega
        go_wp2
        go_ret
        exact ⟨by rw [HL.out]; rfl, X0.out.trans HX.out⟩

/-- Not too many? -/
noncomputable def fewB (t : Tree) : Bool := decide (t.size ≤ 3000)
theorem l_few06 (t : Tree) (w : World) (h : NodeIn w t) :
    Calls Try.prog 32 #[treeV t] w fun e w' => e = .returned (.int .i64 (if fewB t then 1 else 0)) ∧ Ext w w' := by
  have HC := hide (fun w' (e : Ext w w') => hide (l_count t 3000 w' (h.ext e) (by decide) (by decide)))
  have HB0 : Hid (NBox (w.alloc (.cells #[.int .i64 t.kind, .int .i64 t.pos, .int .i64 t.n, encStr t.text, .slice t.A t.kids.length t.cap] 54)) w.heap.size t) := hide (at_newB _ _ _ rfl)
  have X0 : Hid (Ext w (w.alloc (.cells #[.int .i64 t.kind, .int .i64 t.pos, .int .i64 t.n, encStr t.text, .slice t.A t.kids.length t.cap] 54))) := hide ((Ext.refl w).alloc _)
  clear h
  cases hf : fewB t
  · have hl : leftI 3000 t.size < 0 := by unfold fewB at hf; simp at hf; rw [leftI_gt (by omega)]; decide
    clear hf
    generalize leftI 3000 t.size = v at *
    unfold treeV
    go_enter Try.func32, Try.ntmps32
    go_wp2_with fail
    refine (HC.out _ X0.out).out.mono ?_
    rintro e w3 ⟨rfl, hx3⟩
    go_wp2
    go_ret
    exact ⟨rfl, X0.out.trans hx3⟩
  · have hl : ¬ leftI 3000 t.size < 0 := by unfold fewB at hf; simp at hf; rw [leftI_le (by omega)]; omega
    clear hf
    generalize leftI 3000 t.size = v at *
    unfold treeV
    go_enter Try.func32, Try.ntmps32
    go_wp2_with fail
    refine (HC.out _ X0.out).out.mono ?_
    rintro e w3 ⟨rfl, hx3⟩
    go_wp2
    go_ret
    exact ⟨rfl, X0.out.trans hx3⟩

end Go.Proofs.Ytnbnhchgkbbiiaa
