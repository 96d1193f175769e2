/- Chapter 14's example: its tree. -/
import Derived.Test.YtnbnhchgkbbiiaaUsO
import Derived.Test.YtnbnhchgkbbiiaaUsC
import Derived.Deep.RegionHeld3
namespace Go.Proofs.Ytnbnhchgkbbiiaa
open Go.RowKit Go.Sort

/-- A variable. -/
def varT (s : Str) : Tree := .mk 21 0 0 s none 0 []
theorem NodeIn.of {w : World} {k p n : Int} {s : Str} {A : Option Addr} {c : Nat} {l : List Tree} (h1 : l.length ≤ c) (h2 : c ≤ 9223372036854775807) (h3 : s.length ≤ 9223372036854775807) (h4 : RowOf treeC w A l) (h5 : ∀ k ∈ l, NodeIn w k) : NodeIn w (.mk k p n s A c l) := .mk h1 h2 h3 h4 h5
theorem ha_alloc (w : World) (o : Obj) (n : Nat) : (w.alloc o).heap[n]? = if n = w.heap.size then some o else w.heap[n]? := by
  show (w.heap.push o)[n]? = _
  rw [Array.getElem?_push]
theorem l_name14 (s : Str) (w : World) : Calls Try.prog 47 #[encStr s] w fun e w' => e = .returned (.agg #[.int .i64 21, .int .i64 0, .int .i64 0, encStr s, .slice none 0 0]) ∧ w' = w.alloc (.cells #[.int .i64 21, .int .i64 0, .int .i64 0, encStr s, .slice none 0 0] 54) := by
  go_enter Try.func47, Try.ntmps47
  go_wp2
  refine bodyPost_ret (v := .agg #[.int .i64 21, .int .i64 0, .int .i64 0, encStr s, .slice none 0 0]) ?_ rfl ⟨rfl, rfl⟩
  simp [results, Try.f47, go_sem]

/-- The example's tree, where its nodes lie. -/
def exT (k1 k2 k3 : Nat) : Tree := .mk 25 0 0 [120] (some ⟨k3, 0, none⟩) 1 [.mk 24 0 0 [] (some ⟨k2, 0, none⟩) 2 [.mk 24 0 0 [] (some ⟨k1, 0, none⟩) 2 [varT [102], varT [120]], varT [121]]]
theorem varT_in (w : World) (s : Str) (h : s.length ≤ 9223372036854775807) : NodeIn w (varT s)   := NodeIn.of (Nat.le_refl _) (by decide) h (RowOf.nil _ _ _) (fun k hk => by cases hk)
theorem exT_in {w : World} {k1 k2 k3 : Nat} (h1 : w.heap[k1]? = some (.cells #[.int .i64 21, .int .i64 0, .int .i64 0, encStr [102], .slice none 0 0, .int .i64 21, .int .i64 0, .int .i64 0, encStr [120], .slice none 0 0] 54 (0, 0)))
    (h2 : w.heap[k2]? = some (.cells #[.int .i64 24, .int .i64 0, .int .i64 0, encStr [], .slice (some ⟨k1, 0, none⟩) 2 2, .int .i64 21, .int .i64 0, .int .i64 0, encStr [121], .slice none 0 0] 54 (0, 0)))
    (h3 : w.heap[k3]? = some (.cells #[.int .i64 24, .int .i64 0, .int .i64 0, encStr [], .slice (some ⟨k2, 0, none⟩) 2 2] 54 (0, 0))) : NodeIn w (exT k1 k2 k3) := by
  refine NodeIn.of (Nat.le_refl _) (by decide) (by decide) (RowOf.block treeC _ h3) (fun k hk => ?_)
  rw [List.mem_singleton] at hk
  subst hk
  refine NodeIn.of (Nat.le_refl _) (by decide) (by decide) (RowOf.block treeC _ h2) (fun k hk => ?_)
  rcases List.mem_cons.1 hk with rfl | hk
  · refine NodeIn.of (Nat.le_refl _) (by decide) (by decide) (RowOf.block treeC _ h1) (fun k hk => ?_)
    rcases List.mem_cons.1 hk with rfl | hk
    · exact varT_in _ _ (by decide)
    · rw [List.mem_singleton] at hk; subst hk; exact varT_in _ _ (by decide)
  · rw [List.mem_singleton] at hk; subst hk; exact varT_in _ _ (by decide)
theorem size_var (s : Str) : (varT s).size = 1 := by rw [Tree.size_eq]; rfl
theorem depth_var (s : Str) : (varT s).depth = 1 := by rw [Tree.depth_eq]; rfl
theorem exp_varT (s : Str) (h : varB s = true) : expB (varT s) = true := by rw [exp_var _ rfl]; simp [namedB, varT, Tree.n, Tree.text, Tree.kids, h]
theorem exT_size (k1 k2 k3 : Nat) : (exT k1 k2 k3).size = 6 := by
  rw [Tree.size_eq]
  simp only [exT, Tree.kids, List.map_cons, List.map_nil, List.sum_cons, List.sum_nil]
  rw [Tree.size_eq]
  simp only [Tree.kids, List.map_cons, List.map_nil, List.sum_cons, List.sum_nil]
  rw [Tree.size_eq]
  simp [Tree.kids, size_var]
theorem exT_exp (k1 k2 k3 : Nat) : isExpB (exT k1 k2 k3) = true := by
  unfold isExpB
  rw [Bool.and_eq_true]
  constructor
  · unfold lowB
    have := depth_le_size (exT k1 k2 k3)
    rw [exT_size] at this
    simp; omega
  · have v1 : varB [102] = true := by decide
    have v2 : varB [120] = true := by decide
    have v3 : varB [121] = true := by decide
    rw [exp_lam _ rfl]
    have e1 : expB (.mk 24 0 0 [] (some ⟨k1, 0, none⟩) 2 [varT [102], varT [120]]) = true := by
      rw [exp_app _ rfl]
      simp [Tree.kids, bareB, Tree.text, Tree.n, exp_varT _ v1, exp_varT _ v2]
    have e2 : expB (.mk 24 0 0 [] (some ⟨k2, 0, none⟩) 2 [.mk 24 0 0 [] (some ⟨k1, 0, none⟩) 2 [varT [102], varT [120]], varT [121]]) = true := by
      rw [exp_app _ rfl]
      simp [Tree.kids, bareB, Tree.text, Tree.n, e1, exp_varT _ v3]
    simp [namedB, exT, Tree.n, Tree.text, Tree.kids, Tree.kid, v2, e2]
theorem uses_var (s : Str) (p : Str → Bool) : usesL (varT s) p = if p s then [] else [⟨s, 0⟩] := by
  rw [usesL_eq]
  cases h : p s <;> simp [varT, Tree.kind, Tree.text, Tree.pos, Tree.kids, inner, ownU, usesesL, h]
theorem uses_app (A : Option Addr) (c : Nat) (ks : List Tree) (p : Str → Bool) : usesL (.mk 24 0 0 [] A c ks) p = usesesL ks p := by
  rw [usesL_eq]
  simp [Tree.kind, inner, ownU, bp, Tree.kids]
theorem exT_uses (k1 k2 k3 : Nat) : usesE (exT k1 k2 k3) = [⟨[102], 0⟩, ⟨[121], 0⟩] := by
  unfold usesE
  rw [if_pos (exT_exp k1 k2 k3), usesL_eq]
  simp [exT, Tree.kind, inner, ownU, bp, Tree.kids, Tree.text, usesesL, uses_app, uses_var]
theorem cons_var (s : Str) : consL (varT s) = [] := by rw [consL_eq]; simp [varT, Tree.kind, Tree.kids, consesL]
theorem exT_cons (k1 k2 k3 : Nat) : consE (exT k1 k2 k3) = [] := by
  unfold consE
  rw [if_pos (exT_exp k1 k2 k3), consL_eq]
  simp only [exT, Tree.kind, Tree.kids, consesL, List.map_cons, List.map_nil, List.flatten_cons, List.flatten_nil, List.append_nil]
  rw [consL_eq]
  simp only [Tree.kind, Tree.kids, consesL, List.map_cons, List.map_nil, List.flatten_cons, List.flatten_nil, List.append_nil, cons_var]
  rw [consL_eq]
  simp [Tree.kind, Tree.kids, consesL, cons_var]
theorem exT_free (k1 k2 k3 : Nat) : freeE (exT k1 k2 k3) = [[102], [121]] := by
  unfold freeE
  rw [exT_uses]
  decide
def exL : List Tree := [.mk 31 1 0 [102] none 0 [], .mk 32 2 0 [102] none 0 [], .mk 31 3 0 [102] none 0 []]
theorem exL_twice : twiceL exL = (3, false) := by decide
theorem exL_binds : bindsL exL = [[102], [102]] := by decide
theorem exL_in {w : World} {b : Nat} (h : w.heap[b]? = some (.cells #[.int .i64 31, .int .i64 1, .int .i64 0, encStr [102], .slice none 0 0, .int .i64 32, .int .i64 2, .int .i64 0, encStr [102], .slice none 0 0, .int .i64 31, .int .i64 3, .int .i64 0, encStr [102], .slice none 0 0] 54 (0, 0))) : NodesIn w (some ⟨b, 0, none⟩) exL := by
  refine ⟨RowOf.block treeC _ h, fun k hk => ?_⟩
  have : ∀ a p, NodeIn w (.mk a p 0 [102] none 0 []) := fun a p => NodeIn.of (Nat.le_refl _) (by decide) (by decide) (RowOf.nil _ _ _) (fun k hk => by cases hk)
  simp only [exL, List.mem_cons, List.not_mem_nil, or_false] at hk
  rcases hk with rfl | rfl | rfl <;> exact this _ _

end Go.Proofs.Ytnbnhchgkbbiiaa
