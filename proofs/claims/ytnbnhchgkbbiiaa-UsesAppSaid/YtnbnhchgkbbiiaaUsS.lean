/- What a lambda of a tree uses: the plain law. -/
import Derived.Test.YtnbnhchgkbbiiaaUsO
namespace Go.Proofs.Ytnbnhchgkbbiiaa
open Go.RowKit Go.Sort

theorem bp_or (t : Tree) (q p : Str → Bool) : bp t (fun x => q x || p x) = fun x => q x || bp t p x := by
  unfold bp
  split
  · funext x; dsimp only; cases q x <;> simp
  · split
    · funext x; dsimp only; cases q x <;> simp
    · split
      · funext x; dsimp only; cases q x <;> simp
      · rfl
theorem uses_or (t : Tree) : ∀ q p : Str → Bool, usesL t (fun x => q x || p x) = (usesL t p).filter (fun u => !q u.name) := by
  induction t using Tree.ind with
  | h t ih =>
  intro q p
  rw [usesL_eq, usesL_eq, bp_or]
  split
  · rfl
  · rw [List.filter_append]
    congr 1
    · unfold ownU
      cases h1 : (t.kind == 21) <;> cases h2 : q t.text <;> cases h3 : p t.text <;> simp [h2, h3]
    · unfold usesesL
      rw [List.filter_flatten, List.map_map]
      congr 1
      refine List.map_congr_left (fun k hk => ?_)
      exact ih k (inner_mem hk) q (bp t p)
theorem uses_txt {w : World} {t : Tree} (h : NodeIn w t) : ∀ p, ∀ u ∈ usesL t p, u.name.length ≤ 9223372036854775807 := by
  revert h
  induction t using Tree.ind with
  | h t ih =>
  intro h p u hu
  rw [usesL_eq] at hu
  split at hu
  · cases hu
  · rcases List.mem_append.1 hu with hu | hu
    · unfold ownU at hu
      split at hu
      · rw [List.mem_singleton] at hu
        subst hu
        exact h.txt
      · cases hu
    · unfold usesesL at hu
      obtain ⟨_, hl, hu⟩ := List.mem_flatten.1 hu
      obtain ⟨k, hk, rfl⟩ := List.mem_map.1 hl
      exact ih k (inner_mem hk) (h.nodes.kids k (inner_mem hk)) _ u hu
theorem usesE_txt {w : World} {t : Tree} (h : NodeIn w t) : ∀ u ∈ usesE t, u.name.length ≤ 9223372036854775807 := by
  unfold usesE
  split
  · exact uses_txt h _
  · intro u hu; cases hu
/-- A lambda of one node. -/
def lamT (s : Str) (b : Nat) (t : Tree) : Tree := .mk 25 0 0 s (some ⟨b, 0, none⟩) 1 [t]
theorem lamT_in {w : World} {s : Str} {b : Nat} {t : Tree} (hs : s.length ≤ 9223372036854775807) (h : NodeIn w t) (hb : w.heap[b]? = some (.cells #[.int .i64 t.kind, .int .i64 t.pos, .int .i64 t.n, encStr t.text, .slice t.A t.kids.length t.cap] 54 (0, 0))) : NodeIn w (lamT s b t) := by
  refine NodeIn.mk (Nat.le_refl 1) (by show (1 : Nat) ≤ _; decide) hs (RowOf.block treeC [t] hb) (fun k hk => ?_)
  have hk2 : k ∈ [t] := hk
  rw [List.mem_singleton] at hk2
  subst hk2
  exact h
theorem lamT_size (s : Str) (b : Nat) (t : Tree) : (lamT s b t).size = t.size + 1 := by rw [Tree.size_eq]; simp [lamT, Tree.kids]
theorem lam_uses {s : Str} {b : Nat} {t : Tree} (h1 : isExpB t = true) (h2 : isExpB (lamT s b t) = true) : usesE (lamT s b t) = (usesE t).filter (fun u => !(s == u.name)) := by
  unfold usesE
  rw [if_pos h1, if_pos h2, usesL_eq]
  have e1 : bp (lamT s b t) (fun _ => false) = fun x => (s == x) || (fun _ => false) x := by
    unfold bp
    rw [if_pos (show (lamT s b t).kind = 25 from rfl)]
    funext x
    simp [lamT, Tree.text]
  rw [if_neg (by show ¬ (25 : Int) = 32; decide), e1]
  have e2 : ownU (lamT s b t) (fun _ => false) = [] := rfl
  have e3 : inner (lamT s b t) = [t] := rfl
  rw [e2, e3, List.nil_append]
  unfold usesesL
  simp only [List.map_cons, List.map_nil, List.flatten_cons, List.flatten_nil, List.append_nil]
  exact uses_or t (fun x => s == x) (fun _ => false)
theorem lam_free {s : Str} {b : Nat} {t : Tree} (h1 : isExpB t = true) (h2 : isExpB (lamT s b t) = true) : freeE (lamT s b t) = (freeE t).filter (fun x => !(x == s)) := by
  unfold freeE
  rw [lam_uses h1 h2]
  refine (ofL_rising _).ext ((ofL_rising _).sublist List.filter_sublist) (fun x => ?_)
  rw [ofL_mem, List.mem_filter, ofL_mem]
  simp only [List.mem_map, List.mem_filter, Bool.not_eq_true', beq_eq_false_iff_ne]
  constructor
  · rintro ⟨u, ⟨hu, hne⟩, rfl⟩
    exact ⟨⟨u, hu, rfl⟩, fun e => hne e.symm⟩
  · rintro ⟨⟨u, hu, rfl⟩, hne⟩
    exact ⟨u, ⟨hu, fun e => hne e.symm⟩, rfl⟩
theorem freeE_len (t : Tree) : (freeE t).length ≤ t.size := by
  unfold freeE
  have := ofL_len ((usesE t).map Use.name)
  rw [List.length_map] at this
  have := usesE_len t
  omega

end Go.Proofs.Ytnbnhchgkbbiiaa
