/- What an application uses: the plain law; whether uses are the same. -/
import Derived.Test.YtnbnhchgkbbiiaaUsS
import Derived.BigQuiet
namespace Go.Proofs.Ytnbnhchgkbbiiaa
open Go.RowKit Go.Sort

/-- An application of two nodes. -/
def appT (b : Nat) (f x : Tree) : Tree := .mk 24 0 0 [] (some ⟨b, 0, none⟩) 2 [f, x]
theorem appT_in {w : World} {b : Nat} {f x : Tree} (hf : NodeIn w f) (hx : NodeIn w x) (hb : w.heap[b]? = some (.cells #[.int .i64 f.kind, .int .i64 f.pos, .int .i64 f.n, encStr f.text, .slice f.A f.kids.length f.cap, .int .i64 x.kind, .int .i64 x.pos, .int .i64 x.n, encStr x.text, .slice x.A x.kids.length x.cap] 54 (0, 0))) : NodeIn w (appT b f x) := by
  refine NodeIn.mk (Nat.le_refl 2) (by show (2 : Nat) ≤ _; decide) (by show (0 : Nat) ≤ _; decide) (RowOf.block treeC [f, x] hb) (fun k hk => ?_)
  have hk2 : k ∈ [f, x] := hk
  rcases List.mem_cons.1 hk2 with rfl | hk2
  · exact hf
  · rw [List.mem_singleton] at hk2; subst hk2; exact hx
theorem appT_size (b : Nat) (f x : Tree) : (appT b f x).size = f.size + x.size + 1 := by rw [Tree.size_eq]; simp [appT, Tree.kids]
theorem appT_exp {b : Nat} {f x : Tree} (h : isExpB (appT b f x) = true) : isExpB f = true ∧ isExpB x = true := by
  unfold isExpB at h ⊢
  rw [Bool.and_eq_true] at h
  obtain ⟨h1, h2⟩ := h
  rw [exp_app _ rfl] at h2
  have h3 : [f, x].all expB = true := by rw [Bool.and_eq_true] at h2; exact h2.2
  simp only [List.all_cons, List.all_nil, Bool.and_true, Bool.and_eq_true] at h3
  unfold lowB at h1 ⊢
  rw [Tree.depth_eq] at h1
  simp only [appT, Tree.kids, List.map_cons, List.map_nil, List.foldr_cons, List.foldr_nil, decide_eq_true_eq] at h1
  rw [Bool.and_eq_true, Bool.and_eq_true, decide_eq_true_eq, decide_eq_true_eq]
  exact ⟨⟨by omega, h3.1⟩, ⟨by omega, h3.2⟩⟩
theorem app_uses {b : Nat} {f x : Tree} (h : isExpB (appT b f x) = true) : usesE (appT b f x) = usesE f ++ usesE x := by
  obtain ⟨h1, h2⟩ := appT_exp h
  unfold usesE
  rw [if_pos h, if_pos h1, if_pos h2, usesL_eq]
  have e1 : bp (appT b f x) (fun _ => false) = fun _ => false := by
    unfold bp
    rw [if_neg (by show ¬ (24 : Int) = 25; decide), if_neg (by show ¬ (24 : Int) = 26; decide), if_neg (by show ¬ (24 : Int) = 15; decide)]
  rw [if_neg (by show ¬ (24 : Int) = 32; decide), e1]
  have e2 : ownU (appT b f x) (fun _ => false) = [] := rfl
  have e3 : inner (appT b f x) = [f, x] := rfl
  rw [e2, e3, List.nil_append]
  unfold usesesL
  simp only [List.map_cons, List.map_nil, List.flatten_cons, List.flatten_nil, List.append_nil]
theorem app_free {b : Nat} {f x : Tree} (h : isExpB (appT b f x) = true) {y : Str} (hy : y ∈ freeE (appT b f x)) : (freeE f).any (· == y) = true ∨ (freeE x).any (· == y) = true := by
  unfold freeE at hy
  rw [ofL_mem, app_uses h, List.map_append, List.mem_append] at hy
  rcases hy with hy | hy
  · exact .inl (List.any_eq_true.2 ⟨y, by unfold freeE; rwa [ofL_mem], by simp⟩)
  · exact .inr (List.any_eq_true.2 ⟨y, by unfold freeE; rwa [ofL_mem], by simp⟩)

theorem Uses.at_ {w : World} {A : Option Addr} {l : List Use} (h : Uses w A l) {i : Nat} (hi : i < l.length) :
    ∃ b o, A = some ⟨b, o, none⟩ ∧ b < w.heap.size ∧ w.cell? ⟨b, o + i * 2, none⟩ = some (.string ⟨(l[i]'hi).name.toArray⟩) ∧ w.cell? ⟨b, o + i * 2 + 1, none⟩ = some (.int .i64 (l[i]'hi).pos) := by
  obtain ⟨b, o, e, hb, hc⟩ := RowOf.at_ useC h hi
  refine ⟨b, o, e, hb, ?_, ?_⟩
  · have := hc 0 (by decide); simpa [useC] using this
  · have := hc 1 (by decide); simpa [useC] using this

set_option maxRecDepth 10000 in
set_option maxHeartbeats 1000000 in
theorem r_same14 (A B : Option Addr) (cap cap' : Nat) (l : List Use) (w : World) (h : Uses w A l) (h' : Uses w B l) (hle : l.length ≤ 100000) :
    Calls Try.prog 37 #[.slice A l.length cap, .slice B l.length cap'] w fun e w' => e = .returned (.bool true) ∧ Ext w w' := by
  have HA := hide h
  have HB := hide h'
  clear h h'
  go_enter Try.func37, Try.ntmps37
  go_wp2
  go_loopw [5] (fun iv wr => ∃ k : Nat, k ≤ l.length ∧ iv = .int .i64 k ∧ Hid (Ext w wr)) (fun iv _ => l.length - (intOf iv).toNat)
  case atStart => exact ⟨0, Nat.zero_le _, rfl, hide (Ext.refl _)⟩
  case round =>
    obtain ⟨k, hk, rfl, HX⟩ := hrel
    by_cases hlt : k < l.length
    · have hlt' : (k : Int) < (l.length : Int) := by omega
      have hk0 : (0 : Int) ≤ (k : Int) := by omega
      obtain ⟨b1, o1, rfl, hb1, p0, p1⟩ := Uses.at_ (RowOf.ext useC HA.out HX.out) hlt
      obtain ⟨b2, o2, rfl, hb2, q0, q1⟩ := Uses.at_ (RowOf.ext useC HB.out HX.out) hlt
      generalize l[k]'hlt = u at *
      go_wp2
      go_quiet (fail)
      go_wp2
      go_roundw
      case rel => exact ⟨k + 1, hlt, by go_num, hide (HX.out.trans (by repeat (first | exact Ext.refl _ | exact Ext.pre (by simp) | exact Ext.alloc (by assumption) _ | refine Ext.alloc ?_ _ |  refine Ext.more ?_ _ _ | refine Ext.drew ?_ | refine Ext.drewN ?_ _)))⟩
      case measure => simp [intOf]; omega
    · have hge : ¬ (k : Int) < (l.length : Int) := by omega
      go_wp2
      go_ret
      exact ⟨rfl, HX.out⟩

end Go.Proofs.Ytnbnhchgkbbiiaa
