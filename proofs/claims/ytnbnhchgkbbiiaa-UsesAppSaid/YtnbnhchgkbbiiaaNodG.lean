/- Contract on nodes: whether a tree is an expression. -/
import Derived.Test.YtnbnhchgkbbiiaaNodF
import Derived.Test.YtnbnhchgkbbiiaaLowB
import Derived.Shelf.Abstract
namespace Go.Proofs.Ytnbnhchgkbbiiaa
open Go.RowKit Go.Shelf

theorem n_isexp (t : Tree) : Asks 53 expB t := by
  have key : ∀ n (t : Tree), t.size ≤ n → Asks 53 expB t := by
    intro n
    induction n with
    | zero => intro t h; have := t.size_pos; omega
    | succ n IH =>
      intro t hsz
      have ih : ∀ k : Tree, k.size < t.size → Asks 53 expB k := fun k hk => IH k (by omega)
      by_cases h0 : t.kind = 21
      · exact n_exp_var t h0
      by_cases h1 : t.kind = 22
      · exact n_exp_con t h1
      by_cases h2 : t.kind = 23
      · exact n_exp_int t h2
      by_cases h3 : t.kind = 24
      · exact n_exp_app t h3 ih
      by_cases h4 : t.kind = 25
      · exact n_exp_lam t h4 ih
      by_cases h5 : t.kind = 26
      · exact n_exp_let t h5 ih
      by_cases h6 : t.kind = 27
      · exact n_exp_case t h6 ih
      by_cases h7 : t.kind = 28
      · exact n_exp_if t h7 ih
      exact n_exp_else t h0 h1 h2 h3 h4 h5 h6 h7
  exact key t.size t (Nat.le_refl _)

/-- What `nodes.Exp` tells. -/
noncomputable def isExpB (t : Tree) : Bool := lowB t && expB t
theorem n_exp (t : Tree) (w : World) (h : NodeIn w t) (hsz : t.size ≤ 100000) : Calls Try.prog 33 #[treeV t] w fun e w' => e = .returned (.bool (isExpB t)) ∧ Ext w w' := by
  have HE : Hid (isExpB t = (lowB t && expB t)) := hide rfl
  have H0 := hide (fun w' (e : Ext w w') => hide (n_low t w' (h.ext e) hsz))
  have H1 := hide (fun w' (e : Ext w w') => hide (n_isexp t w' (h.ext e)))
  have HB0 := hide (NBox.new w t)
  have X0 : Hid (Ext w (w.alloc (.cells #[.int .i64 t.kind, .int .i64 t.pos, .int .i64 t.n, encStr t.text, .slice t.A t.kids.length t.cap] 54))) := hide ((Ext.refl w).alloc _)
  generalize isExpB t = R at *
  generalize lowB t = B0 at *
  generalize expB t = B1 at *
  unfold treeV at *
  clear h
  cases B0
  · have hR : R = false := by rw [HE.out]; simp
    clear HE
    subst hR
    go_enter Try.func33, Try.ntmps33
    go_wp2_with fail
    refine (H0.out _ X0.out).out.mono ?_
    rintro e w1 ⟨rfl, hx⟩
    go_wp2
    go_ret
    exact ⟨rfl, X0.out.trans hx⟩
  · have hR : R = B1 := by rw [HE.out]; simp
    clear HE
    subst hR
    go_enter Try.func33, Try.ntmps33
    go_wp2_with fail
    refine (H0.out _ X0.out).out.mono ?_
    rintro e w1 ⟨rfl, hx⟩
    have X1 := hide (X0.out.trans hx)
    have HB1 := hide (HB0.out.ext hx)
    clear hx
    have c0 := HB1.out.c0
    have c1 := HB1.out.c1
    have c2 := HB1.out.c2
    have c3 := HB1.out.c3
    have c4 := HB1.out.c4
    go_wp2_with fail
    refine (H1.out _ X1.out).out.mono ?_
    rintro e w2 ⟨rfl, hx⟩
    go_wp2
    go_ret
    exact ⟨rfl, X1.out.trans hx⟩

end Go.Proofs.Ytnbnhchgkbbiiaa
