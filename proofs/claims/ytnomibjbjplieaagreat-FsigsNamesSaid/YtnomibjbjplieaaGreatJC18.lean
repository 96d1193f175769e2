/- Contracts: what is known of a class at a type, back again; of the program. (A program of ours has printed a part.) -/
import Derived.Test.YtnomibjbjplieaaGreatJC17
import Derived.RegionTactic
import Derived.ChangeAlike
import Derived.BigRegion
/- Contracts: what is known of a class at a type, back again; of the program. (A program of ours has printed a part.) -/
namespace Go.Proofs.YtnomibjbjplieaaGreat
open Go.RowKit

/-- The class that a constructor names; none: no text. -/
def classS (s : Str) : Str := if preB 123 s && sufB 125 (s.drop 1) && conB ((s.drop 1).take (s.length - 2)) then (s.drop 1).take (s.length - 2) else []
/-- Does a type say what is known of a class at a type? -/
def dictB (t : Ty) : Bool := !(classS t.con == []) && t.args.length == 1 && t.var == 0
theorem conB_nil : conB [] = false := rfl
theorem cut_both {s : Str} (h1 : preB 123 s = true) (h2 : sufB 125 (cutP 123 s) = true) : cutQ 125 (cutP 123 s) = (s.drop 1).take (s.length - 2) := by
  have e : cutP 123 s = s.drop 1 := by unfold cutP; rw [h1]; rfl
  rw [e] at h2 ⊢
  unfold cutQ
  rw [h2, if_pos rfl]
  congr 1
  simp
  omega
theorem classS_yes {s : Str} (h1 : preB 123 s = true) (h2 : sufB 125 (cutP 123 s) = true) (h3 : conB (cutQ 125 (cutP 123 s)) = true) : classS s = cutQ 125 (cutP 123 s) ∧ (classS s == []) = false := by
  have e := cut_both h1 h2
  have e1 : cutP 123 s = s.drop 1 := by unfold cutP; rw [h1]; rfl
  have h4 := h3
  rw [e] at h3
  have hc : classS s = (s.drop 1).take (s.length - 2) := by unfold classS; rw [h1, ← e1, h2, e1, h3]; rfl
  refine ⟨hc.trans e.symm, ?_⟩
  rw [hc]
  cases hq : (s.drop 1).take (s.length - 2) with
  | nil => rw [hq] at h3; cases h3
  | cons b d => rfl
theorem classS_no1 {s : Str} (h1 : preB 123 s = false) : classS s = [] := by unfold classS; rw [h1]; rfl
theorem classS_no2 {s : Str} (h1 : preB 123 s = true) (h2 : sufB 125 (cutP 123 s) = false) : classS s = [] := by
  have e1 : cutP 123 s = s.drop 1 := by unfold cutP; rw [h1]; rfl
  unfold classS; rw [← e1, h2, h1]; rfl
theorem classS_no3 {s : Str} (h1 : preB 123 s = true) (h2 : sufB 125 (cutP 123 s) = true) (h3 : conB (cutQ 125 (cutP 123 s)) = false) : classS s = [] := by
  rw [cut_both h1 h2] at h3
  unfold classS; rw [h3, Bool.and_false]; rfl
theorem dictB_no {t : Ty} (h : classS t.con = []) : dictB t = false := by unfold dictB; rw [h]; rfl
theorem cutP_len (c : UInt8) (s : Str) : (cutP c s).length ≤ s.length := by unfold cutP; split <;> simp
theorem cutQ_len (c : UInt8) (s : Str) : (cutQ c s).length ≤ s.length := by unfold cutQ; split <;> simp
/-- What is told: the class, the type, and whether. -/
def classV (c : Str) (u : Ty) (b : Bool) : Value := .tuple #[encStr c, .agg #[encStr u.con, .int .i64 u.var, .slice u.A u.args.length u.cap], .bool b]
def argOf (t : Ty) : Ty := if dictB t then t.args.headD Ty.zero else Ty.zero
def clsOf (t : Ty) : Str := if dictB t then classS t.con else []
theorem headD_get {α : Type} {d : α} : ∀ (l : List α) (h : 0 < l.length), l.headD d = l[0]'h
  | _ :: _, _ => rfl
theorem argOf_no {t : Ty} (h : dictB t = false) : argOf t = Ty.zero := by unfold argOf; rw [h]; rfl
theorem clsOf_no {t : Ty} (h : dictB t = false) : clsOf t = [] := by unfold clsOf; rw [h]; rfl

set_option maxRecDepth 10000 in
set_option maxHeartbeats 4000000 in
theorem f_class (t : Ty) (w : World) (h : TyIn w t) : Calls Tryz.prog 110 #[tyV t] w fun e w' => e = .returned (classV (clsOf t) (argOf t) (dictB t)) ∧ Ext w w' := by
  have htx := h.txt
  have hle := h.le
  have hmx := h.max
  have Hk := hide (fun w' (e : Ext w w') => h.all.ext e)
  have H1 := hide (fun w' => hide (s_cutprefix t.con 123 w' htx))
  have H2 := hide (fun w' => hide (s_cutsuffix (cutP 123 t.con) 125 w' (Nat.le_trans (cutP_len _ _) htx)))
  have H3 := hide (fun w' => hide (n_con (cutQ 125 (cutP 123 t.con)) w' (Nat.le_trans (cutQ_len _ _) (Nat.le_trans (cutP_len _ _) htx))))
  clear h
  cases h1 : preB 123 t.con
  · rw [h1] at H1
    have hd := dictB_no (classS_no1 h1)
    rw [hd, argOf_no hd, clsOf_no hd]
    clear hd
    unfold tyV classV
    go_enter Tryz.func110, Tryz.ntmps110
    go_wp2_with fail
    refine (H1.out _).out.mono ?_
    rintro e w2 ⟨rfl, rfl⟩
    go_wp2_with fail
    refine (H2.out _).out.mono ?_
    rintro e w3 ⟨rfl, rfl⟩
    go_wp2
    refine bodyPost_ret (v := .tuple #[.string ⟨#[]⟩, .agg #[.string ⟨#[]⟩, .int .i64 0, .slice none 0 0], .bool false]) ?_ rfl ⟨rfl, (by repeat (first | exact Ext.refl _ | exact Ext.pre (by simp) | exact Ext.alloc (by assumption) _ | refine Ext.alloc ?_ _ |  refine Ext.more ?_ _ _ | refine Ext.drew ?_ | refine Ext.drewN ?_ _))⟩
    simp [results, Tryz.f110, go_sem]
  · rw [h1] at H1
    cases h2 : sufB 125 (cutP 123 t.con)
    · rw [h2] at H2
      have hd := dictB_no (classS_no2 h1 h2)
      rw [hd, argOf_no hd, clsOf_no hd]
      clear hd
      unfold tyV classV
      go_enter Tryz.func110, Tryz.ntmps110
      go_wp2_with fail
      refine (H1.out _).out.mono ?_
      rintro e w2 ⟨rfl, rfl⟩
      go_wp2_with fail
      refine (H2.out _).out.mono ?_
      rintro e w3 ⟨rfl, rfl⟩
      go_wp2
      refine bodyPost_ret (v := .tuple #[.string ⟨#[]⟩, .agg #[.string ⟨#[]⟩, .int .i64 0, .slice none 0 0], .bool false]) ?_ rfl ⟨rfl, (by repeat (first | exact Ext.refl _ | exact Ext.pre (by simp) | exact Ext.alloc (by assumption) _ | refine Ext.alloc ?_ _ |  refine Ext.more ?_ _ _ | refine Ext.drew ?_ | refine Ext.drewN ?_ _))⟩
      simp [results, Tryz.f110, go_sem]
    · rw [h2] at H2
      cases h3 : conB (cutQ 125 (cutP 123 t.con))
      · rw [h3] at H3
        have hd := dictB_no (classS_no3 h1 h2 h3)
        rw [hd, argOf_no hd, clsOf_no hd]
        clear hd
        unfold tyV classV
        go_enter Tryz.func110, Tryz.ntmps110
        go_wp2_with fail
        refine (H1.out _).out.mono ?_
        rintro e w2 ⟨rfl, rfl⟩
        go_wp2_with fail
        refine (H2.out _).out.mono ?_
        rintro e w3 ⟨rfl, rfl⟩
        go_wp2_with fail
        refine (H3.out _).out.mono ?_
        rintro e w4 ⟨rfl, rfl⟩
        go_wp2
        refine bodyPost_ret (v := .tuple #[.string ⟨#[]⟩, .agg #[.string ⟨#[]⟩, .int .i64 0, .slice none 0 0], .bool false]) ?_ rfl ⟨rfl, (by repeat (first | exact Ext.refl _ | exact Ext.pre (by simp) | exact Ext.alloc (by assumption) _ | refine Ext.alloc ?_ _ |  refine Ext.more ?_ _ _ | refine Ext.drew ?_ | refine Ext.drewN ?_ _))⟩
        simp [results, Tryz.f110, go_sem]
      · rw [h3] at H3
        obtain ⟨hy1, hy2⟩ := classS_yes h1 h2 h3
        have hD : dictB t = (!((t.args.length : Int) != 1) && !(t.var != 0)) := by
          unfold dictB
          rw [hy2, ← beq_cast]
          simp [bne]
        cases hn : ((t.args.length : Int) != 1)
        rotate_left 1
        · rw [hn] at hD
          have hd : dictB t = false := hD
          rw [hd, argOf_no hd, clsOf_no hd]
          clear hd hD hy1 hy2
          unfold tyV classV
          go_enter Tryz.func110, Tryz.ntmps110
          go_wp2_with fail
          refine (H1.out _).out.mono ?_
          rintro e w2 ⟨rfl, rfl⟩
          go_wp2_with fail
          refine (H2.out _).out.mono ?_
          rintro e w3 ⟨rfl, rfl⟩
          go_wp2_with fail
          refine (H3.out _).out.mono ?_
          rintro e w4 ⟨rfl, rfl⟩
          go_wp2
          refine bodyPost_ret (v := .tuple #[.string ⟨#[]⟩, .agg #[.string ⟨#[]⟩, .int .i64 0, .slice none 0 0], .bool false]) ?_ rfl ⟨rfl, (by repeat (first | exact Ext.refl _ | exact Ext.pre (by simp) | exact Ext.alloc (by assumption) _ | refine Ext.alloc ?_ _ |  refine Ext.more ?_ _ _ | refine Ext.drew ?_ | refine Ext.drewN ?_ _))⟩
          simp [results, Tryz.f110, go_sem]
        · rw [hn] at hD
          cases hv : (t.var != 0)
          rotate_left 1
          · rw [hv] at hD
            have hd : dictB t = false := hD
            rw [hd, argOf_no hd, clsOf_no hd]
            clear hd hD hy1 hy2
            unfold tyV classV
            go_enter Tryz.func110, Tryz.ntmps110
            go_wp2_with fail
            refine (H1.out _).out.mono ?_
            rintro e w2 ⟨rfl, rfl⟩
            go_wp2_with fail
            refine (H2.out _).out.mono ?_
            rintro e w3 ⟨rfl, rfl⟩
            go_wp2_with fail
            refine (H3.out _).out.mono ?_
            rintro e w4 ⟨rfl, rfl⟩
            go_wp2
            refine bodyPost_ret (v := .tuple #[.string ⟨#[]⟩, .agg #[.string ⟨#[]⟩, .int .i64 0, .slice none 0 0], .bool false]) ?_ rfl ⟨rfl, (by repeat (first | exact Ext.refl _ | exact Ext.pre (by simp) | exact Ext.alloc (by assumption) _ | refine Ext.alloc ?_ _ |  refine Ext.more ?_ _ _ | refine Ext.drew ?_ | refine Ext.drewN ?_ _))⟩
            simp [results, Tryz.f110, go_sem]
          · rw [hv] at hD
            have hd : dictB t = true := hD
            have hl1 : t.args.length = 1 := by simp at hn; omega
            have hl0 : 0 < t.args.length := by omega
            have ha : argOf t = t.args[0]'hl0 := by unfold argOf; rw [hd, if_pos rfl, headD_get _ hl0]
            have hc : clsOf t = cutQ 125 (cutP 123 t.con) := by unfold clsOf; rw [hd, if_pos rfl, hy1]
            rw [hd, ha, hc]
            obtain ⟨b, o, hA, hb, q0, q1, q2⟩ := (Hk.out _ (((Ext.refl w).alloc (.cells #[encStr t.con, .int .i64 t.var, .slice t.A t.args.length t.cap] 32)).alloc (.cells #[.string ⟨#[]⟩, .int .i64 0, .slice none 0 0] 32))).at_ hl0
            simp only [Nat.zero_mul, Nat.add_zero] at q0 q1 q2
            rw [hA] at q0 q1 q2
            clear hd ha hc hD hy1 hy2 hl1 Hk
            generalize t.args[0]'hl0 = x at *
            generalize cutQ 125 (cutP 123 t.con) = C at *
            generalize cutP 123 t.con = D at *
            unfold tyV classV
            go_enter Tryz.func110, Tryz.ntmps110
            go_wp2_with fail
            refine (H1.out _).out.mono ?_
            rintro e w2 ⟨rfl, rfl⟩
            go_wp2_with fail
            refine (H2.out _).out.mono ?_
            rintro e w3 ⟨rfl, rfl⟩
            go_wp2_with fail
            refine (H3.out _).out.mono ?_
            rintro e w4 ⟨rfl, rfl⟩
            go_wp2
            go_region
            go_wp2
            refine bodyPost_ret (v := .tuple #[encStr C, .agg #[encStr x.con, .int .i64 x.var, .slice x.A x.args.length x.cap], .bool true]) ?_ rfl ⟨rfl, (by repeat (first | exact Ext.refl _ | exact Ext.pre (by simp) | exact Ext.alloc (by assumption) _ | refine Ext.alloc ?_ _ |  refine Ext.more ?_ _ _ | refine Ext.drew ?_ | refine Ext.drewN ?_ _))⟩
            simp [results, Tryz.f110, go_sem]

end Go.Proofs.YtnomibjbjplieaaGreat

/- Contracts: what is known of a class at a type, back again; of the reference. (A program of ours has printed a part.) -/
namespace Go.Proofs.YtnomibjbjplieaaGreat
open Go.RowKit

theorem byte_ne (b c : UInt8) (n : Int) (h : n = c.toNat) : (((b.toNat : Nat) : Int) != n) = !(b == c) := by
  subst h
  rw [Bool.eq_iff_iff]
  simp only [bne_iff_ne, ne_eq, Bool.not_eq_true', beq_eq_false_iff_ne]
  constructor
  · intro h e; subst e; exact h rfl
  · intro h e; exact h (UInt8.toNat_inj.1 (by omega))
theorem classS_short {s : Str} (h : s.length < 3) : classS s = [] := by
  have : (s.drop 1).take (s.length - 2) = [] := by rw [show s.length - 2 = 0 by omega]; rfl
  unfold classS
  rw [this, conB_nil, Bool.and_false]
  rfl
theorem preB_get {c : UInt8} {s : Str} (h : 0 < s.length) : preB c s = (s[0]'h == c) := by cases s with | nil => cases h | cons b d => rfl
theorem sufB_get {c : UInt8} {s : Str} (h : 2 ≤ s.length) : sufB c (s.drop 1) = (s[s.length - 1]'(by omega) == c) := by
  have hn : s.drop 1 ≠ [] := by intro e; have := congrArg List.length e; simp at this; omega
  unfold sufB
  rw [show (s.drop 1 == []) = false from by simpa using hn, Bool.not_false, Bool.true_and]
  congr 1
  rw [List.getLastD_eq_getLast?, List.getLast?_eq_some_getLast hn, Option.getD_some, List.getLast_eq_getElem, List.getElem_drop]
  congr 1
  simp
  omega



end Go.Proofs.YtnomibjbjplieaaGreat
