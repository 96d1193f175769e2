/- Contracts: the names that a tree uses, its constructors. -/
import Derived.Test.YtnbnhchgkbbiiaaUsJ
import Derived.Test.YtnbnhchgkbbiiaaUsK
import Derived.Test.YtnbnhchgkbbiiaaUsL
import Derived.Test.YtnbnhchgkbbiiaaUsM
import Derived.Test.YtnbnhchgkbbiiaaUsN
import Derived.Test.YtnbnhchgkbbiiaaNodG
import Derived.Test.YtnbnhchgkbbiiaaStD
namespace Go.Proofs.Ytnbnhchgkbbiiaa
open Go.RowKit Go.Sort

set_option maxRecDepth 10000 in
set_option maxHeartbeats 1000000 in
theorem u_walk_sig (t : Tree) (h21 : (t.kind == 21) = false) (h25 : (t.kind == 25) = false) (h26 : (t.kind == 26) = false) (h15 : (t.kind == 15) = false) (h32 : (t.kind == 32) = true) : WalksT t := by
  intro w0 w c base v fv us p h hB hw0 hO hA hok hsz
  obtain ⟨f, lb, rfl, eg, hA2⟩ := id hA
  have HU : Hid (us ++ usesL t p = us) := hide (by rw [usesL_eq, if_pos (by simpa using h32)]; simp)
  have HO := hide hO
  clear hA hA2 h hB hO hok
  unfold treeV
  go_enter Try.func54, Try.ntmps54
  go_wp2
  ((try simp only [Exit.inBlock, Exit.then]); refine bodyPost_ret (results_none rfl _ _ _) rfl ?_)
  exact ⟨rfl, v, by rw [HU.out]; exact HO.out.ext (by repeat (first | exact Ext.refl _ | exact Ext.pre (by simp) | exact Ext.alloc (by assumption) _ | refine Ext.alloc ?_ _ |  refine Ext.more ?_ _ _ | refine Ext.drew ?_ | refine Ext.drewN ?_ _)), Tr.of_ext (by repeat (first | exact Ext.refl _ | exact Ext.pre (by simp) | exact Ext.alloc (by assumption) _ | refine Ext.alloc ?_ _ |  refine Ext.more ?_ _ _ | refine Ext.drew ?_ | refine Ext.drewN ?_ _))⟩

theorem u_walk (t : Tree) : WalksT t := by
  induction t using Tree.ind with
  | h t ih =>
  have no : ∀ n m : Int, n ≠ m → t.kind = n → (t.kind == m) = false := fun n m hnm e => by rw [e]; simpa using hnm
  by_cases h1 : t.kind = 21
  · exact u_walk_var t ih (by simpa using h1) (no _ _ (by decide) h1) (no _ _ (by decide) h1) (no _ _ (by decide) h1) (no _ _ (by decide) h1)
  by_cases h2 : t.kind = 25
  · exact u_walk_lam t ih (no _ _ (by decide) h2) (by simpa using h2) (no _ _ (by decide) h2) (no _ _ (by decide) h2) (no _ _ (by decide) h2)
  by_cases h3 : t.kind = 26
  · exact u_walk_let t ih (no _ _ (by decide) h3) (no _ _ (by decide) h3) (by simpa using h3) (no _ _ (by decide) h3) (no _ _ (by decide) h3)
  by_cases h4 : t.kind = 15
  · exact u_walk_alt t ih (no _ _ (by decide) h4) (no _ _ (by decide) h4) (no _ _ (by decide) h4) (by simpa using h4) (no _ _ (by decide) h4)
  by_cases h5 : t.kind = 32
  · exact u_walk_sig t (no _ _ (by decide) h5) (no _ _ (by decide) h5) (no _ _ (by decide) h5) (no _ _ (by decide) h5) (by simpa using h5)
  exact u_walk_else t ih (by simpa using h1) (by simpa using h2) (by simpa using h3) (by simpa using h4) (by simpa using h5)

/-- What a tree uses. -/
noncomputable def usesE (t : Tree) : List Use := if isExpB t then usesL t (fun _ => false) else []
noncomputable def consE (t : Tree) : List Use := if isExpB t then consL t else []

set_option maxRecDepth 10000 in
set_option maxHeartbeats 1000000 in
theorem u_uses (t : Tree) (w : World) (h : NodeIn w t) (hsz : t.size ≤ 90000) :
    Calls Try.prog 34 #[treeV t] w fun e w' => (∃ A cap, e = .returned (.slice A (usesE t).length cap) ∧ (usesE t).length ≤ cap ∧ cap ≤ 9223372036854775807 ∧ Uses w' A (usesE t)) ∧ Ext w w' := by
  have HX := hide (fun w' (e : Ext w w') => hide (n_exp t w' (h.ext e) (by omega)))
  have Hh := hide h
  have X1 : Hid (Ext w (w.alloc (.cells #[.int .i64 t.kind, .int .i64 t.pos, .int .i64 t.n, encStr t.text, .slice t.A t.kids.length t.cap] 54))) := hide ((Ext.refl _).alloc _)
  have HB1 := hide (NBox.new w t)
  have HW := hide (u_walk t)
  cases he : isExpB t
  · have hU : usesE t = [] := by unfold usesE; rw [he]; rfl
    rw [hU]
    rw [he] at HX
    clear h he hU HW
    unfold treeV at *
    go_enter Try.func34, Try.ntmps34
    go_wp2_with fail
    refine (HX.out _ X1.out).out.mono ?_
    rintro e w2 ⟨rfl, hx2⟩
    go_wp2
    go_ret
    exact ⟨⟨none, 0, rfl, Nat.le_refl _, by omega, RowOf.nil _ _ _⟩, X1.out.trans hx2⟩
  · have hU : usesE t = usesL t (fun _ => false) := by unfold usesE; rw [he]; rfl
    have hok : walkOk t := by
      unfold isExpB at he
      rw [Bool.and_eq_true] at he
      exact expB_walk he.2
    have HOk := hide hok
    rw [hU]
    rw [he] at HX
    clear h he hU hok
    unfold WalksT at HW
    generalize hL : usesL t (fun _ => false) = L at *
    have HL := hide hL
    clear hL
    unfold treeV at *
    go_enter Try.func34, Try.ntmps34
    go_wp2_with fail
    refine (HX.out _ X1.out).out.mono ?_
    rintro e w2 ⟨rfl, hx2⟩
    have X2 := hide (X1.out.trans hx2)
    have HB2 := hide (HB1.out.ext hx2)
    have c0 := HB2.out.c0
    have c1 := HB2.out.c1
    have c2 := HB2.out.c2
    have c3 := HB2.out.c3
    have c4 := HB2.out.c4
    have hlt := HB2.out.lt
    clear hx2
    have OS : Hid (OutAt w2.heap.size (w2.heap.size + 1) (w2.alloc (.cells #[.slice none 0 0] 57)) (.slice none 0 0) []) := hide ⟨at_newB _ _ _ rfl, World.ownsRow_nil _ _ _ _, by omega, by simp⟩
    have X3 : Hid (Ext w (w2.alloc (.cells #[.slice none 0 0] 57))) := hide (X2.out.alloc _)
    go_wp2_with fail
    refine (HW.out w (w2.alloc (.cells #[.slice none 0 0] 57)) w2.heap.size (w2.heap.size + 1) (.slice none 0 0) (.func (.func 55) #[] #[]) [] (fun _ => false) Hh.out X3.out.below X2.out.size OS.out (none_asks _ _ _ uuses1_opens) HOk.out (by simp; omega)).mono ?_
    rintro e w4 ⟨rfl, v4, hO4, hT4⟩
    rw [List.nil_append, HL.out] at hO4
    obtain ⟨A4, cp4, rfl, p1, p2, p3, -⟩ := Use.own hO4.own
    have hc4 : w4.cell? ⟨w2.heap.size, 0, none⟩ = some (.slice A4 L.length cp4) := by simp [World.cell?, hO4.cell]
    have HX4 : Hid (Ext w w4) := hide (X2.out.trans (Ext.of_below (((Below.refl _ w2).alloc (Nat.le_refl _) _).trans (hT4.below (B := w2.heap.size) (by simp) (Nat.le_refl _) (fun k hk => by cases hk))) (Nat.le_refl _)))
    have P3 := hide p3
    clear hO4 hT4 p3
    go_wp2
    go_ret
    exact ⟨⟨A4, cp4, rfl, p1, p2, P3.out⟩, HX4.out⟩

set_option maxRecDepth 10000 in
set_option maxHeartbeats 1000000 in
theorem u_cons (t : Tree) (w : World) (h : NodeIn w t) (hsz : t.size ≤ 90000) :
    Calls Try.prog 48 #[treeV t] w fun e w' => (∃ A cap, e = .returned (.slice A (consE t).length cap) ∧ (consE t).length ≤ cap ∧ cap ≤ 9223372036854775807 ∧ Uses w' A (consE t)) ∧ Ext w w' := by
  have HX := hide (fun w' (e : Ext w w') => hide (n_exp t w' (h.ext e) (by omega)))
  have Hh := hide h
  have X1 : Hid (Ext w (w.alloc (.cells #[.int .i64 t.kind, .int .i64 t.pos, .int .i64 t.n, encStr t.text, .slice t.A t.kids.length t.cap] 54))) := hide ((Ext.refl _).alloc _)
  have HB1 := hide (NBox.new w t)
  have HC := hide (fun w' (e : Ext w w') => hide (u_consI t w w' w'.heap.size (.slice none 0 0) [] h e.below e.size (Nat.le_refl _) (World.ownsRow_nil _ _ _ _) (by simp; omega)))
  cases he : isExpB t
  · have hU : consE t = [] := by unfold consE; rw [he]; rfl
    rw [hU]
    rw [he] at HX
    clear h he hU HC
    unfold treeV at *
    go_enter Try.func48, Try.ntmps48
    go_wp2_with fail
    refine (HX.out _ X1.out).out.mono ?_
    rintro e w2 ⟨rfl, hx2⟩
    go_wp2
    go_ret
    exact ⟨⟨none, 0, rfl, Nat.le_refl _, by omega, RowOf.nil _ _ _⟩, X1.out.trans hx2⟩
  · have hU : consE t = consL t := by unfold consE; rw [he]; rfl
    rw [hU]
    rw [he] at HX
    clear h he hU
    generalize consL t = L at *
    unfold treeV at *
    go_enter Try.func48, Try.ntmps48
    go_wp2_with fail
    refine (HX.out _ X1.out).out.mono ?_
    rintro e w2 ⟨rfl, hx2⟩
    have X2 := hide (X1.out.trans hx2)
    have HB2 := hide (HB1.out.ext hx2)
    have c0 := HB2.out.c0
    have c1 := HB2.out.c1
    have c2 := HB2.out.c2
    have c3 := HB2.out.c3
    have c4 := HB2.out.c4
    clear hx2
    go_wp2_with fail
    refine (HC.out _ X2.out).out.mono ?_
    rintro e w3 ⟨⟨v3, rfl, hO3⟩, hB3⟩
    rw [List.nil_append] at hO3
    obtain ⟨A4, cp4, rfl, p1, p2, p3, -⟩ := Use.own hO3
    have P3 := hide p3
    have X3 := hide (X2.out.trans (Ext.of_below hB3 (Nat.le_refl _)))
    clear hO3 hB3 p3
    go_wp2
    go_ret
    exact ⟨⟨A4, cp4, rfl, p1, p2, P3.out⟩, X3.out⟩

/-- The names of uses, rising. -/
noncomputable def freeE (t : Tree) : List Str := ofL ((usesE t).map Use.name)
theorem usesE_len (t : Tree) : (usesE t).length ≤ t.size := by
  unfold usesE
  split
  · exact usesL_len t _
  · simp

set_option maxRecDepth 10000 in
set_option maxHeartbeats 2000000 in
theorem u_free (t : Tree) (w : World) (h : NodeIn w t) (hsz : t.size ≤ 9000) (htx : ∀ u ∈ usesE t, u.name.length ≤ 9223372036854775807) :
    Calls Try.prog 35 #[treeV t] w fun e w' => (∃ v, e = .returned v ∧ w'.ownsRow w.heap.size 9 1 v (freeE t).length ((freeE t).map encStr)) ∧ Ext w w' := by
  have X1 : Hid (Ext w (w.alloc (.cells #[.int .i64 t.kind, .int .i64 t.pos, .int .i64 t.n, encStr t.text, .slice t.A t.kids.length t.cap] 54))) := hide ((Ext.refl _).alloc _)
  have HB1 := hide (NBox.new w t)
  have HU := hide (fun w' (e : Ext w w') => hide (u_uses t w' (h.ext e) (by omega)))
  have hln := usesE_len t
  have HF : Hid (freeE t = ofL ((usesE t).map Use.name)) := hide rfl
  have Htx := hide htx
  clear h htx
  generalize freeE t = R at *
  generalize usesE t = L at *
  unfold treeV at *
  go_enter Try.func35, Try.ntmps35
  go_wp2_with fail
  refine (setl_new none 0 [] _ (Strs.nil _) (by simp) (by simp)).mono ?_
  rintro e w2 ⟨⟨s1, r1, n1, rfl, a1, a2, a3, hS1⟩, hx2⟩
  have S1 := hide hS1
  have X2 := hide (X1.out.trans hx2)
  have HB2 := hide (HB1.out.ext hx2)
  have c0 := HB2.out.c0
  have c1 := HB2.out.c1
  have c2 := HB2.out.c2
  have c3 := HB2.out.c3
  have c4 := HB2.out.c4
  simp only [World.size_alloc] at a1 a2
  clear hS1 hx2
  go_wp2_with fail
  refine (HU.out _ X2.out).out.mono ?_
  rintro e w3 ⟨⟨A3, cp3, rfl, p1, p2, hR3⟩, hx3⟩
  have S3 := hide (S1.out.ext hx3)
  have X3 := hide (X2.out.trans hx3)
  have R3 := hide hR3
  have e1 := S1.out.lts
  have e2 := S1.out.ltr
  have e3 := hx3.size
  clear hR3 hx3 S1
  go_wp2
  go_loopw [10] (fun iv wr => ∃ i m1 : Nat, i ≤ L.length ∧ iv = .int .i64 i ∧ m1 ≤ 10000 + i ∧ Hid (Ext w wr) ∧ w3.heap.size ≤ wr.heap.size ∧ Hid (SetL wr s1 r1 m1 (ofL ((L.take i).map Use.name))) ∧ Hid (Uses wr A3 L)) (fun iv _ => L.length - (intOf iv).toNat)
  case atStart => exact ⟨0, n1, Nat.zero_le _, rfl, by omega, X3, Nat.le_refl _, S3, R3⟩
  case round =>
    obtain ⟨i, m1, hi, rfl, hm1, HX, hsz4, T1, HR⟩ := hrel
    by_cases hlt : i < L.length
    · have hlt' : (i : Int) < (L.length : Int) := by omega
      have hi0 : (0 : Int) ≤ (i : Int) := by omega
      obtain ⟨b, o, rfl, hb, hc⟩ := RowOf.at_ useC HR.out hlt
      have q0 := hc 0 (by decide)
      have q1 := hc 1 (by decide)
      have hx := Htx.out _ (List.getElem_mem hlt)
      have HMt : Hid ((L.take (i + 1)).map Use.name = (L.take i).map Use.name ++ [(L[i]'hlt).name]) := hide (by rw [List.take_succ_eq_append_getElem hlt, List.map_append]; rfl)
      simp only [useC, List.getElem?_cons_zero, List.getElem?_cons_succ, Nat.add_zero] at q0 q1
      clear hc
      generalize L[i]'hlt = u at *
      generalize (L.take i).map Use.name = L1 at *
      have HA := hide (setl_add (T1.out.ext ((Ext.refl _).alloc (.cells #[encStr u.name, .int .i64 u.pos] 84))) u.name hx (by omega))
      have XA : Hid (Ext w (wr.alloc (.cells #[encStr u.name, .int .i64 u.pos] 84))) := hide (HX.out.alloc _)
      have HRa : Hid (Uses (wr.alloc (.cells #[encStr u.name, .int .i64 u.pos] 84)) (some ⟨b, o, none⟩) L) := hide (RowOf.ext useC HR.out ((Ext.refl _).alloc _))
      have hsA : (wr.alloc (.cells #[encStr u.name, .int .i64 u.pos] 84)).heap.size = wr.heap.size + 1 := by simp
      have HTa : Hid (SetL (wr.alloc (.cells #[encStr u.name, .int .i64 u.pos] 84)) s1 r1 m1 (ofL L1)) := hide (T1.out.ext ((Ext.refl _).alloc _))
      go_wp2_with fail
      refine HA.out.mono ?_
      rintro e w5 ⟨rfl, hS5, hg5⟩
      have S5 := hide hS5
      have X5 := hide (XA.out.grown hg5 (fun j hj => by injection hj with hj; omega))
      have R5 : Hid (Uses w5 (some ⟨b, o, none⟩) L) := hide (HTa.out.row hg5 useC.pos HRa.out)
      have hs5 := hg5.size
      clear hS5 hg5
      go_wp2
      go_roundw
      case rel => exact ⟨i + 1, m1 + 1, hlt, by go_num, by omega, X5, by omega, hide (by rw [HMt.out, ofL_snoc]; exact S5.out), R5⟩
      case measure => simp [intOf]; omega
    · have hge : ¬ (i : Int) < (L.length : Int) := by omega
      have hiL : L.take i = L := List.take_of_length_le (by omega)
      have HT2 : Hid (SetL wr s1 r1 m1 R) := hide (by rw [HF.out]; have := T1.out; rwa [hiL] at this)
      have HL := hide (setl_list HT2.out (by omega))
      have hsw := HX.out.size
      clear hiL
      go_wp2_with fail
      refine HL.out.mono ?_
      rintro e w6 ⟨⟨v6, rfl, hO6⟩, hx6⟩
      have O6 := hide hO6
      clear hO6
      go_wp2
      go_ret
      exact ⟨⟨v6, rfl, own_mono O6.out hsw⟩, HX.out.trans hx6⟩

end Go.Proofs.Ytnbnhchgkbbiiaa
