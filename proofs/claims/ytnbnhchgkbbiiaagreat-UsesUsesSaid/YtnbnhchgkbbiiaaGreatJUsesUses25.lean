/- The reference's sets: all of a list; those that another one does not have. -/
import Derived.Test.YtnbnhchgkbbiiaaGreatJUsesUses24
import Derived.WalkSpells
import Derived.WalkLawsBesides
import Derived.IntWalk
import Derived.BigQuiet
import Derived.Deep.RegionHeld3
/- The reference's sets: all of a list; those that another one does not have. -/
namespace Go.Proofs.YtnbnhchgkbbiiaaGreat
open Go.RowKit Go.Sort

theorem own_ext {w w' : World} {base : Nat} {e : TypeId} {size : Nat} {v : Value} {n : Nat} {xs : List Value} (h : w.ownsRow base e size v n xs) (k : Ext w w') : w'.ownsRow base e size v n xs := by
  have hb := k.below
  cases hv : v.ownBlock with
  | none => exact h.kept (row := none) ⟨hb.os, hb.tape, hb.output, k.size, fun j hj _ => k.heap hj⟩ (.inl hv)
  | some g => exact h.kept (row := none) ⟨hb.os, hb.tape, hb.output, k.size, fun j hj _ => k.heap hj⟩ (.inr (by rw [hv]; simp))
theorem take_snoc {α : Type} (l : List α) (d : α) {k : Nat} (h : k < l.length) : l.take (k + 1) = l.take k ++ [l.getD k d] := by
  rw [List.take_succ_eq_append_getElem h]; simp [h]

set_option maxRecDepth 10000 in
set_option maxHeartbeats 2000000 in
theorem ref_of (A : Option Addr) (cap : Nat) (l : List Str) (w : World) (h : Strs w A l) (hl : l.length ≤ 100000) :
    Calls Tryz.prog 27 #[.slice A l.length cap] w fun e w' => (∃ A' cap', e = .returned (.slice A' (ofL l).length cap') ∧ (ofL l).length ≤ cap' ∧ cap' ≤ 9223372036854775807 ∧ Strs w' A' (ofL l)) ∧ Ext w w' := by
  have Hr := hide h
  clear h
  go_enter Tryz.func27, Tryz.ntmps27
  go_wp2
  go_loopw [3, 4] (fun v i wr => ∃ k A' cap', k ≤ l.length ∧ i = .int .i64 (k : Nat) ∧ v = .slice A' (ofL (l.take k)).length cap' ∧ (ofL (l.take k)).length ≤ cap' ∧ cap' ≤ 9223372036854775807 ∧ Hid (Strs wr A' (ofL (l.take k))) ∧ Hid (Ext w wr)) (fun _ i _ => l.length - (intOf i).toNat)
  case atStart => exact ⟨0, none, 0, Nat.zero_le _, rfl, rfl, Nat.le_refl _, by omega, hide (Strs.nil _), hide (by repeat (first | exact Ext.refl _ | exact Ext.pre (by simp) | exact Ext.alloc (by assumption) _ | refine Ext.alloc ?_ _ |  refine Ext.more ?_ _ _ | refine Ext.drew ?_ | refine Ext.drewN ?_ _))⟩
  case round =>
    obtain ⟨k, A', cap', hk, rfl, rfl, hc1, hc2, HS, HX⟩ := hrel
    by_cases hlt : k < l.length
    · obtain ⟨b, o, rfl, hb, q0⟩ := (Hr.out.ext HX.out).at_ hlt
      have hlt' : (k : Int) < (l.length : Int) := by omega
      have hol : (ofL (l.take k)).length ≤ 100000 := by have := ofL_len (l.take k); have := List.length_take_le k l; omega
      have Htk := hide (take_snoc l [] hlt)
      generalize l.getD k [] = x at *
      have Hsn : Hid (ofL (l.take (k + 1)) = addL (ofL (l.take k)) x) := hide (by rw [Htk.out, ofL_snoc])
      clear Htk
      generalize ofL (l.take k) = a at *
      have Hadd := hide (ref_add A' cap' a x wr HS.out hol hc1 hc2)
      go_wp2_with fail
      refine Hadd.out.mono ?_
      rintro e w2 ⟨⟨A2, cap2, rfl, hd1, hd2, hs2⟩, l2, d2, rfl⟩
      have Hs2 := hide hs2
      clear hs2 Hadd
      go_wp2
      go_roundw
      case rel => exact ⟨k + 1, A2, cap2, hlt, by go_num, by rw [Hsn.out], by rw [Hsn.out]; exact hd1, hd2, hide (by rw [Hsn.out]; exact Hs2.out), hide (HX.out.more _ _)⟩
      case measure => simp [intOf]; omega
    · have hge : (l.length : Int) ≤ (k : Int) := by omega
      have hkl : k = l.length := by omega
      have hkt : l.take k = l := List.take_of_length_le (by omega)
      rw [hkt] at HS hc1
      rw [hkt]
      go_wp2
      go_ret
      exact ⟨⟨A', cap', rfl, hc1, hc2, HS.out⟩, HX.out⟩

end Go.Proofs.YtnbnhchgkbbiiaaGreat

/- What an application uses: the plain law; whether uses are the same. -/
namespace Go.Proofs.YtnbnhchgkbbiiaaGreat
open Go.RowKit Go.Sort

/-- A node in a box, cell by cell. -/
def BoxC (w : World) (b : Nat) (t : Tree) : Prop := w.cell? ⟨b, 0, none⟩ = some (.int .i64 t.kind) ∧ w.cell? ⟨b, 1, none⟩ = some (.int .i64 t.pos) ∧ w.cell? ⟨b, 2, none⟩ = some (.int .i64 t.n) ∧ w.cell? ⟨b, 3, none⟩ = some (encStr t.text) ∧ w.cell? ⟨b, 4, none⟩ = some (.slice t.A t.kids.length t.cap)
theorem NBox.cells {w : World} {b : Nat} {t : Tree} (h : NBox w b t) : BoxC w b t := ⟨h.c0, h.c1, h.c2, h.c3, h.c4⟩

/-- An application of two nodes. -/
def appT (b : Nat) (f x : Tree) : Tree := .mk 24 0 0 [] (some ⟨b, 0, none⟩) 2 [f, x]
theorem appT_in {w : World} {b : Nat} {f x : Tree} (hf : NodeIn w f) (hx : NodeIn w x) (hb : w.heap[b]? = some (.cells #[.int .i64 f.kind, .int .i64 f.pos, .int .i64 f.n, encStr f.text, .slice f.A f.kids.length f.cap, .int .i64 x.kind, .int .i64 x.pos, .int .i64 x.n, encStr x.text, .slice x.A x.kids.length x.cap] 24 (0, 0))) : NodeIn w (appT b f x) := by
  refine NodeIn.mk (Nat.le_refl 2) (by show (2 : Nat) ≤ _; decide) (by show (0 : Nat) ≤ _; decide) (RowOf.block treeC [f, x] hb) (fun k hk => ?_)
  have hk2 : k ∈ [f, x] := hk
  rcases List.mem_cons.1 hk2 with rfl | hk2
  · exact hf
  · rw [List.mem_singleton] at hk2; subst hk2; exact hx
theorem appT_size (b : Nat) (f x : Tree) : (appT b f x).size = f.size + x.size + 1 := by rw [Tree.size_eq]; simp [appT, Tree.kids]
theorem appT_exp {b : Nat} {f x : Tree} (h : isExpB (appT b f x) = true) : isExpB f = true ∧ isExpB x = true := by
  unfold isExpB at h ⊢
  rw [Bool.and_eq_true] at h
  obtain ⟨h1, h2⟩ := h
  rw [exp_app _ rfl] at h2
  have h3 : [f, x].all expB = true := by rw [Bool.and_eq_true] at h2; exact h2.2
  simp only [List.all_cons, List.all_nil, Bool.and_true, Bool.and_eq_true] at h3
  unfold lowB at h1 ⊢
  rw [Tree.depth_eq] at h1
  simp only [appT, Tree.kids, List.map_cons, List.map_nil, List.foldr_cons, List.foldr_nil, decide_eq_true_eq] at h1
  rw [Bool.and_eq_true, Bool.and_eq_true, decide_eq_true_eq, decide_eq_true_eq]
  exact ⟨⟨by omega, h3.1⟩, ⟨by omega, h3.2⟩⟩
theorem app_uses {b : Nat} {f x : Tree} (h : isExpB (appT b f x) = true) : usesE (appT b f x) = usesE f ++ usesE x := by
  obtain ⟨h1, h2⟩ := appT_exp h
  unfold usesE
  rw [if_pos h, if_pos h1, if_pos h2, usesL_eq]
  have e1 : bp (appT b f x) (fun _ => false) = fun _ => false := by
    unfold bp
    rw [if_neg (by show ¬ (24 : Int) = 25; decide), if_neg (by show ¬ (24 : Int) = 26; decide), if_neg (by show ¬ (24 : Int) = 15; decide)]
  rw [if_neg (by show ¬ (24 : Int) = 32; decide), e1]
  have e2 : ownU (appT b f x) (fun _ => false) = [] := rfl
  have e3 : inner (appT b f x) = [f, x] := rfl
  rw [e2, e3, List.nil_append]
  unfold usesesL
  simp only [List.map_cons, List.map_nil, List.flatten_cons, List.flatten_nil, List.append_nil]
theorem app_free {b : Nat} {f x : Tree} (h : isExpB (appT b f x) = true) {y : Str} (hy : y ∈ freeE (appT b f x)) : (freeE f).any (· == y) = true ∨ (freeE x).any (· == y) = true := by
  unfold freeE at hy
  rw [ofL_mem, app_uses h, List.map_append, List.mem_append] at hy
  rcases hy with hy | hy
  · exact .inl (List.any_eq_true.2 ⟨y, by unfold freeE; rwa [ofL_mem], by simp⟩)
  · exact .inr (List.any_eq_true.2 ⟨y, by unfold freeE; rwa [ofL_mem], by simp⟩)

theorem Uses.at_ {w : World} {A : Option Addr} {l : List Use} (h : Uses w A l) {i : Nat} (hi : i < l.length) :
    ∃ b o, A = some ⟨b, o, none⟩ ∧ b < w.heap.size ∧ w.cell? ⟨b, o + i * 2, none⟩ = some (.string ⟨(l[i]'hi).name.toArray⟩) ∧ w.cell? ⟨b, o + i * 2 + 1, none⟩ = some (.int .i64 (l[i]'hi).pos) := by
  obtain ⟨b, o, e, hb, hc⟩ := RowOf.at_ useC h hi
  refine ⟨b, o, e, hb, ?_, ?_⟩
  · have := hc 0 (by decide); simpa [useC] using this
  · have := hc 1 (by decide); simpa [useC] using this

set_option maxRecDepth 10000 in
set_option maxHeartbeats 1000000 in
theorem r_same14 (A B : Option Addr) (cap cap' : Nat) (l : List Use) (w : World) (h : Uses w A l) (h' : Uses w B l) (hle : l.length ≤ 100000) :
    Calls Tryz.prog 6 #[.slice A l.length cap, .slice B l.length cap'] w fun e w' => e = .returned (.bool true) ∧ Ext w w' := by
  have HA := hide h
  have HB := hide h'
  clear h h'
  go_enter Tryz.func6, Tryz.ntmps6
  go_wp2
  go_loopw [5] (fun iv wr => ∃ k : Nat, k ≤ l.length ∧ iv = .int .i64 k ∧ Hid (Ext w wr)) (fun iv _ => l.length - (intOf iv).toNat)
  case atStart => exact ⟨0, Nat.zero_le _, rfl, hide (Ext.refl _)⟩
  case round =>
    obtain ⟨k, hk, rfl, HX⟩ := hrel
    by_cases hlt : k < l.length
    · have hlt' : (k : Int) < (l.length : Int) := by omega
      have hk0 : (0 : Int) ≤ (k : Int) := by omega
      obtain ⟨b1, o1, rfl, hb1, p0, p1⟩ := Uses.at_ (RowOf.ext useC HA.out HX.out) hlt
      obtain ⟨b2, o2, rfl, hb2, q0, q1⟩ := Uses.at_ (RowOf.ext useC HB.out HX.out) hlt
      generalize l[k]'hlt = u at *
      go_wp2
      go_quiet (fail)
      go_wp2
      go_roundw
      case rel => exact ⟨k + 1, hlt, by go_num, hide (HX.out.trans (by repeat (first | exact Ext.refl _ | exact Ext.pre (by simp) | exact Ext.alloc (by assumption) _ | refine Ext.alloc ?_ _ |  refine Ext.more ?_ _ _ | refine Ext.drew ?_ | refine Ext.drewN ?_ _)))⟩
      case measure => simp [intOf]; omega
    · have hge : ¬ (k : Int) < (l.length : Int) := by omega
      go_wp2
      go_ret
      exact ⟨rfl, HX.out⟩

end Go.Proofs.YtnbnhchgkbbiiaaGreat

/- Contracts on the reference: the names that an expression uses, and which of them, rising. -/
namespace Go.Proofs.YtnbnhchgkbbiiaaGreat
open Go.RowKit Go.Sort

set_option maxRecDepth 10000 in
set_option maxHeartbeats 2000000 in
theorem r_uses14 (t : Tree) (w : World) (h : NodeIn w t) (hsz : t.size ≤ 90000) :
    Calls Tryz.prog 8 #[treeV t] w fun e w' => (∃ A cap, e = .returned (.slice A (usesE t).length cap) ∧ (usesE t).length ≤ cap ∧ cap ≤ 9223372036854775807 ∧ Uses w' A (usesE t)) ∧ Ext w w' := by
  have HX := hide (fun w' (e : Ext w w') => hide (r_exp t w' (h.ext e) (by omega)))
  have X1 : Hid (Ext w (w.alloc (.cells #[.int .i64 t.kind, .int .i64 t.pos, .int .i64 t.n, encStr t.text, .slice t.A t.kids.length t.cap] 24))) := hide ((Ext.refl _).alloc _)
  have HB1 := hide (NBox.new w t)
  cases he : isExpB t
  · have hU : usesE t = [] := by unfold usesE; rw [he]; rfl
    rw [hU]
    rw [he] at HX
    clear h he hU
    unfold treeV at *
    go_enter Tryz.func8, Tryz.ntmps8
    go_wp2_with fail
    refine (HX.out _ X1.out).out.mono ?_
    rintro e w2 ⟨rfl, hx2⟩
    go_wp2
    go_ret
    exact ⟨⟨none, 0, rfl, Nat.le_refl _, by omega, RowOf.nil _ _ _⟩, X1.out.trans hx2⟩
  · have hU : usesE t = usesL t (inL []) := by unfold usesE; rw [he]; rfl
    have hok : refOk t := expB_refs (by unfold isExpB at he; rw [Bool.and_eq_true] at he; exact he.2)
    have HC := hide (fun w' (e : Ext w w') => hide (r_within t w' none 0 [] (h.ext e) hok (Strs.nil _) (Nat.le_refl _) (by omega) (by simp; omega)))
    rw [hU]
    rw [he] at HX
    clear h he hU hok
    generalize usesL t (inL []) = L at *
    simp only [List.length_nil] at HC
    unfold treeV at *
    go_enter Tryz.func8, Tryz.ntmps8
    go_wp2_with fail
    refine (HX.out _ X1.out).out.mono ?_
    rintro e w2 ⟨rfl, hx2⟩
    have X2 := hide (X1.out.trans hx2)
    have HB2 := hide (HB1.out.ext hx2)
    have c0 := HB2.out.c0
    have c1 := HB2.out.c1
    have c2 := HB2.out.c2
    have c3 := HB2.out.c3
    have c4 := HB2.out.c4
    clear hx2
    go_wp2_with fail
    refine (HC.out _ X2.out).out.mono ?_
    rintro e w3 ⟨⟨v3, rfl, hO3⟩, hx3⟩
    obtain ⟨A4, cp4, rfl, p1, p2, p3, -⟩ := Use.own hO3
    have P3 := hide p3
    have X3 := hide (X2.out.trans hx3)
    clear hO3 hx3 p3
    go_wp2
    go_ret
    exact ⟨⟨A4, cp4, rfl, p1, p2, P3.out⟩, X3.out⟩

set_option maxRecDepth 10000 in
set_option maxHeartbeats 2000000 in
theorem r_free14 (t : Tree) (w : World) (h : NodeIn w t) (hsz : t.size ≤ 90000) :
    Calls Tryz.prog 11 #[treeV t] w fun e w' => (∃ A cap, e = .returned (.slice A (freeE t).length cap) ∧ Strs w' A (freeE t)) ∧ Ext w w' := by
  obtain ⟨i0, hi, hz0, hz1, hz2⟩ := info_parts str_infoU
  have X1 : Hid (Ext w (w.alloc (.cells #[.int .i64 t.kind, .int .i64 t.pos, .int .i64 t.n, encStr t.text, .slice t.A t.kids.length t.cap] 24))) := hide ((Ext.refl _).alloc _)
  have HB1 := hide (NBox.new w t)
  have HU := hide (fun w' (e : Ext w w') => hide (r_uses14 t w' (h.ext e) hsz))
  have hln := usesE_len t
  have HF : Hid (freeE t = ofL ((usesE t).map Use.name)) := hide rfl
  have hs1 : (w.alloc (.cells #[.int .i64 t.kind, .int .i64 t.pos, .int .i64 t.n, encStr t.text, .slice t.A t.kids.length t.cap] 24)).heap.size = w.heap.size + 1 := by simp
  clear h
  generalize freeE t = R at *
  generalize usesE t = L at *
  unfold treeV at *
  clear hs1
  go_enter Tryz.func11, Tryz.ntmps11
  go_wp2_with fail
  refine (HU.out _ X1.out).out.mono ?_
  rintro e w3 ⟨⟨A3, cp3, rfl, p1, p2, hR3⟩, hx3⟩
  have X3 := hide (X1.out.trans hx3)
  have R3 := hide hR3
  clear hR3 hx3 HU X1 HB1
  have O0 : Hid (w3.ownsRow w3.heap.size 9 1 (.slice none 0 0) ((L.take 0).map Use.name).length (((L.take 0).map Use.name).map encStr)) := hide (World.ownsRow_nil _ _ _ _)
  have X0 : Hid (Ext w3 w3) := hide (Ext.refl _)
  go_wp2
  go_loopw [4, 5] (fun v iv wr => ∃ i : Nat, i ≤ L.length ∧ iv = .int .i64 i ∧ Hid (Ext w3 wr) ∧ Hid (wr.ownsRow w3.heap.size 9 1 v ((L.take i).map Use.name).length (((L.take i).map Use.name).map encStr))) (fun _ iv _ => L.length - (intOf iv).toNat)
  case atStart => exact ⟨0, Nat.zero_le _, rfl, X0, O0⟩
  case round =>
    obtain ⟨i, hi', rfl, HX, HO⟩ := hrel
    by_cases hlt : i < L.length
    · have hlt' : (i : Int) < (L.length : Int) := by omega
      have hi0 : (0 : Int) ≤ (i : Int) := by omega
      obtain ⟨b, o, rfl, hb, q0, q1⟩ := Uses.at_ (RowOf.ext useC R3.out HX.out) hlt
      have HMt : Hid ((L.take (i + 1)).map Use.name = (L.take i).map Use.name ++ [(L[i]'hlt).name]) := hide (by rw [List.take_succ_eq_append_getElem hlt, List.map_append]; rfl)
      have hpl : ((L.take i).map Use.name).length ≤ i := by rw [List.length_map]; exact List.length_take_le _ _
      generalize L[i]'hlt = u at *
      generalize (L.take i).map Use.name = P at *
      go_wp2_with (at_builtin; refine wpList_append_row _ rfl _ _ 31 rfl w3.heap.size 9 i0 _ 1 16 Tryz.underlying31 hi hz0 hz1 hz2 rfl (by decide) u4 P.length (P.map encStr) rfl (own_extB HO.out (by repeat (first | exact Ext.refl _ | exact Ext.pre (by simp) | exact Ext.alloc (by assumption) _ | refine Ext.alloc ?_ _ |  refine Ext.more ?_ _ _ | refine Ext.drew ?_ | refine Ext.drewN ?_ _))) (some ⟨wr.heap.size, 0, none⟩) 1 1 [encStr u.name] rfl ?c3 (one_strs [u.name]) ?c4 ?c5 ?c6 ?_)
      case c3 => exact strs_iff.2 (RowOf.block strC [u.name] (at_newB _ _ _ rfl))
      case c4 => unfold maxLen; omega
      case c5 => omega
      case c6 => exact Nat.le_trans HX.out.size (by simp)
      intro v5 w5 hown5 hg5 _
      have X5 := hide (Ext.appU (HX.out.alloc _) hg5 (own_extB HO.out (by repeat (first | exact Ext.refl _ | exact Ext.pre (by simp) | exact Ext.alloc (by assumption) _ | refine Ext.alloc ?_ _ |  refine Ext.more ?_ _ _ | refine Ext.drew ?_ | refine Ext.drewN ?_ _))) (Nat.le_refl _))
      have O5 := hide hown5
      clear hown5 hg5
      go_wp2
      go_roundw
      case rel => exact ⟨i + 1, hlt, by go_num, X5, hide (by rw [HMt.out, List.length_append, List.map_append]; exact O5.out)⟩
      case measure => simp [intOf]; omega
    · have hge : ¬ (i : Int) < (L.length : Int) := by omega
      have hLl : ((L.take i).map Use.name) = L.map Use.name := by rw [List.take_of_length_le (by omega)]
      rw [hLl] at HO
      have hml : (L.map Use.name).length ≤ 90000 := by rw [List.length_map]; omega
      clear hLl
      generalize L.map Use.name = M at *
      obtain ⟨A6, c6, rfl, p3, p4, p5, -⟩ := Strs.of_own HO.out
      have HO6 := hide (ref_of A6 c6 M wr p5 (by omega))
      clear p5
      go_wp2_with fail
      refine HO6.out.mono ?_
      rintro e w6 ⟨⟨A7, c7, rfl, p6, p7, hS7⟩, hx7⟩
      have S7 := hide hS7
      clear hS7
      go_wp2
      go_ret
      have hf := HF.out
      subst hf
      exact ⟨⟨A7, c7, rfl, S7.out⟩, (X3.out.trans HX.out).trans hx7⟩

end Go.Proofs.YtnbnhchgkbbiiaaGreat

/- Where a binding or a signature comes again: the plain law. -/
namespace Go.Proofs.YtnbnhchgkbbiiaaGreat
open Go.RowKit

/-- Does a node bind, or sign, what one ahead of it does? -/
def dupB (t u : Tree) : Bool := (t.kind == 31 || t.kind == 32) && (u.kind == t.kind) && (u.text == t.text)
def twGo (pre : List Tree) : List Tree → Int × Bool
  | [] => (0, true)
  | t :: l => if pre.any (dupB t) then (t.pos, false) else twGo (pre ++ [t]) l
def twiceL (l : List Tree) : Int × Bool := twGo [] l
theorem twGo_drop (l : List Tree) {i : Nat} (h : i < l.length) : twGo (l.take i) (l.drop i) = if (l.take i).any (dupB (l[i]'h)) then ((l[i]'h).pos, false) else twGo (l.take (i + 1)) (l.drop (i + 1)) := by
  rw [List.drop_eq_getElem_cons h, List.take_succ_eq_append_getElem h]
  rfl

end Go.Proofs.YtnbnhchgkbbiiaaGreat

/- Contract: where a binding or a signature comes again, by the program. -/
namespace Go.Proofs.YtnbnhchgkbbiiaaGreat
open Go.RowKit Go.Sort

/-- The texts of the nodes of a kind. -/
def namesK (kk : Int) (l : List Tree) : List Str := (l.filter fun t => t.kind == kk).map Tree.text
theorem namesK_take (kk : Int) (l : List Tree) {k : Nat} (h : k < l.length) : namesK kk (l.take (k + 1)) = namesK kk (l.take k) ++ if (l[k]'h).kind == kk then [(l[k]'h).text] else [] := by
  unfold namesK
  rw [List.take_succ_eq_append_getElem h, List.filter_append, List.map_append]
  congr 1
  cases hk : ((l[k]'h).kind == kk) <;> simp [hk]
theorem findB_names (kk : Int) (hkk : kk = 31 ∨ kk = 32) (pre : List Tree) (t : Tree) (ht : t.kind = kk) : findB (ofL (namesK kk pre)) t.text = pre.any (dupB t) := by
  rw [Bool.eq_iff_iff, mem_findB (ofL_rising _), ofL_mem, List.any_eq_true]
  unfold namesK dupB
  simp only [List.mem_map, List.mem_filter, Bool.and_eq_true, Bool.or_eq_true, beq_iff_eq]
  subst ht
  constructor
  · rintro ⟨u, ⟨hu, h1⟩, h2⟩
    exact ⟨u, hu, ⟨hkk, h1⟩, h2⟩
  · rintro ⟨u, hu, ⟨_, h1⟩, h2⟩
    exact ⟨u, ⟨hu, h1⟩, h2⟩

set_option maxRecDepth 10000 in
set_option maxHeartbeats 4000000 in
theorem u_twice (A : Option Addr) (cap : Nat) (l : List Tree) (w : World) (h : NodesIn w A l) (hl : l.length ≤ 10000) :
    Calls Tryz.prog 16 #[.slice A l.length cap] w fun e w' => e = .returned (.tuple #[.int .i64 (twiceL l).1, .bool (twiceL l).2]) ∧ Ext w w' := by
  have HK := hide h
  have HD := hide (fun i (hi : i < l.length) => twGo_drop l hi)
  have HN1 := hide (fun i (hi : i < l.length) => namesK_take 31 l hi)
  have HN2 := hide (fun i (hi : i < l.length) => namesK_take 32 l hi)
  have HR : Hid (twGo (l.take 0) (l.drop 0) = twiceL l) := hide rfl
  generalize twiceL l = R at *
  clear h
  go_enter Tryz.func16, Tryz.ntmps16
  go_wp2_with fail
  refine (setl_new none 0 [] w (Strs.nil _) (by simp) (by simp)).mono ?_
  rintro e w1 ⟨⟨s1, r1, n1, rfl, a1, a2, a3, hS1⟩, hx1⟩
  have S1 := hide hS1
  have X1 := hide hx1
  clear hS1 hx1
  go_wp2_with fail
  refine (setl_new none 0 [] w1 (Strs.nil _) (by simp) (by simp)).mono ?_
  rintro e w2 ⟨⟨s2, r2, n2, rfl, b1, b2, b3, hS2⟩, hx2⟩
  have S1b := hide (S1.out.ext hx2)
  have S2 := hide hS2
  have X2 := hide (X1.out.trans hx2)
  have d1 := S1.out.lts
  have d2 := S1.out.ltr
  have d3 := S2.out.lts
  have d4 := S2.out.ltr
  clear hS2 hx2 S1 X1
  go_wp2
  go_loopw [12] (fun iv wr => ∃ i m1 m2 : Nat, i ≤ l.length ∧ iv = .int .i64 i ∧ m1 ≤ 10000 + i ∧ m2 ≤ 10000 + i ∧ Hid (Ext w wr) ∧ w2.heap.size ≤ wr.heap.size ∧ Hid (SetL wr s1 r1 m1 (ofL (namesK 31 (l.take i)))) ∧ Hid (SetL wr s2 r2 m2 (ofL (namesK 32 (l.take i)))) ∧ Hid (twGo (l.take i) (l.drop i) = R)) (fun iv _ => l.length - (intOf iv).toNat)
  case atStart => exact ⟨0, n1, n2, Nat.zero_le _, rfl, by omega, by omega, X2, Nat.le_refl _, S1b, S2, HR⟩
  case round =>
    obtain ⟨i, m1, m2, hi, rfl, hm1, hm2, HX, hsz, T1, T2, HT⟩ := hrel
    by_cases hlt : i < l.length
    · have hlt' : (i : Int) < (l.length : Int) := by omega
      have hi0 : (0 : Int) ≤ (i : Int) := by omega
      obtain ⟨b, o, rfl, hb, q0, q1, q2, q3, q4⟩ := (HK.out.ext HX.out).at_ hlt
      have htx := (HK.out.kids _ (List.getElem_mem hlt)).txt
      have HT2 := hide (HD.out i hlt)
      rw [HT.out] at HT2
      have HM1 := hide (HN1.out i hlt)
      have HM2 := hide (HN2.out i hlt)
      have HF1 : Hid ((l[i]'hlt).kind = 31 → findB (ofL (namesK 31 (l.take i))) (l[i]'hlt).text = (l.take i).any (dupB (l[i]'hlt))) := hide (fun e => findB_names 31 (.inl rfl) _ _ e)
      have HF2 : Hid ((l[i]'hlt).kind = 32 → findB (ofL (namesK 32 (l.take i))) (l[i]'hlt).text = (l.take i).any (dupB (l[i]'hlt))) := hide (fun e => findB_names 32 (.inr rfl) _ _ e)
      have HF3 : Hid ((l[i]'hlt).kind ≠ 31 → (l[i]'hlt).kind ≠ 32 → (l.take i).any (dupB (l[i]'hlt)) = false) := hide (fun e1 e2 => by
        rw [List.any_eq_false]
        intro u _
        unfold dupB
        simp [e1, e2])
      have HB := hide (NBox.new wr (l[i]'hlt))
      generalize l[i]'hlt = t at *
      generalize (l.take i).any (dupB t) = D at *
      generalize namesK 31 (l.take i) = L1 at *
      generalize namesK 32 (l.take i) = L2 at *
      have XA : Hid (Ext w (wr.alloc (.cells #[.int .i64 t.kind, .int .i64 t.pos, .int .i64 t.n, encStr t.text, .slice t.A t.kids.length t.cap] 24))) := hide (HX.out.alloc _)
      have T1a : Hid (SetL (wr.alloc (.cells #[.int .i64 t.kind, .int .i64 t.pos, .int .i64 t.n, encStr t.text, .slice t.A t.kids.length t.cap] 24)) s1 r1 m1 (ofL L1)) := hide (T1.out.ext ((Ext.refl _).alloc _))
      have T2a : Hid (SetL (wr.alloc (.cells #[.int .i64 t.kind, .int .i64 t.pos, .int .i64 t.n, encStr t.text, .slice t.A t.kids.length t.cap] 24)) s2 r2 m2 (ofL L2)) := hide (T2.out.ext ((Ext.refl _).alloc _))
      have hsA : (wr.alloc (.cells #[.int .i64 t.kind, .int .i64 t.pos, .int .i64 t.n, encStr t.text, .slice t.A t.kids.length t.cap] 24)).heap.size = wr.heap.size + 1 := by simp
      by_cases h31 : t.kind = 31
      · have hk31 : (t.kind == 31) = true := by rw [h31]; rfl
        have hk32 : (t.kind == 32) = false := by rw [h31]; rfl
        rw [hk31] at HM1
        rw [hk32] at HM2
        have HA := hide (setl_add T1a.out t.text htx (by omega))
        rw [HF1.out h31] at HA
        clear h31 HF1 HF2 HF3
        cases D
        · go_wp2_with fail
          refine HA.out.mono ?_
          rintro e w4 ⟨rfl, hS4, hg4⟩
          have S4 := hide hS4
          have X4 := hide (XA.out.grown hg4 (fun j hj => by injection hj with hj; omega))
          have T4 := hide (T2a.out.grown hg4 (by simp; omega) (by simp; omega))
          have HB4 : Hid (NBox w4 wr.heap.size t) := hide ((hg4.block _ HB.out.lt (by simp; omega)).trans HB.out)
          have hs4 := hg4.size
          have c0 := HB4.out.c0
          clear hS4 hg4
          go_wp2
          go_roundw
          case rel => exact ⟨i + 1, m1 + 1, m2, hlt, by go_num, by omega, by omega, X4, by omega, hide (by rw [HM1.out]; simpa [ofL_snoc] using S4.out), hide (by rw [HM2.out]; simpa using T4.out), hide (by have := HT2.out; simpa using this.symm)⟩
          case measure => simp [intOf]; omega
        · have hR : R = (t.pos, false) := by have := HT2.out; simpa using this
          clear HT HT2 HR
          subst hR
          go_wp2_with fail
          refine HA.out.mono ?_
          rintro e w4 ⟨rfl, hS4, hg4⟩
          have X4 := hide (XA.out.grown hg4 (fun j hj => by injection hj with hj; omega))
          have HB4 : Hid (NBox w4 wr.heap.size t) := hide ((hg4.block _ HB.out.lt (by simp; omega)).trans HB.out)
          have c0 := HB4.out.c0
          have c1 := HB4.out.c1
          clear hS4 hg4
          go_wp2
          go_ret2
          exact ⟨rfl, X4.out⟩
      · have hk31 : (t.kind == 31) = false := by simpa using h31
        rw [hk31] at HM1
        by_cases h32 : t.kind = 32
        · have hk32 : (t.kind == 32) = true := by rw [h32]; rfl
          rw [hk32] at HM2
          have HA := hide (setl_add T2a.out t.text htx (by omega))
          rw [HF2.out h32] at HA
          clear h31 h32 HF1 HF2 HF3
          cases D
          · go_wp2_with fail
            refine HA.out.mono ?_
            rintro e w4 ⟨rfl, hS4, hg4⟩
            have S4 := hide hS4
            have X4 := hide (XA.out.grown hg4 (fun j hj => by injection hj with hj; omega))
            have T4 := hide (T1a.out.grown hg4 (by simp; omega) (by simp; omega))
            have hs4 := hg4.size
            clear hS4 hg4
            go_wp2
            go_roundw
            case rel => exact ⟨i + 1, m1, m2 + 1, hlt, by go_num, by omega, by omega, X4, by omega, hide (by rw [HM1.out]; simpa using T4.out), hide (by rw [HM2.out]; simpa [ofL_snoc] using S4.out), hide (by have := HT2.out; simpa using this.symm)⟩
            case measure => simp [intOf]; omega
          · have hR : R = (t.pos, false) := by have := HT2.out; simpa using this
            clear HT HT2 HR
            subst hR
            go_wp2_with fail
            refine HA.out.mono ?_
            rintro e w4 ⟨rfl, hS4, hg4⟩
            have X4 := hide (XA.out.grown hg4 (fun j hj => by injection hj with hj; omega))
            have HB4 : Hid (NBox w4 wr.heap.size t) := hide ((hg4.block _ HB.out.lt (by simp; omega)).trans HB.out)
            have c0 := HB4.out.c0
            have c1 := HB4.out.c1
            clear hS4 hg4
            go_wp2
            go_ret2
            exact ⟨rfl, X4.out⟩
        · have hk32 : (t.kind == 32) = false := by simpa using h32
          rw [hk32] at HM2
          have hD := HF3.out h31 h32
          subst hD
          clear h31 h32 HF1 HF2 HF3
          go_wp2
          go_roundw
          case rel => exact ⟨i + 1, m1, m2, hlt, by go_num, by omega, by omega, XA, by simp; omega, hide (by rw [HM1.out]; simpa using T1a.out), hide (by rw [HM2.out]; simpa using T2a.out), hide (by have := HT2.out; simpa using this.symm)⟩
          case measure => simp [intOf]; omega
    · have hge : ¬ (i : Int) < (l.length : Int) := by omega
      have hR : R = (0, true) := by
        have := HT.out
        rw [List.drop_eq_nil_of_le (by omega)] at this
        exact this.symm
      clear HT HR
      subst hR
      go_wp2
      go_ret2
      exact ⟨rfl, HX.out⟩

end Go.Proofs.YtnbnhchgkbbiiaaGreat

/- Chapter 14's example: its tree. -/
namespace Go.Proofs.YtnbnhchgkbbiiaaGreat
open Go.RowKit Go.Sort

/-- A variable. -/
def varT (s : Str) : Tree := .mk 21 0 0 s none 0 []
theorem NodeIn.of {w : World} {k p n : Int} {s : Str} {A : Option Addr} {c : Nat} {l : List Tree} (h1 : l.length ≤ c) (h2 : c ≤ 9223372036854775807) (h3 : s.length ≤ 9223372036854775807) (h4 : RowOf treeC w A l) (h5 : ∀ k ∈ l, NodeIn w k) : NodeIn w (.mk k p n s A c l) := .mk h1 h2 h3 h4 h5
theorem ha_alloc (w : World) (o : Obj) (n : Nat) : (w.alloc o).heap[n]? = if n = w.heap.size then some o else w.heap[n]? := by
  show (w.heap.push o)[n]? = _
  rw [Array.getElem?_push]
theorem l_name14 (s : Str) (w : World) : Calls Tryz.prog 15 #[encStr s] w fun e w' => e = .returned (.agg #[.int .i64 21, .int .i64 0, .int .i64 0, encStr s, .slice none 0 0]) ∧ w' = w.alloc (.cells #[.int .i64 21, .int .i64 0, .int .i64 0, encStr s, .slice none 0 0] 24) := by
  go_enter Tryz.func15, Tryz.ntmps15
  go_wp2
  refine bodyPost_ret (v := .agg #[.int .i64 21, .int .i64 0, .int .i64 0, encStr s, .slice none 0 0]) ?_ rfl ⟨rfl, rfl⟩
  simp [results, Tryz.f15, go_sem]

/-- The example's tree, where its nodes lie. -/
def exT (k1 k2 k3 : Nat) : Tree := .mk 25 0 0 [120] (some ⟨k3, 0, none⟩) 1 [.mk 24 0 0 [] (some ⟨k2, 0, none⟩) 2 [.mk 24 0 0 [] (some ⟨k1, 0, none⟩) 2 [varT [102], varT [120]], varT [121]]]
theorem varT_in (w : World) (s : Str) (h : s.length ≤ 9223372036854775807) : NodeIn w (varT s)   := NodeIn.of (Nat.le_refl _) (by decide) h (RowOf.nil _ _ _) (fun k hk => by cases hk)
theorem exT_in {w : World} {k1 k2 k3 : Nat} (h1 : w.heap[k1]? = some (.cells #[.int .i64 21, .int .i64 0, .int .i64 0, encStr [102], .slice none 0 0, .int .i64 21, .int .i64 0, .int .i64 0, encStr [120], .slice none 0 0] 24 (0, 0)))
    (h2 : w.heap[k2]? = some (.cells #[.int .i64 24, .int .i64 0, .int .i64 0, encStr [], .slice (some ⟨k1, 0, none⟩) 2 2, .int .i64 21, .int .i64 0, .int .i64 0, encStr [121], .slice none 0 0] 24 (0, 0)))
    (h3 : w.heap[k3]? = some (.cells #[.int .i64 24, .int .i64 0, .int .i64 0, encStr [], .slice (some ⟨k2, 0, none⟩) 2 2] 24 (0, 0))) : NodeIn w (exT k1 k2 k3) := by
  refine NodeIn.of (Nat.le_refl _) (by decide) (by decide) (RowOf.block treeC _ h3) (fun k hk => ?_)
  rw [List.mem_singleton] at hk
  subst hk
  refine NodeIn.of (Nat.le_refl _) (by decide) (by decide) (RowOf.block treeC _ h2) (fun k hk => ?_)
  rcases List.mem_cons.1 hk with rfl | hk
  · refine NodeIn.of (Nat.le_refl _) (by decide) (by decide) (RowOf.block treeC _ h1) (fun k hk => ?_)
    rcases List.mem_cons.1 hk with rfl | hk
    · exact varT_in _ _ (by decide)
    · rw [List.mem_singleton] at hk; subst hk; exact varT_in _ _ (by decide)
  · rw [List.mem_singleton] at hk; subst hk; exact varT_in _ _ (by decide)
theorem size_var (s : Str) : (varT s).size = 1 := by rw [Tree.size_eq]; rfl
theorem depth_var (s : Str) : (varT s).depth = 1 := by rw [Tree.depth_eq]; rfl
theorem exp_varT (s : Str) (h : varB s = true) : expB (varT s) = true := by rw [exp_var _ rfl]; simp [namedB, varT, Tree.n, Tree.text, Tree.kids, h]
theorem exT_size (k1 k2 k3 : Nat) : (exT k1 k2 k3).size = 6 := by
  rw [Tree.size_eq]
  simp only [exT, Tree.kids, List.map_cons, List.map_nil, List.sum_cons, List.sum_nil]
  rw [Tree.size_eq]
  simp only [Tree.kids, List.map_cons, List.map_nil, List.sum_cons, List.sum_nil]
  rw [Tree.size_eq]
  simp [Tree.kids, size_var]
theorem exT_exp (k1 k2 k3 : Nat) : isExpB (exT k1 k2 k3) = true := by
  unfold isExpB
  rw [Bool.and_eq_true]
  constructor
  · unfold lowB
    have := depth_le_size (exT k1 k2 k3)
    rw [exT_size] at this
    simp; omega
  · have v1 : varB [102] = true := by decide
    have v2 : varB [120] = true := by decide
    have v3 : varB [121] = true := by decide
    rw [exp_lam _ rfl]
    have e1 : expB (.mk 24 0 0 [] (some ⟨k1, 0, none⟩) 2 [varT [102], varT [120]]) = true := by
      rw [exp_app _ rfl]
      simp [Tree.kids, bareB, Tree.text, Tree.n, exp_varT _ v1, exp_varT _ v2]
    have e2 : expB (.mk 24 0 0 [] (some ⟨k2, 0, none⟩) 2 [.mk 24 0 0 [] (some ⟨k1, 0, none⟩) 2 [varT [102], varT [120]], varT [121]]) = true := by
      rw [exp_app _ rfl]
      simp [Tree.kids, bareB, Tree.text, Tree.n, e1, exp_varT _ v3]
    simp [namedB, exT, Tree.n, Tree.text, Tree.kids, Tree.kid, v2, e2]
theorem uses_var (s : Str) (p : Str → Bool) : usesL (varT s) p = if p s then [] else [⟨s, 0⟩] := by
  rw [usesL_eq]
  cases h : p s <;> simp [varT, Tree.kind, Tree.text, Tree.pos, Tree.kids, inner, ownU, usesesL, h]
theorem uses_app (A : Option Addr) (c : Nat) (ks : List Tree) (p : Str → Bool) : usesL (.mk 24 0 0 [] A c ks) p = usesesL ks p := by
  rw [usesL_eq]
  simp [Tree.kind, inner, ownU, bp, Tree.kids]
theorem exT_uses (k1 k2 k3 : Nat) : usesE (exT k1 k2 k3) = [⟨[102], 0⟩, ⟨[121], 0⟩] := by
  unfold usesE
  rw [if_pos (exT_exp k1 k2 k3), usesL_eq]
  simp [exT, Tree.kind, inner, ownU, bp, Tree.kids, Tree.text, usesesL, uses_app, uses_var]
theorem cons_var (s : Str) : consL (varT s) = [] := by rw [consL_eq]; simp [varT, Tree.kind, Tree.kids, consesL]
theorem exT_cons (k1 k2 k3 : Nat) : consE (exT k1 k2 k3) = [] := by
  unfold consE
  rw [if_pos (exT_exp k1 k2 k3), consL_eq]
  simp only [exT, Tree.kind, Tree.kids, consesL, List.map_cons, List.map_nil, List.flatten_cons, List.flatten_nil, List.append_nil]
  rw [consL_eq]
  simp only [Tree.kind, Tree.kids, consesL, List.map_cons, List.map_nil, List.flatten_cons, List.flatten_nil, List.append_nil, cons_var]
  rw [consL_eq]
  simp [Tree.kind, Tree.kids, consesL, cons_var]
theorem exT_free (k1 k2 k3 : Nat) : freeE (exT k1 k2 k3) = [[102], [121]] := by
  unfold freeE
  rw [exT_uses]
  decide
def exL : List Tree := [.mk 31 1 0 [102] none 0 [], .mk 32 2 0 [102] none 0 [], .mk 31 3 0 [102] none 0 []]
theorem exL_twice : twiceL exL = (3, false) := by decide
theorem exL_binds : bindsL exL = [[102], [102]] := by decide
theorem exL_in {w : World} {b : Nat} (h : w.heap[b]? = some (.cells #[.int .i64 31, .int .i64 1, .int .i64 0, encStr [102], .slice none 0 0, .int .i64 32, .int .i64 2, .int .i64 0, encStr [102], .slice none 0 0, .int .i64 31, .int .i64 3, .int .i64 0, encStr [102], .slice none 0 0] 24 (0, 0))) : NodesIn w (some ⟨b, 0, none⟩) exL := by
  refine ⟨RowOf.block treeC _ h, fun k hk => ?_⟩
  have : ∀ a p, NodeIn w (.mk a p 0 [102] none 0 []) := fun a p => NodeIn.of (Nat.le_refl _) (by decide) (by decide) (RowOf.nil _ _ _) (fun k hk => by cases hk)
  simp only [exL, List.mem_cons, List.not_mem_nil, or_false] at hk
  rcases hk with rfl | rfl | rfl <;> exact this _ _

end Go.Proofs.YtnbnhchgkbbiiaaGreat

/- Contract: chapter 14's example holds. -/
namespace Go.Proofs.YtnbnhchgkbbiiaaGreat
open Go.RowKit Go.Sort

theorem hd_drew (w : World) (n : Nat) : w.drew.heap[n]? = w.heap[n]? := rfl
theorem ha_hit {w : World} {o : Obj} {n : Nat} (h : n = w.heap.size) : (w.alloc o).heap[n]? = some o := by rw [ha_alloc, if_pos h]
theorem ha_miss {w : World} {o o' : Obj} {n : Nat} (h : n ≠ w.heap.size) (k : w.heap[n]? = some o') : (w.alloc o).heap[n]? = some o' := by rw [ha_alloc, if_neg h]; exact k
theorem strs_two (w : World) (a b : Str) : Strs (w.alloc (.cells #[encStr a, encStr b] 9)) (some ⟨w.heap.size, 0, none⟩) [a, b] := strs_iff.2 (RowOf.block strC [a, b] (at_newB _ _ _ rfl))

set_option maxRecDepth 10000 in
set_option maxHeartbeats 8000000 in
theorem l_awake14 (w : World) : Calls Tryz.prog 5 #[] w fun e w' => e = .returned (.bool true) ∧ Ext w w' := by
  go_enter Tryz.func5, Tryz.ntmps5
  go_wp2_with fail
  refine (l_name14 [102] _).mono ?_
  rintro e w1 ⟨rfl, rfl⟩
  go_wp2
  have X1 : Hid (Ext w ((w.alloc (.cells #[.int .i64 21, .int .i64 0, .int .i64 0, encStr [102], .slice none 0 0] 24)).alloc (.cells #[.int .i64 21, .int .i64 0, .int .i64 0, .string { data := #[102] }, .slice none 0 0] 24))) := hide (((Ext.refl _).alloc _).alloc _)
  have hbk : (((w.alloc (.cells #[.int .i64 21, .int .i64 0, .int .i64 0, encStr [102], .slice none 0 0] 24)).alloc (.cells #[.int .i64 21, .int .i64 0, .int .i64 0, .string { data := #[102] }, .slice none 0 0] 24))).heap[w.heap.size + 1]? = some (.cells #[.int .i64 21, .int .i64 0, .int .i64 0, .string { data := #[102] }, .slice none 0 0] 24 (0, 0)) := at_newB _ _ _ (by simp)
  have hsz : (((w.alloc (.cells #[.int .i64 21, .int .i64 0, .int .i64 0, encStr [102], .slice none 0 0] 24)).alloc (.cells #[.int .i64 21, .int .i64 0, .int .i64 0, .string { data := #[102] }, .slice none 0 0] 24))).heap.size = w.heap.size + 2 := by simp
  generalize ((w.alloc (.cells #[.int .i64 21, .int .i64 0, .int .i64 0, encStr [102], .slice none 0 0] 24)).alloc (.cells #[.int .i64 21, .int .i64 0, .int .i64 0, .string { data := #[102] }, .slice none 0 0] 24)) = w1 at *
  have HS : Hid (∀ w', Ext w1 w' → w'.cell? ⟨w.heap.size + 1, 0, none⟩ = some (.int .i64 21) ∧ w'.cell? ⟨w.heap.size + 1, 1, none⟩ = some (.int .i64 0) ∧ w'.cell? ⟨w.heap.size + 1, 2, none⟩ = some (.int .i64 0) ∧ w'.cell? ⟨w.heap.size + 1, 3, none⟩ = some (.string { data := #[102] }) ∧ w'.cell? ⟨w.heap.size + 1, 4, none⟩ = some (.slice none 0 0)) := hide (fun w' e => by
    have h := (e.heap (lt_of_obj hbk)).trans hbk
    refine ⟨?_, ?_, ?_, ?_, ?_⟩ <;> simp [World.cell?, h])
  rename_i Q0 K0 hK0
  have key : ∀ (k1 k2 k3 B : Nat) (u7 u8 u9 u11 u12 u14 u16 : Value) (wr : World), Ext w1 wr → wr.heap[k1]? = some (.cells #[.int .i64 21, .int .i64 0, .int .i64 0, encStr [102], .slice none 0 0, .int .i64 21, .int .i64 0, .int .i64 0, encStr [120], .slice none 0 0] 24 (0, 0)) → wr.heap[k2]? = some (.cells #[.int .i64 24, .int .i64 0, .int .i64 0, encStr [], .slice (some ⟨k1, 0, none⟩) 2 2, .int .i64 21, .int .i64 0, .int .i64 0, encStr [121], .slice none 0 0] 24 (0, 0)) → wr.heap[k3]? = some (.cells #[.int .i64 24, .int .i64 0, .int .i64 0, encStr [], .slice (some ⟨k2, 0, none⟩) 2 2] 24 (0, 0)) → wr.heap[B]? = some (.cells #[.int .i64 25, .int .i64 0, .int .i64 0, .string { data := #[120] }, .slice (some ⟨k3, 0, none⟩) 1 1] 24 (0, 0)) →
      Exit.then K0 Q0 Exit.normal { tmps := #[.bool false, .pointer (some ⟨w.heap.size + 1, 0, none⟩), .pointer (some ⟨B, 0, none⟩), undef, undef, undef, undef, u7, u8, u9, .slice (some ⟨k1, 0, none⟩) 2 2, u11, u12, .slice (some ⟨k2, 0, none⟩) 2 2, u14, .slice (some ⟨k3, 0, none⟩) 1 1, u16, undef, undef, undef, undef, undef, undef, undef, undef, undef, undef, undef, undef, undef, undef, undef, undef, undef, undef, undef, undef, undef, undef, undef, undef, undef, undef, undef, undef, undef, undef, undef, undef, undef, undef, undef, undef, undef, undef, undef, undef, undef, undef, undef, undef, undef, undef, undef], defers := [] } wr := by
    intro k1 k2 k3 B u7 u8 u9 u11 u12 u14 u16 wr hx h1 h2 h3 hB
    have XR : Hid (Ext w wr) := hide (X1.out.trans hx)
    have HT : Hid (NodeIn wr (exT k1 k2 k3)) := hide (exT_in h1 h2 h3)
    have HC : Hid (∀ w', Ext wr w' → w'.cell? ⟨B, 0, none⟩ = some (.int .i64 25) ∧ w'.cell? ⟨B, 1, none⟩ = some (.int .i64 0) ∧ w'.cell? ⟨B, 2, none⟩ = some (.int .i64 0) ∧ w'.cell? ⟨B, 3, none⟩ = some (.string { data := #[120] }) ∧ w'.cell? ⟨B, 4, none⟩ = some (.slice (some ⟨k3, 0, none⟩) 1 1)) := hide (fun w' e => by
      have h := (e.heap (lt_of_obj hB)).trans hB
      refine ⟨?_, ?_, ?_, ?_, ?_⟩ <;> simp [World.cell?, h])
    have HL : Hid (NodesIn (wr.alloc (.cells #[.int .i64 31, .int .i64 1, .int .i64 0, .string { data := #[102] }, .slice none 0 0, .int .i64 32, .int .i64 2, .int .i64 0, .string { data := #[102] }, .slice none 0 0, .int .i64 31, .int .i64 3, .int .i64 0, .string { data := #[102] }, .slice none 0 0] 24)) (some ⟨wr.heap.size, 0, none⟩) exL) := hide (exL_in (at_newB _ _ _ rfl))
    have XL : Hid (Ext wr (wr.alloc (.cells #[.int .i64 31, .int .i64 1, .int .i64 0, .string { data := #[102] }, .slice none 0 0, .int .i64 32, .int .i64 2, .int .i64 0, .string { data := #[102] }, .slice none 0 0, .int .i64 31, .int .i64 3, .int .i64 0, .string { data := #[102] }, .slice none 0 0] 24))) := hide ((Ext.refl _).alloc _)
    have H1 := hide (u_twice (some ⟨wr.heap.size, 0, none⟩) 3 exL _ HL.out (by decide))
    rw [exL_twice] at H1
    have H2 := hide (fun w' (e : Ext (wr.alloc (.cells #[.int .i64 31, .int .i64 1, .int .i64 0, .string { data := #[102] }, .slice none 0 0, .int .i64 32, .int .i64 2, .int .i64 0, .string { data := #[102] }, .slice none 0 0, .int .i64 31, .int .i64 3, .int .i64 0, .string { data := #[102] }, .slice none 0 0] 24)) w') => hide (u_uses (exT k1 k2 k3) w' (HT.out.ext (XL.out.trans e)) (by rw [exT_size]; decide)))
    have H3 := hide (fun w' (e : Ext (wr.alloc (.cells #[.int .i64 31, .int .i64 1, .int .i64 0, .string { data := #[102] }, .slice none 0 0, .int .i64 32, .int .i64 2, .int .i64 0, .string { data := #[102] }, .slice none 0 0, .int .i64 31, .int .i64 3, .int .i64 0, .string { data := #[102] }, .slice none 0 0] 24)) w') => hide (u_free (exT k1 k2 k3) w' (HT.out.ext (XL.out.trans e)) (by rw [exT_size]; decide) (by rw [exT_uses]; intro u hu; simp only [List.mem_cons, List.not_mem_nil, or_false] at hu; rcases hu with rfl | rfl <;> decide)))
    have H4 := hide (fun w' (e : Ext (wr.alloc (.cells #[.int .i64 31, .int .i64 1, .int .i64 0, .string { data := #[102] }, .slice none 0 0, .int .i64 32, .int .i64 2, .int .i64 0, .string { data := #[102] }, .slice none 0 0, .int .i64 31, .int .i64 3, .int .i64 0, .string { data := #[102] }, .slice none 0 0] 24)) w') => hide (u_cons (exT k1 k2 k3) w' (HT.out.ext (XL.out.trans e)) (by rw [exT_size]; decide)))
    have H5 := hide (fun w' (e : Ext (wr.alloc (.cells #[.int .i64 31, .int .i64 1, .int .i64 0, .string { data := #[102] }, .slice none 0 0, .int .i64 32, .int .i64 2, .int .i64 0, .string { data := #[102] }, .slice none 0 0, .int .i64 31, .int .i64 3, .int .i64 0, .string { data := #[102] }, .slice none 0 0] 24)) w') => hide (u_binds (some ⟨wr.heap.size, 0, none⟩) 3 exL w' (HL.out.ext e) (by decide)))
    simp only [exT_uses] at H2
    simp only [exT_free] at H3
    simp only [exT_cons] at H4
    simp only [exL_binds] at H5
    simp only [show exL.length = 3 from rfl] at H1 H5
    clear HT HL h1 h2 h3 hB hx HS hbk hsz
    refine hK0 _ _ ?_
    go_wp2_with fail
    refine H1.out.mono ?_
    rintro e w2 ⟨rfl, hx2⟩
    have X2 := hide hx2
    obtain ⟨c0, c1, c2, c3, c4⟩ := HC.out _ (XL.out.trans X2.out)
    clear hx2
    go_wp2_with fail
    refine (H2.out _ X2.out).out.mono ?_
    rintro e w3 ⟨⟨A3, p3, rfl, -, -, hU3⟩, hx3⟩
    have X3 := hide (X2.out.trans hx3)
    obtain ⟨b3, o3, rfl, hb3, hc3⟩ := RowOf.at_ useC hU3 (i := 0) (by decide)
    have q0 : w3.cell? ⟨b3, o3, none⟩ = some (.string { data := #[102] }) := by have := hc3 0 (by decide); simpa [useC] using this
    obtain ⟨d0, d1, d2, d3, d4⟩ := HC.out _ (XL.out.trans X3.out)
    clear hU3 hx3 hc3
    go_wp2_with fail
    refine (H3.out _ X3.out).out.mono ?_
    rintro e w4 ⟨⟨v4, rfl, hO4⟩, hx4⟩
    obtain ⟨A4, p4, rfl, -, -, hS4, -⟩ := Strs.of_own hO4
    have X4 := hide (X3.out.trans hx4)
    have S4 := hide hS4
    clear hO4 hx4 hS4
    go_wp2_with fail
    refine (ref_texts A4 (some ⟨w4.heap.size, 0, none⟩) p4 2 [[102], [121]] [[102], [121]] _ (S4.out.ext ((Ext.refl _).alloc _)) (strs_two w4 [102] [121]) (by decide)).mono ?_
    rintro e w5 ⟨rfl, hx5⟩
    have X5 := hide ((X4.out.alloc _).trans hx5)
    obtain ⟨g0, g1, g2, g3, g4⟩ := HC.out _ (XL.out.trans X5.out)
    clear hx5
    go_wp2_with fail
    refine (H4.out _ X5.out).out.mono ?_
    rintro e w6 ⟨⟨A6, p6, rfl, -, -, -⟩, hx6⟩
    have X6 := hide (X5.out.trans hx6)
    clear hx6
    go_wp2_with fail
    refine (H5.out _ X6.out).out.mono ?_
    rintro e w7 ⟨⟨A7, p7, rfl, -, -, hS7, -⟩, hx7⟩
    have X7 := hide (X6.out.trans hx7)
    have S7 := hide hS7
    clear hx7 hS7
    go_wp2_with fail
    refine (ref_texts A7 (some ⟨w7.heap.size, 0, none⟩) p7 2 [[102], [102]] [[102], [102]] _ (S7.out.ext ((Ext.refl _).alloc _)) (strs_two w7 [102] [102]) (by decide)).mono ?_
    rintro e w8 ⟨rfl, hx8⟩
    have X8 := hide ((X7.out.alloc _).trans hx8)
    clear hx8
    go_wp2
    go_ret
    exact ⟨by simp, (XR.out.trans XL.out).trans X8.out⟩
  go_region_held3 (fun w' => w'.cell? ⟨w.heap.size + 1, 0, none⟩ = some (.int .i64 21) ∧ w'.cell? ⟨w.heap.size + 1, 1, none⟩ = some (.int .i64 0) ∧ w'.cell? ⟨w.heap.size + 1, 2, none⟩ = some (.int .i64 0) ∧ w'.cell? ⟨w.heap.size + 1, 3, none⟩ = some (.string { data := #[102] }) ∧ w'.cell? ⟨w.heap.size + 1, 4, none⟩ = some (.slice none 0 0)) (exact HS.out _ (by repeat (first | exact Ext.refl _ | exact Ext.pre (by simp) | exact Ext.alloc (by assumption) _ | refine Ext.alloc ?_ _ |  refine Ext.more ?_ _ _ | refine Ext.drew ?_ | refine Ext.drewN ?_ _))) (
    (go_at_call 15
     refine Calls.mono (l_name14 _ _) ?_
     rintro e w2 ⟨rfl, rfl⟩))
  all_goals (refine key _ _ _ _ _ _ _ _ _ _ _ _ (by repeat (first | exact Ext.refl _ | exact Ext.pre (by simp) | exact Ext.alloc (by assumption) _ | refine Ext.alloc ?_ _ |  refine Ext.more ?_ _ _ | refine Ext.drew ?_ | refine Ext.drewN ?_ _)) ?_ ?_ ?_ ?_ <;> (rw [hd_drew]; repeat (first | exact ha_hit (by simp only [World.size_alloc, hsz]) | refine ha_miss (by simp only [World.size_alloc, hsz]; omega) ?_)))

end Go.Proofs.YtnbnhchgkbbiiaaGreat
