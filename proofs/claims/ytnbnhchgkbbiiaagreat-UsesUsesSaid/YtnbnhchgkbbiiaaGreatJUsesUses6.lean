/- Contracts on nodes: whether one has no text and no number, a name; whether all nodes of a list are so. -/
import Derived.Test.YtnbnhchgkbbiiaaGreatJUsesUses5
import Derived.Test.YtnbnhchgkbbiiaaGreatProg
import Derived.WalkSpells
import Derived.WalkLawsBesides
import Derived.Deep.QuietTactic
import Derived.BigQuiet
/- Contracts on nodes: whether one has no text and no number, a name; whether all nodes of a list are so. -/
namespace Go.Proofs.YtnbnhchgkbbiiaaGreat
open Go.RowKit

/-- Function number `f` tells of a node whether `p` holds. -/
def Asks (f : FuncId) (p : Tree → Bool) (t : Tree) : Prop := ∀ w, NodeIn w t → Calls Tryz.prog f #[treeV t] w fun e w' => e = .returned (.bool (p t)) ∧ Ext w w'
/-- Function number `f` tells of a text whether `p` holds. -/
def AsksS (f : FuncId) (p : Str → Bool) : Prop := ∀ (s : Str) (w : World), s.length ≤ 9223372036854775807 → Calls Tryz.prog f #[encStr s] w fun e w' => e = .returned (.bool (p s)) ∧ w' = w
/-- It may be entered. -/
def Opens (f : FuncId) : Prop := ∀ args w, (callFunc f args).run Tryz.prog w = .ok (.enter f args) w
abbrev nodeCells (t : Tree) : Obj := .cells #[.int .i64 t.kind, .int .i64 t.pos, .int .i64 t.n, encStr t.text, .slice t.A t.kids.length t.cap] 24
theorem NBox.new (w : World) (t : Tree) : NBox (w.alloc (.cells #[.int .i64 t.kind, .int .i64 t.pos, .int .i64 t.n, encStr t.text, .slice t.A t.kids.length t.cap] 24)) w.heap.size t := at_newB _ _ _ rfl

def bareB (t : Tree) : Bool := (t.text == []) && t.n == 0
def namedB (p : Str → Bool) (t : Tree) : Bool := (t.n == 0) && p t.text

theorem n_bare (t : Tree) : Asks 50 bareB t := by
  intro w h
  have HR : Hid (bareB t = ((t.text == []) && t.n == 0)) := hide rfl
  generalize bareB t = R at *
  unfold treeV
  cases hs : (t.text == [])
  · go_enter Tryz.func50, Tryz.ntmps50
    go_wp2
    go_ret
    exact ⟨by rw [HR.out, hs]; rfl, (by repeat (first | exact Ext.refl _ | exact Ext.pre (by simp) | exact Ext.alloc (by assumption) _ | refine Ext.alloc ?_ _ |  refine Ext.more ?_ _ _ | refine Ext.drew ?_ | refine Ext.drewN ?_ _))⟩
  · have hs2 : t.text = [] := eq_of_beq hs
    by_cases hn : t.n = 0
    · go_enter Tryz.func50, Tryz.ntmps50
      go_wp2
      go_ret
      exact ⟨by rw [HR.out, hs]; simp [hn], (by repeat (first | exact Ext.refl _ | exact Ext.pre (by simp) | exact Ext.alloc (by assumption) _ | refine Ext.alloc ?_ _ |  refine Ext.more ?_ _ _ | refine Ext.drew ?_ | refine Ext.drewN ?_ _))⟩
    · go_enter Tryz.func50, Tryz.ntmps50
      go_wp2
      go_ret
      exact ⟨by rw [HR.out, hs]; simp, (by repeat (first | exact Ext.refl _ | exact Ext.pre (by simp) | exact Ext.alloc (by assumption) _ | refine Ext.alloc ?_ _ |  refine Ext.more ?_ _ _ | refine Ext.drew ?_ | refine Ext.drewN ?_ _))⟩

theorem n_named (f : FuncId) (p : Str → Bool) (hf : AsksS f p) (eg : Opens f) (t : Tree) (w : World) (h : NodeIn w t) :
    Calls Tryz.prog 47 #[treeV t, .func (.func f) #[] #[]] w fun e w' => e = .returned (.bool (namedB p t)) ∧ Ext w w' := by
  have HR : Hid (namedB p t = ((t.n == 0) && p t.text)) := hide rfl
  have HF := hide (fun w' => hf t.text w' h.txt)
  unfold Opens at eg
  generalize namedB p t = R at *
  clear hf
  unfold treeV
  by_cases hn : t.n = 0
  · generalize p t.text = B at *
    go_enter Tryz.func47, Tryz.ntmps47
    go_wp2_with fail
    refine (HF.out _).mono ?_
    rintro e w1 ⟨rfl, rfl⟩
    go_wp2
    go_ret
    exact ⟨by rw [HR.out]; simp [hn], (by repeat (first | exact Ext.refl _ | exact Ext.pre (by simp) | exact Ext.alloc (by assumption) _ | refine Ext.alloc ?_ _ |  refine Ext.more ?_ _ _ | refine Ext.drew ?_ | refine Ext.drewN ?_ _))⟩
  · go_enter Tryz.func47, Tryz.ntmps47
    go_wp2
    go_ret
    exact ⟨by rw [HR.out]; simp [hn], (by repeat (first | exact Ext.refl _ | exact Ext.pre (by simp) | exact Ext.alloc (by assumption) _ | refine Ext.alloc ?_ _ |  refine Ext.more ?_ _ _ | refine Ext.drew ?_ | refine Ext.drewN ?_ _))⟩

set_option maxRecDepth 10000 in
set_option maxHeartbeats 1000000 in
theorem n_each (f : FuncId) (p : Tree → Bool) (eg : Opens f) (A : Option Addr) (cap : Nat) (l : List Tree) (w : World) (h : NodesIn w A l) (hle : l.length ≤ 9223372036854775807) (hf : ∀ k ∈ l, Asks f p k) :
    Calls Tryz.prog 51 #[.slice A l.length cap, .func (.func f) #[] #[]] w fun e w' => e = .returned (.bool (l.all p)) ∧ Ext w w' := by
  have HK := hide h
  have HF := hide hf
  have HR : Hid ((l.drop 0).all p = l.all p) := hide rfl
  generalize l.all p = R at *
  unfold Opens at eg
  clear h hf
  go_enter Tryz.func51, Tryz.ntmps51
  go_wp2
  go_loopw [9] (fun i wr => ∃ k : Nat, k ≤ l.length ∧ i = .int .i64 k ∧ Hid (Ext w wr) ∧ Hid ((l.drop k).all p = R)) (fun i _ => l.length - (intOf i).toNat)
  case atStart => exact ⟨0, Nat.zero_le _, rfl, hide (Ext.refl _), HR⟩
  case round =>
    obtain ⟨k, hk, rfl, HX, HD⟩ := hrel
    by_cases hlt : k < l.length
    · have hlt' : (k : Int) < (l.length : Int) := by omega
      have hk0 : (0 : Int) ≤ (k : Int) := by omega
      obtain ⟨b, o, rfl, hb, q0, q1, q2, q3, q4⟩ := (HK.out.ext HX.out).at_ hlt
      have HC := hide (HF.out _ (List.getElem_mem hlt) (wr.alloc (.cells #[.int .i64 (l[k]'hlt).kind, .int .i64 (l[k]'hlt).pos, .int .i64 (l[k]'hlt).n, encStr (l[k]'hlt).text, .slice (l[k]'hlt).A (l[k]'hlt).kids.length (l[k]'hlt).cap] 24)) ((HK.out.kids _ (List.getElem_mem hlt)).ext (HX.out.alloc _)))
      have HD2 : Hid ((p (l[k]'hlt) && (l.drop (k + 1)).all p) = R) := hide (by have := HD.out; rwa [List.drop_eq_getElem_cons hlt] at this)
      have HX2 : Hid (Ext w (wr.alloc (.cells #[.int .i64 (l[k]'hlt).kind, .int .i64 (l[k]'hlt).pos, .int .i64 (l[k]'hlt).n, encStr (l[k]'hlt).text, .slice (l[k]'hlt).A (l[k]'hlt).kids.length (l[k]'hlt).cap] 24))) := hide (HX.out.alloc _)
      generalize l[k]'hlt = c at *
      cases hp : p c
      · rw [hp] at HD2 HC
        have hR : R = false := HD2.out.symm
        clear HD HD2 HR
        subst hR
        go_wp2_with fail
        refine HC.out.mono ?_
        rintro e w3 ⟨rfl, hx3⟩
        go_wp2
        go_ret
        exact ⟨rfl, HX2.out.trans hx3⟩
      · rw [hp] at HD2 HC
        have HD3 : Hid ((l.drop (k + 1)).all p = R) := hide (by simpa using HD2.out)
        go_wp2_with fail
        refine HC.out.mono ?_
        rintro e w3 ⟨rfl, hx3⟩
        have X3 := hide (HX2.out.trans hx3)
        clear hx3
        go_wp2
        go_roundw
        case rel => exact ⟨k + 1, hlt, by go_num, X3, HD3⟩
        case measure => simp [intOf]; omega
    · have hge : ¬ (k : Int) < (l.length : Int) := by omega
      have hR : R = true := by have := HD.out; rw [List.drop_eq_nil_of_le (by omega)] at this; exact this.symm
      clear HD HR
      subst hR
      go_wp2
      go_ret
      exact ⟨rfl, HX.out⟩

end Go.Proofs.YtnbnhchgkbbiiaaGreat

/- What is a type, a pattern, an expression: the plain law. No walk here. -/
namespace Go.Proofs.YtnbnhchgkbbiiaaGreat
open Go.RowKit

def Tree.kid (t : Tree) (i : Nat) : Tree := t.kids.getD i Tree.zero
theorem kid_get {t : Tree} {i : Nat} (h : i < t.kids.length) : t.kid i = t.kids[i]'h := by unfold Tree.kid; simp [h]

noncomputable def typeB : Tree → Bool := Tree.fold fun t l =>
  if t.kind = 1 then namedB varB t && decide (t.kids.length = 0)
  else if t.kind = 2 ∧ t.n = 0 then (if t.text = [45, 62] then decide (t.kids.length = 2) && l.all id else conB t.text && l.all id)
  else false
theorem all_map {f : Tree → Bool} (l : List Tree) : (l.map f).all id = l.all f := by rw [List.all_map]; rfl
theorem typeB_eq (t : Tree) : typeB t = if t.kind = 1 then namedB varB t && decide (t.kids.length = 0)
  else if t.kind = 2 ∧ t.n = 0 then (if t.text = [45, 62] then decide (t.kids.length = 2) && t.kids.all typeB else conB t.text && t.kids.all typeB)
  else false := by
  unfold typeB
  rw [Tree.fold_eq, all_map]
noncomputable def patB : Tree → Bool := Tree.fold fun t l =>
  if t.kind = 11 then namedB varB t && decide (t.kids.length = 0)
  else if t.kind = 12 then bareB t && decide (t.kids.length = 0)
  else if t.kind = 13 then (t.text == []) && decide (0 ≤ t.n) && decide (t.kids.length = 0)
  else if t.kind = 14 then namedB conB t && l.all id
  else false
theorem patB_eq (t : Tree) : patB t = if t.kind = 11 then namedB varB t && decide (t.kids.length = 0)
  else if t.kind = 12 then bareB t && decide (t.kids.length = 0)
  else if t.kind = 13 then (t.text == []) && decide (0 ≤ t.n) && decide (t.kids.length = 0)
  else if t.kind = 14 then namedB conB t && t.kids.all patB
  else false := by
  unfold patB
  rw [Tree.fold_eq, all_map]
noncomputable def predB (t : Tree) : Bool := decide (t.kind = 3) && namedB conB t && decide (t.kids.length = 1) && typeB (t.kid 0)
noncomputable def qualB (t : Tree) : Bool := decide (t.kind = 4) && bareB t && decide (1 ≤ t.kids.length) && (t.kids.take (t.kids.length - 1)).all predB && typeB (t.kid (t.kids.length - 1))
noncomputable def sigB (t : Tree) : Bool := decide (t.kind = 32) && namedB varB t && decide (t.kids.length = 1) && qualB (t.kid 0)

/-- An expression; a binding; an alternative. -/
noncomputable def expF (t : Tree) (l : List (Bool × Bool × Bool)) : Bool × Bool × Bool :=
  (if t.kind = 21 then namedB varB t && decide (t.kids.length = 0)
   else if t.kind = 22 then namedB conB t && decide (t.kids.length = 0)
   else if t.kind = 23 then (t.text == []) && decide (0 ≤ t.n) && decide (t.kids.length = 0)
   else if t.kind = 24 then bareB t && decide (t.kids.length = 2) && (l.map (·.1)).all id
   else if t.kind = 25 then namedB varB t && decide (t.kids.length = 1) && (l.getD 0 (false, false, false)).1
   else if t.kind = 26 then bareB t && decide (2 ≤ t.kids.length) && ((t.kids.zip l).take (t.kids.length - 1)).all (fun x => x.2.2.1 || sigB x.1) && (l.getD (t.kids.length - 1) (false, false, false)).1
   else if t.kind = 27 then bareB t && decide (2 ≤ t.kids.length) && (l.getD 0 (false, false, false)).1 && ((l.drop 1).map (·.2.2)).all id
   else if t.kind = 28 then bareB t && decide (t.kids.length = 3) && (l.map (·.1)).all id
   else false,
   decide (t.kind = 31) && namedB varB t && decide (t.kids.length = 1) && (l.getD 0 (false, false, false)).1,
   decide (t.kind = 15) && bareB t && decide (t.kids.length = 2) && patB (t.kid 0) && (l.getD 1 (false, false, false)).1)
noncomputable def expT : Tree → Bool × Bool × Bool := Tree.fold expF
noncomputable def expB (t : Tree) : Bool := (expT t).1
noncomputable def bindB (t : Tree) : Bool := (expT t).2.1
noncomputable def altB (t : Tree) : Bool := (expT t).2.2
noncomputable def withinB (t : Tree) : Bool := bindB t || sigB t

theorem getD_map1 {t : Tree} {i : Nat} (h : i < t.kids.length) : ((t.kids.map expT).getD i (false, false, false)).1 = expB (t.kid i) := by
  rw [kid_get h]
  simp [h, expB]
theorem map1 (l : List Tree) : ((l.map expT).map (·.1)).all id = l.all expB := by
  rw [List.map_map, List.all_map]; rfl
theorem map3 (l : List Tree) : (((l.map expT).drop 1).map (·.2.2)).all id = (l.drop 1).all altB := by
  rw [← List.map_drop, List.map_map, List.all_map]; rfl
theorem zipE (l : List Tree) (n : Nat) : ((l.zip (l.map expT)).take n).all (fun x => x.2.2.1 || sigB x.1) = (l.take n).all withinB := by
  have : l.zip (l.map expT) = l.map (fun k => (k, expT k)) := by
    induction l with
    | nil => rfl
    | cons x l ih => simp only [List.map_cons, List.zip_cons_cons, ih]
  rw [this, ← List.map_take, List.all_map]
  rfl
section
variable (t : Tree)
theorem exp_eq : expB t = (expF t (t.kids.map expT)).1 := by unfold expB expT; rw [Tree.fold_eq]
theorem exp_var (h : t.kind = 21) : expB t = (namedB varB t && decide (t.kids.length = 0)) := by rw [exp_eq]; simp [expF, h]
theorem exp_con (h : t.kind = 22) : expB t = (namedB conB t && decide (t.kids.length = 0)) := by rw [exp_eq]; simp [expF, h]
theorem exp_int (h : t.kind = 23) : expB t = ((t.text == []) && decide (0 ≤ t.n) && decide (t.kids.length = 0)) := by rw [exp_eq]; simp [expF, h]
theorem exp_app (h : t.kind = 24) : expB t = (bareB t && decide (t.kids.length = 2) && t.kids.all expB) := by rw [exp_eq, ← map1]; simp only [expF, h]; rfl
theorem exp_lam (h : t.kind = 25) : expB t = (namedB varB t && decide (t.kids.length = 1) && expB (t.kid 0)) := by
  rw [exp_eq]
  by_cases hl : t.kids.length = 1
  · rw [← getD_map1 (by omega)]; simp only [expF, h]; rfl
  · simp [expF, h, hl]
theorem exp_let (h : t.kind = 26) : expB t = (bareB t && decide (2 ≤ t.kids.length) && (t.kids.take (t.kids.length - 1)).all withinB && expB (t.kid (t.kids.length - 1))) := by
  rw [exp_eq, ← zipE]
  by_cases hl : 2 ≤ t.kids.length
  · rw [← getD_map1 (by omega)]; simp only [expF, h]; rfl
  · simp [expF, h, hl]
theorem exp_case (h : t.kind = 27) : expB t = (bareB t && decide (2 ≤ t.kids.length) && expB (t.kid 0) && (t.kids.drop 1).all altB) := by
  rw [exp_eq, ← map3]
  by_cases hl : 2 ≤ t.kids.length
  · rw [← getD_map1 (by omega)]; simp only [expF, h]; rfl
  · simp [expF, h, hl]
theorem exp_if (h : t.kind = 28) : expB t = (bareB t && decide (t.kids.length = 3) && t.kids.all expB) := by rw [exp_eq, ← map1]; simp only [expF, h]; rfl
theorem exp_else (h1 : t.kind ≠ 21) (h2 : t.kind ≠ 22) (h3 : t.kind ≠ 23) (h4 : t.kind ≠ 24) (h5 : t.kind ≠ 25) (h6 : t.kind ≠ 26) (h7 : t.kind ≠ 27) (h8 : t.kind ≠ 28) : expB t = false := by
  rw [exp_eq]; simp [expF, h1, h2, h3, h4, h5, h6, h7, h8]
theorem bind_eq : bindB t = (decide (t.kind = 31) && namedB varB t && decide (t.kids.length = 1) && expB (t.kid 0)) := by
  have e : bindB t = (expF t (t.kids.map expT)).2.1 := by unfold bindB expT; rw [Tree.fold_eq]
  rw [e]
  by_cases hl : t.kids.length = 1
  · rw [← getD_map1 (by omega)]; rfl
  · simp [expF, hl]
theorem alt_eq : altB t = (decide (t.kind = 15) && bareB t && decide (t.kids.length = 2) && patB (t.kid 0) && expB (t.kid 1)) := by
  have e : altB t = (expF t (t.kids.map expT)).2.2 := by unfold altB expT; rw [Tree.fold_eq]
  rw [e]
  by_cases hl : t.kids.length = 2
  · rw [← getD_map1 (by omega)]; rfl
  · simp [expF, hl]
end

section
variable {w w' : World} {b o : Nat} {l : List Tree}
/-- The cells of a node in a row. -/
theorem NodesIn.cells (h : NodesIn w (some ⟨b, o, none⟩) l) {i : Nat} (hi : i < l.length) :
    w.cell? ⟨b, o + i * 5, none⟩ = some (.int .i64 (l[i]'hi).kind) ∧ w.cell? ⟨b, o + i * 5 + 1, none⟩ = some (.int .i64 (l[i]'hi).pos) ∧
      w.cell? ⟨b, o + i * 5 + 2, none⟩ = some (.int .i64 (l[i]'hi).n) ∧ w.cell? ⟨b, o + i * 5 + 3, none⟩ = some (.string ⟨(l[i]'hi).text.toArray⟩) ∧
      w.cell? ⟨b, o + i * 5 + 4, none⟩ = some (.slice (l[i]'hi).A (l[i]'hi).kids.length (l[i]'hi).cap) := by
  obtain ⟨b', o', e, _, h1⟩ := h.at_ hi
  cases e
  exact h1
theorem NodesIn.lt (h : NodesIn w (some ⟨b, o, none⟩) l) (hi : 0 < l.length) : b < w.heap.size := by
  obtain ⟨b', o', e, hb, _⟩ := h.at_ hi
  cases e
  exact hb
theorem NodesIn.some_ {A : Option Addr} (h : NodesIn w A l) (hi : 0 < l.length) : ∃ b o, A = some ⟨b, o, none⟩ ∧ b < w.heap.size := by
  obtain ⟨b', o', e, hb, _⟩ := h.at_ hi
  exact ⟨b', o', e, hb⟩
theorem NodesIn.take {A : Option Addr} (h : NodesIn w A l) {k : Nat} (hk : k ≤ l.length) : NodesIn w A (l.take k) := ⟨RowOf.take treeC h.row hk, fun x hx => h.kids x (List.mem_of_mem_take hx)⟩
theorem NodesIn.cut {A : Option Addr} (h : NodesIn w A l) {k cap : Nat} (hk : k ≤ l.length) (hc : l.length ≤ cap) : NodesIn w (if cap = k then A else A.map (·.add (k * 5))) (l.drop k) :=
  ⟨RowOf.cut treeC h.row hk hc, fun x hx => h.kids x (List.mem_of_mem_drop hx)⟩
end

end Go.Proofs.YtnbnhchgkbbiiaaGreat

/- Contracts on lists of texts: is one in a list; are two lists alike. -/
namespace Go.Proofs.YtnbnhchgkbbiiaaGreat
open Go.RowKit Go.Sort

set_option maxHeartbeats 1000000 in
theorem ref_has (A : Option Addr) (cap : Nat) (l : List Str) (x : Str) (w : World) (h : Strs w A l) (hle : l.length ≤ 9223372036854775807) :
    Calls Tryz.prog 38 #[.slice A l.length cap, encStr x] w fun e w' => e = .returned (.bool (l.any (· == x))) ∧ w' = w := by
  have Hany : Hid (∀ j, j < l.length → (l.getD j [] == x) = true → l.any (· == x) = true) := hide (by
    intro j hj hb
    rw [List.any_eq_true]
    exact ⟨l.getD j [], by simp [hj], hb⟩)
  have Hnone : Hid ((∀ j, j < l.length → (l.getD j [] == x) = false) → l.any (· == x) = false) := hide (by
    intro hall
    rw [List.any_eq_false]
    intro s hs
    obtain ⟨j, hj, rfl⟩ := List.getElem_of_mem hs
    have := hall j hj
    simpa [hj] using this)
  have Hr := hide h
  clear h
  generalize l.any (· == x) = R at *
  go_enter Tryz.func38, Tryz.ntmps38
  go_wp2
  go_loop [5] (fun i => ∃ j : Nat, j ≤ l.length ∧ i = .int .i64 j ∧ Hid (∀ i, i < j → (l.getD i [] == x) = false)) (fun i => l.length - (intOf i).toNat)
  case atStart => exact ⟨0, Nat.zero_le _, rfl, hide (fun i hi => absurd hi (by omega))⟩
  case round =>
    obtain ⟨j, hj, rfl, Hj⟩ := hrel
    by_cases hlt : j < l.length
    · obtain ⟨b, o, rfl, hb, hc⟩ := Hr.out.at_ hlt
      have hlt' : (j : Int) < (l.length : Int) := by omega
      generalize hy : l.getD j [] = y at hc
      have Hy := hide hy
      clear hy
      cases hs : (y == x)
      · go_wp2
        go_round
        case rel =>
          refine ⟨j + 1, hlt, by go_num, hide (fun i hi => ?_)⟩
          by_cases hij : i = j
          · rw [hij, Hy.out]; exact hs
          · exact Hj.out i (by omega)
        case measure => simp [intOf]; omega
      · have hR := Hany.out j hlt (by rw [Hy.out]; exact hs)
        subst hR
        go_wp2
        go_ret
        exact ⟨rfl, rfl⟩
    · have hge : (l.length : Int) ≤ (j : Int) := by omega
      have hR := Hnone.out (fun i hi => Hj.out i (by omega))
      subst hR
      go_wp2
      go_ret
      exact ⟨rfl, rfl⟩

theorem alike_of {l m : List Str} (hlen : l.length = m.length) (h : ∀ i, i < l.length → l.getD i [] = m.getD i []) : l = m := by
  apply List.ext_getElem hlen
  intro i h1 h2
  have := h i h1
  simpa [h1, h2] using this

set_option maxHeartbeats 1000000 in
theorem ref_texts (A B : Option Addr) (cap cap' : Nat) (l m : List Str) (w : World) (h : Strs w A l) (h' : Strs w B m) (hle : l.length ≤ 9223372036854775807) :
    Calls Tryz.prog 9 #[.slice A l.length cap, .slice B m.length cap'] w fun e w' => e = .returned (.bool (decide (l = m))) ∧ Ext w w' := by
  by_cases hlen : l.length = m.length
  · have Hall : Hid ((∀ j, j < l.length → l.getD j [] = m.getD j []) → decide (l = m) = true) := hide (fun hall => decide_eq_true (alike_of hlen hall))
    have Hne : Hid (∀ j, l.getD j [] ≠ m.getD j [] → decide (l = m) = false) := hide (fun j hj => decide_eq_false (fun e => hj (by rw [e])))
    have Hl := hide h
    have Hm := hide h'
    have Hlen := hide hlen
    clear h h'
    generalize decide (l = m) = R at *
    rw [← hlen]
    clear hlen
    go_enter Tryz.func9, Tryz.ntmps9
    go_wp2
    go_loopw [5] (fun i wr => ∃ j : Nat, j ≤ l.length ∧ i = .int .i64 j ∧ Hid (∀ i, i < j → l.getD i [] = m.getD i []) ∧ ∃ n, wr = w.drewN n) (fun i _ => l.length - (intOf i).toNat)
    case atStart => exact ⟨0, Nat.zero_le _, rfl, hide (fun i hi => absurd hi (by omega)), 0, rfl⟩
    case round =>
      obtain ⟨j, hj, rfl, Hj, n, rfl⟩ := hrel
      by_cases hlt : j < l.length
      · obtain ⟨b, o, rfl, hb, hc⟩ := Hl.out.at_ hlt
        obtain ⟨b', o', rfl, hb', hc'⟩ := Hm.out.at_ (by rw [← Hlen.out]; exact hlt)
        have hlt' : (j : Int) < (l.length : Int) := by omega
        have hj0 : (0 : Int) ≤ (j : Int) := by omega
        generalize hy : l.getD j [] = y at hc
        generalize hz : m.getD j [] = z at hc'
        have Hy := hide hy
        have Hz := hide hz
        clear hy hz
        cases hs : (y == z)
        · have hs' : (y != z) = true := by simp [bne, hs]
          have hR := Hne.out j (by rw [Hy.out, Hz.out]; simpa using hs)
          subst hR
          go_wp2
          go_quiet (fail)
          go_wp2
          go_ret
          exact ⟨rfl, (by repeat (first | exact Ext.refl _ | exact Ext.pre (by simp) | exact Ext.alloc (by assumption) _ | refine Ext.alloc ?_ _ |  refine Ext.more ?_ _ _ | refine Ext.drew ?_ | refine Ext.drewN ?_ _))⟩
        · have hs' : (y != z) = false := by simp [bne, hs]
          go_wp2
          go_quiet (fail)
          go_wp2
          go_roundw
          case rel =>
            refine ⟨j + 1, hlt, by go_num, hide (fun i hi => ?_), _, rfl⟩
            by_cases hij : i = j
            · rw [hij, Hy.out, Hz.out]; simpa using hs
            · exact Hj.out i (by omega)
          case measure => simp [intOf]; omega
      · have hge : (l.length : Int) ≤ (j : Int) := by omega
        have hR := Hall.out (fun i hi => Hj.out i (by omega))
        subst hR
        go_wp2
        go_ret
        exact ⟨rfl, (by repeat (first | exact Ext.refl _ | exact Ext.pre (by simp) | exact Ext.alloc (by assumption) _ | refine Ext.alloc ?_ _ |  refine Ext.more ?_ _ _ | refine Ext.drew ?_ | refine Ext.drewN ?_ _))⟩
  · have hne : ((l.length : Int) != (m.length : Int)) = true := by rw [bne_iff_ne]; omega
    have hR : decide (l = m) = false := decide_eq_false (fun e => hlen (by rw [e]))
    rw [hR]
    clear h h' hR
    go_enter Tryz.func9, Tryz.ntmps9
    go_wp2
    go_ret
    exact ⟨rfl, (by repeat (first | exact Ext.refl _ | exact Ext.pre (by simp) | exact Ext.alloc (by assumption) _ | refine Ext.alloc ?_ _ |  refine Ext.more ?_ _ _ | refine Ext.drew ?_ | refine Ext.drewN ?_ _))⟩

end Go.Proofs.YtnbnhchgkbbiiaaGreat

/- Contracts: the names that some nodes bind, by the program and by the reference. -/
namespace Go.Proofs.YtnbnhchgkbbiiaaGreat
open Go.RowKit

theorem str_infoU : (Tryz.prog.info? 9).map (fun i => (i.zero, i.size, i.bytes)) = some (some (.string ⟨#[]⟩), 1, 16) := by kernel_rfl
theorem Strs.boxedU {w : World} {b : Nat} {t : TypeId} {fr : Nat × Nat} (x : Str) (h : w.heap[b]? = some (.cells #[encStr x] t fr)) : Row w (some ⟨b, 0, none⟩) 1 1 [encStr x] := by
  refine ⟨rfl, fun _ => ⟨b, 0, rfl, lt_of_obj h, fun j u hu => ?_⟩⟩
  match j with
  | 0 => simp at hu; subst hu; simp [World.cell?, h]
  | j + 1 => simp at hu
/-- Behind an append to what is one's own. -/
theorem Ext.appU {w a b : World} {base : Nat} {e : TypeId} {size n : Nat} {v : Value} {xs : List Value} (h : Ext w a) (hg : a.grownBy b v.ownBlock) (ho : a.ownsRow base e size v n xs) (hb : w.heap.size ≤ base) : Ext w b :=
  h.grown hg (fun k hk => Nat.le_trans hb (ho.lt k hk).1)

/-- The names of all bindings. -/
def bindsL (l : List Tree) : List Str := (l.filter fun t => t.kind == 31).map Tree.text
theorem bindsL_take (l : List Tree) {k : Nat} (h : k < l.length) : bindsL (l.take (k + 1)) = bindsL (l.take k) ++ if (l[k]'h).kind == 31 then [(l[k]'h).text] else [] := by
  unfold bindsL
  rw [List.take_succ_eq_append_getElem h, List.filter_append, List.map_append]
  congr 1
  cases hk : ((l[k]'h).kind == 31) <;> simp [hk]
theorem bindsL_len (l : List Tree) : (bindsL l).length ≤ l.length := by
  unfold bindsL
  rw [List.length_map]
  exact List.length_filter_le _ _

set_option maxRecDepth 10000 in
set_option maxHeartbeats 1000000 in
theorem u_binds (A : Option Addr) (cap : Nat) (l : List Tree) (w : World) (h : NodesIn w A l) (hl : l.length ≤ 100000) :
    Calls Tryz.prog 17 #[.slice A l.length cap] w fun e w' => (∃ A' cap', e = .returned (.slice A' (bindsL l).length cap') ∧ (bindsL l).length ≤ cap' ∧ cap' ≤ 9223372036854775807 ∧ Strs w' A' (bindsL l) ∧ ∀ c o, A' = some ⟨c, o, none⟩ → w.heap.size ≤ c) ∧ Ext w w' := by
  obtain ⟨i0, hi, hz0, hz1, hz2⟩ := info_parts str_infoU
  have HK := hide h
  have Htk := hide (fun k (hk : k < l.length) => bindsL_take l hk)
  have Hln := hide (fun k => bindsL_len (l.take k))
  have HR : Hid (bindsL (l.take l.length) = bindsL l) := hide (by rw [List.take_length])
  generalize bindsL l = R at *
  clear h
  go_enter Tryz.func17, Tryz.ntmps17
  go_wp2
  go_loopw [3, 8] (fun v i wr => ∃ k : Nat, k ≤ l.length ∧ i = .int .i64 k ∧ Hid (Ext w wr) ∧ Hid (wr.ownsRow w.heap.size 9 1 v (bindsL (l.take k)).length ((bindsL (l.take k)).map encStr))) (fun _ i _ => l.length - (intOf i).toNat)
  case atStart => exact ⟨0, Nat.zero_le _, rfl, hide (Ext.refl _), hide (World.ownsRow_nil _ _ _ _)⟩
  case round =>
    obtain ⟨k, hk, rfl, HX, HO⟩ := hrel
    by_cases hlt : k < l.length
    · have hlt' : (k : Int) < (l.length : Int) := by omega
      have hk0 : (0 : Int) ≤ (k : Int) := by omega
      obtain ⟨b, o, rfl, hb, q0, q1, q2, q3, q4⟩ := (HK.out.ext HX.out).at_ hlt
      have Hst := hide (Htk.out k hlt)
      have hol : (bindsL (l.take k)).length ≤ k := by have := Hln.out k; rw [List.length_take] at this; omega
      generalize bindsL (l.take k) = L at *
      generalize l[k]'hlt = c at *
      cases hc : (c.kind == 31)
      · rw [hc] at Hst
        go_wp2
        go_roundw
        case rel => exact ⟨k + 1, hlt, by go_num, hide (HX.out.alloc _), hide (by rw [Hst.out]; simpa using own_extB HO.out ((Ext.refl _).alloc _))⟩
        case measure => simp [intOf]; omega
      · rw [hc] at Hst
        go_wp2_with (at_builtin; refine wpList_append_row _ rfl _ _ 31 rfl w.heap.size 9 i0 _ 1 16 Tryz.underlying31 hi hz0 hz1 hz2 rfl (by decide) u3 L.length (L.map encStr) rfl (own_extB HO.out (((Ext.refl _).alloc _).alloc _)) _ 1 1 [encStr c.text] rfl ?c2 ?c3 ?c4 ?c5 ?c6 ?_)
        case c2 => exact Strs.boxedU _ (at_newB _ _ _ (by simp))
        case c3 => first | rfl | (intro y hy; simp at hy; subst hy; rfl)
        case c4 => unfold maxLen; omega
        case c5 => omega
        case c6 => have := HX.out.size; simp; omega
        intro v4 w4 hown4 hg4 _
        have X4 := hide (Ext.appU ((HX.out.alloc _).alloc _) hg4 (own_extB HO.out (((Ext.refl _).alloc _).alloc _)) (Nat.le_refl _))
        have O4 := hide hown4
        clear hown4 hg4
        go_wp2
        go_roundw
        case rel => exact ⟨k + 1, hlt, by go_num, X4, hide (by rw [Hst.out]; simpa using O4.out)⟩
        case measure => simp [intOf]; omega
    · have hge : ¬ (k : Int) < (l.length : Int) := by omega
      have hkl : k = l.length := by omega
      rw [hkl, HR.out] at HO
      obtain ⟨A5, c5, rfl, p1, p2, p3, p4⟩ := Strs.of_own HO.out
      have P3 := hide p3
      have P4 := hide p4
      clear p3 p4 hkl
      go_wp2
      go_ret
      exact ⟨⟨A5, c5, rfl, p1, p2, P3.out, fun c o e => (P4.out c o e).1⟩, HX.out⟩

set_option maxRecDepth 10000 in
set_option maxHeartbeats 1000000 in
theorem r_binds14 (A : Option Addr) (cap : Nat) (l : List Tree) (w : World) (h : NodesIn w A l) (hl : l.length ≤ 100000) :
    Calls Tryz.prog 39 #[.slice A l.length cap] w fun e w' => (∃ A' cap', e = .returned (.slice A' (bindsL l).length cap') ∧ (bindsL l).length ≤ cap' ∧ cap' ≤ 9223372036854775807 ∧ Strs w' A' (bindsL l) ∧ ∀ c o, A' = some ⟨c, o, none⟩ → w.heap.size ≤ c) ∧ Ext w w' := by
  obtain ⟨i0, hi, hz0, hz1, hz2⟩ := info_parts str_infoU
  have HK := hide h
  have Htk := hide (fun k (hk : k < l.length) => bindsL_take l hk)
  have Hln := hide (fun k => bindsL_len (l.take k))
  have HR : Hid (bindsL (l.take l.length) = bindsL l) := hide (by rw [List.take_length])
  generalize bindsL l = R at *
  clear h
  go_enter Tryz.func39, Tryz.ntmps39
  go_wp2
  go_loopw [3, 4] (fun v i wr => ∃ k : Nat, k ≤ l.length ∧ i = .int .i64 k ∧ Hid (Ext w wr) ∧ Hid (wr.ownsRow w.heap.size 9 1 v (bindsL (l.take k)).length ((bindsL (l.take k)).map encStr))) (fun _ i _ => l.length - (intOf i).toNat)
  case atStart => exact ⟨0, Nat.zero_le _, rfl, hide (Ext.refl _), hide (World.ownsRow_nil _ _ _ _)⟩
  case round =>
    obtain ⟨k, hk, rfl, HX, HO⟩ := hrel
    by_cases hlt : k < l.length
    · have hlt' : (k : Int) < (l.length : Int) := by omega
      have hk0 : (0 : Int) ≤ (k : Int) := by omega
      obtain ⟨b, o, rfl, hb, q0, q1, q2, q3, q4⟩ := (HK.out.ext HX.out).at_ hlt
      have Hst := hide (Htk.out k hlt)
      have hol : (bindsL (l.take k)).length ≤ k := by have := Hln.out k; rw [List.length_take] at this; omega
      generalize bindsL (l.take k) = L at *
      generalize l[k]'hlt = c at *
      cases hc : (c.kind == 31)
      · rw [hc] at Hst
        go_wp2
        go_roundw
        case rel => exact ⟨k + 1, hlt, by go_num, HX, hide (by rw [Hst.out]; simpa using HO.out)⟩
        case measure => simp [intOf]; omega
      · rw [hc] at Hst
        go_wp2_with (at_builtin; refine wpList_append_row _ rfl _ _ 31 rfl w.heap.size 9 i0 _ 1 16 Tryz.underlying31 hi hz0 hz1 hz2 rfl (by decide) u3 L.length (L.map encStr) rfl (own_extB HO.out ((Ext.refl _).alloc _)) _ 1 1 [encStr c.text] rfl ?c2 ?c3 ?c4 ?c5 ?c6 ?_)
        case c2 => exact Strs.boxedU _ (at_newB _ _ _ (by simp))
        case c3 => first | rfl | (intro y hy; simp at hy; subst hy; rfl)
        case c4 => unfold maxLen; omega
        case c5 => omega
        case c6 => have := HX.out.size; simp; omega
        intro v4 w4 hown4 hg4 _
        have X4 := hide (Ext.appU (HX.out.alloc _) hg4 (own_extB HO.out ((Ext.refl _).alloc _)) (Nat.le_refl _))
        have O4 := hide hown4
        clear hown4 hg4
        go_wp2
        go_roundw
        case rel => exact ⟨k + 1, hlt, by go_num, X4, hide (by rw [Hst.out]; simpa using O4.out)⟩
        case measure => simp [intOf]; omega
    · have hge : ¬ (k : Int) < (l.length : Int) := by omega
      have hkl : k = l.length := by omega
      rw [hkl, HR.out] at HO
      obtain ⟨A5, c5, rfl, p1, p2, p3, p4⟩ := Strs.of_own HO.out
      have P3 := hide p3
      have P4 := hide p4
      clear p3 p4 hkl
      go_wp2
      go_ret
      exact ⟨⟨A5, c5, rfl, p1, p2, P3.out, fun c o e => (P4.out c o e).1⟩, HX.out⟩

end Go.Proofs.YtnbnhchgkbbiiaaGreat
