/- Contracts on nodes: whether one has no text and no number, a name; whether all nodes of a list are so. -/
import Derived.Test.YtnbnhchgkbbiiaaRes
import Derived.Test.YtnbnhchgkbbiiaaCnt
namespace Go.Proofs.Ytnbnhchgkbbiiaa
open Go.RowKit

/-- Function number `f` tells of a node whether `p` holds. -/
def Asks (f : FuncId) (p : Tree → Bool) (t : Tree) : Prop := ∀ w, NodeIn w t → Calls Try.prog f #[treeV t] w fun e w' => e = .returned (.bool (p t)) ∧ Ext w w'
/-- Function number `f` tells of a text whether `p` holds. -/
def AsksS (f : FuncId) (p : Str → Bool) : Prop := ∀ (s : Str) (w : World), s.length ≤ 9223372036854775807 → Calls Try.prog f #[encStr s] w fun e w' => e = .returned (.bool (p s)) ∧ w' = w
/-- It may be entered. -/
def Opens (f : FuncId) : Prop := ∀ args w, (callFunc f args).run Try.prog w = .ok (.enter f args) w
abbrev nodeCells (t : Tree) : Obj := .cells #[.int .i64 t.kind, .int .i64 t.pos, .int .i64 t.n, encStr t.text, .slice t.A t.kids.length t.cap] 54
theorem NBox.new (w : World) (t : Tree) : NBox (w.alloc (.cells #[.int .i64 t.kind, .int .i64 t.pos, .int .i64 t.n, encStr t.text, .slice t.A t.kids.length t.cap] 54)) w.heap.size t := at_newB _ _ _ rfl

def bareB (t : Tree) : Bool := (t.text == []) && t.n == 0
def namedB (p : Str → Bool) (t : Tree) : Bool := (t.n == 0) && p t.text

theorem n_bare (t : Tree) : Asks 69 bareB t := by
  intro w h
  have HR : Hid (bareB t = ((t.text == []) && t.n == 0)) := hide rfl
  generalize bareB t = R at *
  unfold treeV
  cases hs : (t.text == [])
  · go_enter Try.func69, Try.ntmps69
    go_wp2
    go_ret
    exact ⟨by rw [HR.out, hs]; rfl, (by repeat (first | exact Ext.refl _ | exact Ext.pre (by simp) | exact Ext.alloc (by assumption) _ | refine Ext.alloc ?_ _ |  refine Ext.more ?_ _ _ | refine Ext.drew ?_ | refine Ext.drewN ?_ _))⟩
  · have hs2 : t.text = [] := eq_of_beq hs
    by_cases hn : t.n = 0
    · go_enter Try.func69, Try.ntmps69
      go_wp2
      go_ret
      exact ⟨by rw [HR.out, hs]; simp [hn], (by repeat (first | exact Ext.refl _ | exact Ext.pre (by simp) | exact Ext.alloc (by assumption) _ | refine Ext.alloc ?_ _ |  refine Ext.more ?_ _ _ | refine Ext.drew ?_ | refine Ext.drewN ?_ _))⟩
    · go_enter Try.func69, Try.ntmps69
      go_wp2
      go_ret
      exact ⟨by rw [HR.out, hs]; simp, (by repeat (first | exact Ext.refl _ | exact Ext.pre (by simp) | exact Ext.alloc (by assumption) _ | refine Ext.alloc ?_ _ |  refine Ext.more ?_ _ _ | refine Ext.drew ?_ | refine Ext.drewN ?_ _))⟩

theorem n_named (f : FuncId) (p : Str → Bool) (hf : AsksS f p) (eg : Opens f) (t : Tree) (w : World) (h : NodeIn w t) :
    Calls Try.prog 66 #[treeV t, .func (.func f) #[] #[]] w fun e w' => e = .returned (.bool (namedB p t)) ∧ Ext w w' := by
  have HR : Hid (namedB p t = ((t.n == 0) && p t.text)) := hide rfl
  have HF := hide (fun w' => hf t.text w' h.txt)
  unfold Opens at eg
  generalize namedB p t = R at *
  clear hf
  unfold treeV
  by_cases hn : t.n = 0
  · generalize p t.text = B at *
    go_enter Try.func66, Try.ntmps66
    go_wp2_with fail
    refine (HF.out _).mono ?_
    rintro e w1 ⟨rfl, rfl⟩
    go_wp2
    go_ret
    exact ⟨by rw [HR.out]; simp [hn], (by repeat (first | exact Ext.refl _ | exact Ext.pre (by simp) | exact Ext.alloc (by assumption) _ | refine Ext.alloc ?_ _ |  refine Ext.more ?_ _ _ | refine Ext.drew ?_ | refine Ext.drewN ?_ _))⟩
  · go_enter Try.func66, Try.ntmps66
    go_wp2
    go_ret
    exact ⟨by rw [HR.out]; simp [hn], (by repeat (first | exact Ext.refl _ | exact Ext.pre (by simp) | exact Ext.alloc (by assumption) _ | refine Ext.alloc ?_ _ |  refine Ext.more ?_ _ _ | refine Ext.drew ?_ | refine Ext.drewN ?_ _))⟩

set_option maxRecDepth 10000 in
set_option maxHeartbeats 1000000 in
theorem n_each (f : FuncId) (p : Tree → Bool) (eg : Opens f) (A : Option Addr) (cap : Nat) (l : List Tree) (w : World) (h : NodesIn w A l) (hle : l.length ≤ 9223372036854775807) (hf : ∀ k ∈ l, Asks f p k) :
    Calls Try.prog 70 #[.slice A l.length cap, .func (.func f) #[] #[]] w fun e w' => e = .returned (.bool (l.all p)) ∧ Ext w w' := by
  have HK := hide h
  have HF := hide hf
  have HR : Hid ((l.drop 0).all p = l.all p) := hide rfl
  generalize l.all p = R at *
  unfold Opens at eg
  clear h hf
  go_enter Try.func70, Try.ntmps70
  go_wp2
  go_loopw [9] (fun i wr => ∃ k : Nat, k ≤ l.length ∧ i = .int .i64 k ∧ Hid (Ext w wr) ∧ Hid ((l.drop k).all p = R)) (fun i _ => l.length - (intOf i).toNat)
  case atStart => exact ⟨0, Nat.zero_le _, rfl, hide (Ext.refl _), HR⟩
  case round =>
    obtain ⟨k, hk, rfl, HX, HD⟩ := hrel
    by_cases hlt : k < l.length
    · have hlt' : (k : Int) < (l.length : Int) := by omega
      have hk0 : (0 : Int) ≤ (k : Int) := by omega
      obtain ⟨b, o, rfl, hb, q0, q1, q2, q3, q4⟩ := (HK.out.ext HX.out).at_ hlt
      have HC := hide (HF.out _ (List.getElem_mem hlt) (wr.alloc (.cells #[.int .i64 (l[k]'hlt).kind, .int .i64 (l[k]'hlt).pos, .int .i64 (l[k]'hlt).n, encStr (l[k]'hlt).text, .slice (l[k]'hlt).A (l[k]'hlt).kids.length (l[k]'hlt).cap] 54)) ((HK.out.kids _ (List.getElem_mem hlt)).ext (HX.out.alloc _)))
      have HD2 : Hid ((p (l[k]'hlt) && (l.drop (k + 1)).all p) = R) := hide (by have := HD.out; rwa [List.drop_eq_getElem_cons hlt] at this)
      have HX2 : Hid (Ext w (wr.alloc (.cells #[.int .i64 (l[k]'hlt).kind, .int .i64 (l[k]'hlt).pos, .int .i64 (l[k]'hlt).n, encStr (l[k]'hlt).text, .slice (l[k]'hlt).A (l[k]'hlt).kids.length (l[k]'hlt).cap] 54))) := hide (HX.out.alloc _)
      generalize l[k]'hlt = c at *
      cases hp : p c
      · rw [hp] at HD2 HC
        have hR : R = false := HD2.out.symm
        clear HD HD2 HR
        subst hR
        go_wp2_with fail
        refine HC.out.mono ?_
        rintro e w3 ⟨rfl, hx3⟩
        go_wp2
        go_ret
        exact ⟨rfl, HX2.out.trans hx3⟩
      · rw [hp] at HD2 HC
        have HD3 : Hid ((l.drop (k + 1)).all p = R) := hide (by simpa using HD2.out)
        go_wp2_with fail
        refine HC.out.mono ?_
        rintro e w3 ⟨rfl, hx3⟩
        have X3 := hide (HX2.out.trans hx3)
        clear hx3
        go_wp2
        go_roundw
        case rel => exact ⟨k + 1, hlt, by go_num, X3, HD3⟩
        case measure => simp [intOf]; omega
    · have hge : ¬ (k : Int) < (l.length : Int) := by omega
      have hR : R = true := by have := HD.out; rw [List.drop_eq_nil_of_le (by omega)] at this; exact this.symm
      clear HD HR
      subst hR
      go_wp2
      go_ret
      exact ⟨rfl, HX.out⟩

end Go.Proofs.Ytnbnhchgkbbiiaa
