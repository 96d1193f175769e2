/- Contract: whether the reference takes a text for a reserved one. -/
import Derived.Test.YtnbnhchgkbbiiaaGreatJUsesUses16
/- Contract: whether the reference takes a text for a reserved one. -/
namespace Go.Proofs.YtnbnhchgkbbiiaaGreat
open Go.RowKit

set_option maxRecDepth 10000 in
set_option maxHeartbeats 2000000 in
theorem r_reserved03 (s : Str) (w : World) : Calls Tryz.prog 80 #[encStr s] w fun e w' => e = .returned (.bool (resB s)) ∧ w' = w := by
  have HR : Hid (resW.any (· == s) = resB s) := hide rfl
  generalize resB s = R at *
  cases h0 : (s == ([100, 97, 116, 97] : Str))
  case true =>
    have hs := eq_of_beq h0
    have hR : R = true := by rw [← HR.out, hs]; rfl
    clear HR h0
    subst hR hs
    go_enter Tryz.func80, Tryz.ntmps80
    go_wp2
    go_ret
    exact ⟨rfl, rfl⟩
  cases h1 : (s == ([99, 108, 97, 115, 115] : Str))
  case true =>
    have hs := eq_of_beq h1
    have hR : R = true := by rw [← HR.out, hs]; rfl
    clear HR h1
    clear h0
    subst hR hs
    go_enter Tryz.func80, Tryz.ntmps80
    go_wp2
    go_ret
    exact ⟨rfl, rfl⟩
  cases h2 : (s == ([105, 110, 115, 116, 97, 110, 99, 101] : Str))
  case true =>
    have hs := eq_of_beq h2
    have hR : R = true := by rw [← HR.out, hs]; rfl
    clear HR h2
    clear h0
    clear h1
    subst hR hs
    go_enter Tryz.func80, Tryz.ntmps80
    go_wp2
    go_ret
    exact ⟨rfl, rfl⟩
  cases h3 : (s == ([119, 104, 101, 114, 101] : Str))
  case true =>
    have hs := eq_of_beq h3
    have hR : R = true := by rw [← HR.out, hs]; rfl
    clear HR h3
    clear h0
    clear h1
    clear h2
    subst hR hs
    go_enter Tryz.func80, Tryz.ntmps80
    go_wp2
    go_ret
    exact ⟨rfl, rfl⟩
  cases h4 : (s == ([108, 101, 116] : Str))
  case true =>
    have hs := eq_of_beq h4
    have hR : R = true := by rw [← HR.out, hs]; rfl
    clear HR h4
    clear h0
    clear h1
    clear h2
    clear h3
    subst hR hs
    go_enter Tryz.func80, Tryz.ntmps80
    go_wp2
    go_ret
    exact ⟨rfl, rfl⟩
  cases h5 : (s == ([105, 110] : Str))
  case true =>
    have hs := eq_of_beq h5
    have hR : R = true := by rw [← HR.out, hs]; rfl
    clear HR h5
    clear h0
    clear h1
    clear h2
    clear h3
    clear h4
    subst hR hs
    go_enter Tryz.func80, Tryz.ntmps80
    go_wp2
    go_ret
    exact ⟨rfl, rfl⟩
  cases h6 : (s == ([99, 97, 115, 101] : Str))
  case true =>
    have hs := eq_of_beq h6
    have hR : R = true := by rw [← HR.out, hs]; rfl
    clear HR h6
    clear h0
    clear h1
    clear h2
    clear h3
    clear h4
    clear h5
    subst hR hs
    go_enter Tryz.func80, Tryz.ntmps80
    go_wp2
    go_ret
    exact ⟨rfl, rfl⟩
  cases h7 : (s == ([111, 102] : Str))
  case true =>
    have hs := eq_of_beq h7
    have hR : R = true := by rw [← HR.out, hs]; rfl
    clear HR h7
    clear h0
    clear h1
    clear h2
    clear h3
    clear h4
    clear h5
    clear h6
    subst hR hs
    go_enter Tryz.func80, Tryz.ntmps80
    go_wp2
    go_ret
    exact ⟨rfl, rfl⟩
  cases h8 : (s == ([105, 102] : Str))
  case true =>
    have hs := eq_of_beq h8
    have hR : R = true := by rw [← HR.out, hs]; rfl
    clear HR h8
    clear h0
    clear h1
    clear h2
    clear h3
    clear h4
    clear h5
    clear h6
    clear h7
    subst hR hs
    go_enter Tryz.func80, Tryz.ntmps80
    go_wp2
    go_ret
    exact ⟨rfl, rfl⟩
  cases h9 : (s == ([116, 104, 101, 110] : Str))
  case true =>
    have hs := eq_of_beq h9
    have hR : R = true := by rw [← HR.out, hs]; rfl
    clear HR h9
    clear h0
    clear h1
    clear h2
    clear h3
    clear h4
    clear h5
    clear h6
    clear h7
    clear h8
    subst hR hs
    go_enter Tryz.func80, Tryz.ntmps80
    go_wp2
    go_ret
    exact ⟨rfl, rfl⟩
  cases h10 : (s == ([101, 108, 115, 101] : Str))
  case true =>
    have hs := eq_of_beq h10
    have hR : R = true := by rw [← HR.out, hs]; rfl
    clear HR h10
    clear h0
    clear h1
    clear h2
    clear h3
    clear h4
    clear h5
    clear h6
    clear h7
    clear h8
    clear h9
    subst hR hs
    go_enter Tryz.func80, Tryz.ntmps80
    go_wp2
    go_ret
    exact ⟨rfl, rfl⟩
  have hR : R = false := by
    rw [← HR.out, List.any_eq_false]
    intro y hy
    simp only [resW, List.mem_cons, List.not_mem_nil, or_false] at hy
    rcases hy with rfl | rfl | rfl | rfl | rfl | rfl | rfl | rfl | rfl | rfl | rfl <;> simp only [beq_iff_eq, beq_eq_false_iff_ne] at * <;> exact fun e => by simp_all
  clear HR
  subst hR
  go_enter Tryz.func80, Tryz.ntmps80
  go_wp2
  go_ret
  exact ⟨rfl, rfl⟩

theorem goes_on {b : UInt8} {s : Str} (h : onI (b.toNat : Nat) = true) : goesB (b :: s) = onB (b :: s) := by
  unfold goesB onB
  rw [List.all_cons, h]
  rfl
theorem con_eq (b : UInt8) (s : Str) : conB (b :: s) = (greatI (b.toNat : Nat) && onB (b :: s)) := by
  have e : conB (b :: s) = (greatI (b.toNat : Nat) && goesB (b :: s)) := rfl
  rw [e]
  cases h : greatI (b.toNat : Nat)
  · rfl
  · rw [goes_on (by unfold onI; rw [h]; simp)]
theorem var_eq (b : UInt8) (s : Str) (h95 : (b :: s) ≠ [95]) : varB (b :: s) = (smallI (b.toNat : Nat) && onB (b :: s) && !resB (b :: s)) := by
  have e1 : ((b :: s) == ([] : Str)) = false := rfl
  have e2 : ((b :: s) == ([95] : Str)) = false := by simpa using h95
  have e : varB (b :: s) = (!((b :: s) == ([] : Str)) && !((b :: s) == ([95] : Str)) && smallI (b.toNat : Nat) && goesB (b :: s) && !resB (b :: s)) := rfl
  rw [e, e1, e2]
  cases h : smallI (b.toNat : Nat)
  · rfl
  · rw [goes_on (by unfold onI; rw [h]; rfl)]; rfl

set_option maxRecDepth 10000 in
set_option maxHeartbeats 1000000 in
theorem r_con03 (s : Str) (w : World) (hl : s.length ≤ 9223372036854775807) : Calls Tryz.prog 60 #[encStr s] w fun e w' => e = .returned (.bool (conB s)) ∧ w' = w := by
  cases s with
  | nil =>
    go_enter Tryz.func60, Tryz.ntmps60
    go_wp2
    go_ret
    exact ⟨rfl, rfl⟩
  | cons b s =>
    have HC : Hid (conB (b :: s) = (greatI (b.toNat : Nat) && onB (b :: s))) := hide (con_eq b s)
    have HG := hide (fun w' => r_great03 (b.toNat : Nat) w')
    have HO := hide (fun w' => r_on03 (b :: s) w' hl (by simp))
    generalize conB (b :: s) = R at *
    generalize greatI (b.toNat : Nat) = B1 at *
    generalize onB (b :: s) = B2 at *
    cases B1
    · have hR : R = false := by rw [HC.out]; rfl
      clear HC
      subst hR
      go_enter Tryz.func60, Tryz.ntmps60
      go_wp2_with fail
      refine (HG.out _).mono ?_
      rintro e w1 ⟨rfl, rfl⟩
      go_wp2
      go_ret
      exact ⟨rfl, rfl⟩
    · have hR : R = B2 := by rw [HC.out]; rfl
      clear HC
      subst hR
      go_enter Tryz.func60, Tryz.ntmps60
      go_wp2_with fail
      refine (HG.out _).mono ?_
      rintro e w1 ⟨rfl, rfl⟩
      go_wp2_with fail
      refine (HO.out _).mono ?_
      rintro e w1 ⟨rfl, rfl⟩
      go_wp2
      go_ret
      exact ⟨rfl, rfl⟩

set_option maxRecDepth 10000 in
set_option maxHeartbeats 1000000 in
theorem r_var03 (s : Str) (w : World) (hl : s.length ≤ 9223372036854775807) : Calls Tryz.prog 58 #[encStr s] w fun e w' => e = .returned (.bool (varB s)) ∧ w' = w := by
  cases s with
  | nil =>
    go_enter Tryz.func58, Tryz.ntmps58
    go_wp2
    go_ret
    exact ⟨rfl, rfl⟩
  | cons b s =>
    by_cases h95 : (b :: s) = [95]
    · rw [h95]
      clear hl h95
      go_enter Tryz.func58, Tryz.ntmps58
      go_wp2
      go_ret
      exact ⟨rfl, rfl⟩
    · have HC : Hid (varB (b :: s) = (smallI (b.toNat : Nat) && onB (b :: s) && !resB (b :: s))) := hide (var_eq b s h95)
      have HG := hide (fun w' => r_small03 (b.toNat : Nat) w')
      have HO := hide (fun w' => r_on03 (b :: s) w' hl (by simp))
      have HV := hide (fun w' => r_reserved03 (b :: s) w')
      have hne : ¬b = 95 ∨ ¬s = [] := by
        rcases Classical.em (b = 95) with rfl | h
        · exact .inr (fun e => h95 (by rw [e]))
        · exact .inl h
      have hq : (!b == 95 || !s.isEmpty) = true := by
        rcases hne with h | h
        · simp [h]
        · cases s with
          | nil => exact absurd rfl h
          | cons c s => simp
      have Hq := hide hq
      clear h95 hq
      generalize varB (b :: s) = R at *
      generalize smallI (b.toNat : Nat) = B1 at *
      generalize onB (b :: s) = B2 at *
      generalize resB (b :: s) = B3 at *
      cases B1
      · have hR : R = false := by rw [HC.out]; rfl
        clear HC
        subst hR
        go_enter Tryz.func58, Tryz.ntmps58
        go_wp2_with fail
        refine (HG.out _).mono ?_
        rintro e w1 ⟨rfl, rfl⟩
        go_wp2
        go_ret
        exact ⟨rfl, rfl⟩
      · cases B2
        · have hR : R = false := by rw [HC.out]; rfl
          clear HC
          subst hR
          go_enter Tryz.func58, Tryz.ntmps58
          go_wp2_with fail
          refine (HG.out _).mono ?_
          rintro e w1 ⟨rfl, rfl⟩
          go_wp2_with fail
          refine (HO.out _).mono ?_
          rintro e w1 ⟨rfl, rfl⟩
          go_wp2
          go_ret
          exact ⟨rfl, rfl⟩
        · have hR : R = !B3 := by rw [HC.out]; rfl
          clear HC
          subst hR
          go_enter Tryz.func58, Tryz.ntmps58
          go_wp2_with fail
          refine (HG.out _).mono ?_
          rintro e w1 ⟨rfl, rfl⟩
          go_wp2_with fail
          refine (HO.out _).mono ?_
          rintro e w1 ⟨rfl, rfl⟩
          go_wp2_with fail
          refine (HV.out _).mono ?_
          rintro e w1 ⟨rfl, rfl⟩
          go_wp2
          go_ret
          refine ⟨?_, rfl⟩
          show Ending.returned (Value.bool ((!b == 95 || !s.isEmpty) && !B3)) = _
          rw [Hq.out, Bool.true_and]

end Go.Proofs.YtnbnhchgkbbiiaaGreat

/- Contracts on the reference's nodes: lists of types, of predicates. (A program of ours has printed them.) -/
namespace Go.Proofs.YtnbnhchgkbbiiaaGreat
open Go.RowKit

/-- No number, so many kids? -/
def plainB (k : Int) (t : Tree) : Bool := (t.n == 0) && ((t.kids.length : Int) == k)
set_option maxHeartbeats 1000000 in
theorem r_plain (k : Int) (t : Tree) (w : World) (h : NodeIn w t) : Calls Tryz.prog 59 #[treeV t, .int .i64 k] w fun e w' => e = .returned (.bool (plainB k t)) ∧ Ext w w' := by
  have HR : Hid (plainB k t = ((t.n == 0) && ((t.kids.length : Int) == k))) := hide rfl
  have hle := h.le
  have hmx := h.max
  generalize plainB k t = R at *
  clear h
  unfold treeV
  cases hn : (t.n == 0)
  · have hR : R = false := by rw [HR.out, hn]; rfl
    clear HR
    subst hR
    go_enter Tryz.func59, Tryz.ntmps59
    go_wp2
    go_ret
    exact ⟨rfl, (by repeat (first | exact Ext.refl _ | exact Ext.pre (by simp) | exact Ext.alloc (by assumption) _ | refine Ext.alloc ?_ _ |  refine Ext.more ?_ _ _ | refine Ext.drew ?_ | refine Ext.drewN ?_ _))⟩
  · have hR : R = ((t.kids.length : Int) == k) := by rw [HR.out, hn]; rfl
    clear HR
    subst hR
    go_enter Tryz.func59, Tryz.ntmps59
    go_wp2
    go_ret
    exact ⟨rfl, (by repeat (first | exact Ext.refl _ | exact Ext.pre (by simp) | exact Ext.alloc (by assumption) _ | refine Ext.alloc ?_ _ |  refine Ext.more ?_ _ _ | refine Ext.drew ?_ | refine Ext.drewN ?_ _))⟩

theorem plain_len (k : Nat) (t : Tree) : plainB k t = ((t.n == 0) && decide (t.kids.length = k)) := by
  unfold plainB
  congr 1
  rw [Bool.eq_iff_iff, beq_iff_eq, decide_eq_true_eq]
  omega
theorem var0 (t : Tree) : (namedB varB t && decide (t.kids.length = 0)) = (varB t.text && plainB 0 t) := by
  rw [show plainB 0 t = _ from plain_len 0 t]; unfold namedB; cases (t.n == 0) <;> cases varB t.text <;> rfl
theorem con0 (t : Tree) : (namedB conB t && decide (t.kids.length = 0)) = (conB t.text && plainB 0 t) := by
  rw [show plainB 0 t = _ from plain_len 0 t]; unfold namedB; cases (t.n == 0) <;> cases conB t.text <;> rfl
theorem var1 (t : Tree) : (namedB varB t && decide (t.kids.length = 1)) = (varB t.text && plainB 1 t) := by
  rw [show plainB 1 t = _ from plain_len 1 t]; unfold namedB; cases (t.n == 0) <;> cases varB t.text <;> rfl
theorem con1 (t : Tree) : (namedB conB t && decide (t.kids.length = 1)) = (conB t.text && plainB 1 t) := by
  rw [show plainB 1 t = _ from plain_len 1 t]; unfold namedB; cases (t.n == 0) <;> cases conB t.text <;> rfl
theorem bareP (k : Nat) (t : Tree) : (bareB t && decide (t.kids.length = k)) = ((t.text == []) && plainB k t) := by
  rw [plain_len]; unfold bareB; cases (t.n == 0) <;> cases (t.text == []) <;> rfl

set_option maxRecDepth 10000 in
set_option maxHeartbeats 1000000 in
theorem r_types (A : Option Addr) (cap : Nat) (l : List Tree) (w : World) (h : NodesIn w A l) (hle : l.length ≤ 9223372036854775807) (hf : ∀ k ∈ l, Asks 106 typeB k) :
    Calls Tryz.prog 114 #[.slice A l.length cap] w fun e w' => e = .returned (.bool (l.all typeB)) ∧ Ext w w' := by
  have HK := hide h
  have HF := hide hf
  have HR : Hid ((l.drop 0).all typeB = l.all typeB) := hide rfl
  generalize l.all typeB = R at *
  clear h hf
  go_enter Tryz.func114, Tryz.ntmps114
  go_wp2
  go_loopw [3] (fun i wr => ∃ k : Nat, k ≤ l.length ∧ i = .int .i64 k ∧ Hid (Ext w wr) ∧ Hid ((l.drop k).all typeB = R)) (fun i _ => l.length - (intOf i).toNat)
  case atStart => exact ⟨0, Nat.zero_le _, rfl, hide (Ext.refl _), HR⟩
  case round =>
    obtain ⟨k, hk, rfl, HX, HD⟩ := hrel
    by_cases hlt : k < l.length
    · have hlt' : (k : Int) < (l.length : Int) := by omega
      have hk0 : (0 : Int) ≤ (k : Int) := by omega
      obtain ⟨b, o, rfl, hb, q0, q1, q2, q3, q4⟩ := (HK.out.ext HX.out).at_ hlt
      have HC := hide (HF.out _ (List.getElem_mem hlt) wr ((HK.out.kids _ (List.getElem_mem hlt)).ext HX.out))
      have HD2 : Hid ((typeB (l[k]'hlt) && (l.drop (k + 1)).all typeB) = R) := hide (by have := HD.out; rwa [List.drop_eq_getElem_cons hlt] at this)
      generalize l[k]'hlt = c at *
      cases hp : typeB c
      · rw [hp] at HD2 HC
        have hR : R = false := HD2.out.symm
        clear HD HD2 HR
        subst hR
        go_wp2_with fail
        refine HC.out.mono ?_
        rintro e w3 ⟨rfl, hx3⟩
        go_wp2
        go_ret
        exact ⟨rfl, HX.out.trans hx3⟩
      · rw [hp] at HD2 HC
        have HD3 : Hid ((l.drop (k + 1)).all typeB = R) := hide (by simpa using HD2.out)
        go_wp2_with fail
        refine HC.out.mono ?_
        rintro e w3 ⟨rfl, hx3⟩
        have X3 := hide (HX.out.trans hx3)
        clear hx3
        go_wp2
        go_roundw
        case rel => exact ⟨k + 1, hlt, by go_num, X3, HD3⟩
        case measure => simp [intOf]; omega
    · have hge : ¬ (k : Int) < (l.length : Int) := by omega
      have hR : R = true := by have := HD.out; rw [List.drop_eq_nil_of_le (by omega)] at this; exact this.symm
      clear HD HR
      subst hR
      go_wp2
      go_ret
      exact ⟨rfl, HX.out⟩

set_option maxRecDepth 10000 in
set_option maxHeartbeats 1000000 in
theorem r_preds (A : Option Addr) (cap : Nat) (l : List Tree) (w : World) (h : NodesIn w A l) (hle : l.length ≤ 9223372036854775807) (hf : ∀ k ∈ l, Asks 113 predB k) :
    Calls Tryz.prog 105 #[.slice A l.length cap] w fun e w' => e = .returned (.bool (l.all predB)) ∧ Ext w w' := by
  have HK := hide h
  have HF := hide hf
  have HR : Hid ((l.drop 0).all predB = l.all predB) := hide rfl
  generalize l.all predB = R at *
  clear h hf
  go_enter Tryz.func105, Tryz.ntmps105
  go_wp2
  go_loopw [3] (fun i wr => ∃ k : Nat, k ≤ l.length ∧ i = .int .i64 k ∧ Hid (Ext w wr) ∧ Hid ((l.drop k).all predB = R)) (fun i _ => l.length - (intOf i).toNat)
  case atStart => exact ⟨0, Nat.zero_le _, rfl, hide (Ext.refl _), HR⟩
  case round =>
    obtain ⟨k, hk, rfl, HX, HD⟩ := hrel
    by_cases hlt : k < l.length
    · have hlt' : (k : Int) < (l.length : Int) := by omega
      have hk0 : (0 : Int) ≤ (k : Int) := by omega
      obtain ⟨b, o, rfl, hb, q0, q1, q2, q3, q4⟩ := (HK.out.ext HX.out).at_ hlt
      have HC := hide (HF.out _ (List.getElem_mem hlt) wr ((HK.out.kids _ (List.getElem_mem hlt)).ext HX.out))
      have HD2 : Hid ((predB (l[k]'hlt) && (l.drop (k + 1)).all predB) = R) := hide (by have := HD.out; rwa [List.drop_eq_getElem_cons hlt] at this)
      generalize l[k]'hlt = c at *
      cases hp : predB c
      · rw [hp] at HD2 HC
        have hR : R = false := HD2.out.symm
        clear HD HD2 HR
        subst hR
        go_wp2_with fail
        refine HC.out.mono ?_
        rintro e w3 ⟨rfl, hx3⟩
        go_wp2
        go_ret
        exact ⟨rfl, HX.out.trans hx3⟩
      · rw [hp] at HD2 HC
        have HD3 : Hid ((l.drop (k + 1)).all predB = R) := hide (by simpa using HD2.out)
        go_wp2_with fail
        refine HC.out.mono ?_
        rintro e w3 ⟨rfl, hx3⟩
        have X3 := hide (HX.out.trans hx3)
        clear hx3
        go_wp2
        go_roundw
        case rel => exact ⟨k + 1, hlt, by go_num, X3, HD3⟩
        case measure => simp [intOf]; omega
    · have hge : ¬ (k : Int) < (l.length : Int) := by omega
      have hR : R = true := by have := HD.out; rw [List.drop_eq_nil_of_le (by omega)] at this; exact this.symm
      clear HD HR
      subst hR
      go_wp2
      go_ret
      exact ⟨rfl, HX.out⟩

end Go.Proofs.YtnbnhchgkbbiiaaGreat
