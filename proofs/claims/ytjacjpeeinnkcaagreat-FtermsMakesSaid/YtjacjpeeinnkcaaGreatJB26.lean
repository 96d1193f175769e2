/- Contracts of Go's package slices on rows of types, and of terms: whether one is there. -/
import Derived.Test.YtjacjpeeinnkcaaGreatJB25
import Derived.Shelf.Abstract
import Derived.WalkSpells
import Derived.WalkLawsBesides
import Derived.Deep.DeepCutAuto
/- Contracts of Go's package slices on rows of types, and of terms: whether one is there. -/
namespace Go.Proofs.YtjacjpeeinnkcaaGreat
open Go.RowKit Go.Shelf

set_option maxRecDepth 10000 in
set_option maxHeartbeats 2000000 in
theorem index_ft (f : FuncId) (lb : Array Value) (ef : Opens f) (p : Ty → Bool) (A : Option Addr) (cap : Nat) (l : List Ty) (w : World) (h : TysIn w A l) (hl : l.length ≤ 1000000) (hp : ∀ w', Ext w w' → ∀ x ∈ l, Calls Tryz.prog f (#[tyV x] ++ lb) w' fun e w'' => e = .returned (.bool (p x)) ∧ Ext w' w'') :
    Calls Tryz.prog 263 #[.slice A l.length cap, .func (.func f) #[] lb] w fun e w' => (∃ i : Int, e = .returned (.int .i64 i) ∧ (0 ≤ i ↔ l.any p = true)) ∧ Ext w w' := by
  have HL := hide h
  have HP := hide hp
  unfold Opens at ef
  clear h hp
  obtain ⟨R, hR⟩ : ∃ R, R = l.any p := ⟨_, rfl⟩
  have HR := hide hR
  rw [← hR]
  clear hR
  go_enter Tryz.func263, Tryz.ntmps263
  go_wp2
  go_loopw [8] (fun i wr => ∃ k : Nat, k ≤ l.length ∧ i = .int .i64 k ∧ Hid ((l.take k).any p = false) ∧ Hid (Ext w wr)) (fun i _ => l.length - (intOf i).toNat)
  case atStart => exact ⟨0, Nat.zero_le _, rfl, hide (by simp), hide (Ext.refl _)⟩
  case round =>
    obtain ⟨k, hk, rfl, HA, HX⟩ := hrel
    by_cases hlt : k < l.length
    · have hlt' : (k : Int) < (l.length : Int) := by omega
      have hk0 : (0 : Int) ≤ (k : Int) := by omega
      obtain ⟨b, o, rfl, hb, q0, q1, q2⟩ := (HL.out.ext HX.out).at_ hlt
      have hm := List.getElem_mem hlt
      have HC := hide (HP.out wr HX.out _ hm)
      have Htk : Hid (l.take (k + 1) = l.take k ++ [l[k]'hlt]) := hide (List.take_succ_eq_append_getElem hlt)
      have Hm := hide hm
      clear hm
      unfold tyV at HC
      generalize l[k]'hlt = x at *
      cases hb : p x
      · rw [hb] at HC
        have Hb := hide hb
        clear hb
        go_wp2_with fail
        refine HC.out.mono ?_
        rintro e w3 ⟨rfl, hx⟩
        have X3 := hide (HX.out.trans hx)
        clear hx
        go_wp2
        go_roundw
        case rel => exact ⟨k + 1, hlt, by go_num, hide (by rw [Htk.out, List.any_append, HA.out]; simpa using Hb.out), X3⟩
        case measure => simp [intOf]; omega
      · rw [hb] at HC
        have HN : Hid (R = true) := hide (by rw [HR.out, List.any_eq_true]; exact ⟨x, Hm.out, hb⟩)
        clear hb
        go_wp2_with fail
        refine HC.out.mono ?_
        rintro e w3 ⟨rfl, hx⟩
        go_wp2
        go_ret
        exact ⟨⟨(k : Int), rfl, by rw [HN.out]; simp⟩, HX.out.trans hx⟩
    · have hge : ¬ (k : Int) < (l.length : Int) := by omega
      have HN : Hid (R = false) := hide (by rw [HR.out]; have := HA.out; rwa [List.take_of_length_le (by omega)] at this)
      go_wp2
      go_ret
      exact ⟨⟨-1, rfl, by rw [HN.out]; simp⟩, HX.out⟩

set_option maxRecDepth 10000 in
set_option maxHeartbeats 1000000 in
theorem has_ft (f : FuncId) (lb : Array Value) (ef : Opens f) (p : Ty → Bool) (A : Option Addr) (cap : Nat) (l : List Ty) (w : World) (h : TysIn w A l) (hl : l.length ≤ 1000000) (hp : ∀ w', Ext w w' → ∀ x ∈ l, Calls Tryz.prog f (#[tyV x] ++ lb) w' fun e w'' => e = .returned (.bool (p x)) ∧ Ext w' w'') :
    Calls Tryz.prog 199 #[.slice A l.length cap, .func (.func f) #[] lb] w fun e w' => e = .returned (.bool (l.any p)) ∧ Ext w w' := by
  have HI := hide (index_ft f lb ef p A cap l w h hl hp)
  clear h hp
  generalize l.any p = R at *
  go_enter Tryz.func199, Tryz.ntmps199
  go_wp2_with fail
  refine HI.out.mono ?_
  rintro e w2 ⟨⟨i, rfl, hi⟩, hx⟩
  have HR : Hid (decide ((0 : Int) ≤ i) = R) := hide (by cases R <;> simp_all)
  have X := hide hx
  clear hi hx
  go_wp2
  go_ret
  exact ⟨by first | rfl | (rw [← HR.out]; rfl), X.out⟩

set_option maxRecDepth 10000 in
set_option maxHeartbeats 2000000 in
theorem index_fm (f : FuncId) (lb : Array Value) (ef : Opens f) (p : Tm → Bool) (A : Option Addr) (cap : Nat) (l : List Tm) (w : World) (h : TmsIn w A l) (hl : l.length ≤ 1000000) (hp : ∀ w', Ext w w' → ∀ x ∈ l, Calls Tryz.prog f (#[tmV x] ++ lb) w' fun e w'' => e = .returned (.bool (p x)) ∧ Ext w' w'') :
    Calls Tryz.prog 201 #[.slice A l.length cap, .func (.func f) #[] lb] w fun e w' => (∃ i : Int, e = .returned (.int .i64 i) ∧ (0 ≤ i ↔ l.any p = true)) ∧ Ext w w' := by
  have HL := hide h
  have HP := hide hp
  unfold Opens at ef
  clear h hp
  obtain ⟨R, hR⟩ : ∃ R, R = l.any p := ⟨_, rfl⟩
  have HR := hide hR
  rw [← hR]
  clear hR
  go_enter Tryz.func201, Tryz.ntmps201
  go_wp2
  go_loopw [8] (fun i wr => ∃ k : Nat, k ≤ l.length ∧ i = .int .i64 k ∧ Hid ((l.take k).any p = false) ∧ Hid (Ext w wr)) (fun i _ => l.length - (intOf i).toNat)
  case atStart => exact ⟨0, Nat.zero_le _, rfl, hide (by simp), hide (Ext.refl _)⟩
  case round =>
    obtain ⟨k, hk, rfl, HA, HX⟩ := hrel
    by_cases hlt : k < l.length
    · have hlt' : (k : Int) < (l.length : Int) := by omega
      have hk0 : (0 : Int) ≤ (k : Int) := by omega
      obtain ⟨b, o, rfl, hb, q0, q1, q2, q3, q4, q5⟩ := (HL.out.ext HX.out).at_ hlt
      have hm := List.getElem_mem hlt
      have HC := hide (HP.out wr HX.out _ hm)
      have Htk : Hid (l.take (k + 1) = l.take k ++ [l[k]'hlt]) := hide (List.take_succ_eq_append_getElem hlt)
      have Hm := hide hm
      clear hm
      unfold tmV at HC
      generalize l[k]'hlt = x at *
      cases hb : p x
      · rw [hb] at HC
        have Hb := hide hb
        clear hb
        go_wp2_with fail
        refine HC.out.mono ?_
        rintro e w3 ⟨rfl, hx⟩
        have X3 := hide (HX.out.trans hx)
        clear hx
        go_wp2
        go_roundw
        case rel => exact ⟨k + 1, hlt, by go_num, hide (by rw [Htk.out, List.any_append, HA.out]; simpa using Hb.out), X3⟩
        case measure => simp [intOf]; omega
      · rw [hb] at HC
        have HN : Hid (R = true) := hide (by rw [HR.out, List.any_eq_true]; exact ⟨x, Hm.out, hb⟩)
        clear hb
        go_wp2_with fail
        refine HC.out.mono ?_
        rintro e w3 ⟨rfl, hx⟩
        go_wp2
        go_ret
        exact ⟨⟨(k : Int), rfl, by rw [HN.out]; simp⟩, HX.out.trans hx⟩
    · have hge : ¬ (k : Int) < (l.length : Int) := by omega
      have HN : Hid (R = false) := hide (by rw [HR.out]; have := HA.out; rwa [List.take_of_length_le (by omega)] at this)
      go_wp2
      go_ret
      exact ⟨⟨-1, rfl, by rw [HN.out]; simp⟩, HX.out⟩

set_option maxRecDepth 10000 in
set_option maxHeartbeats 1000000 in
theorem has_fm (f : FuncId) (lb : Array Value) (ef : Opens f) (p : Tm → Bool) (A : Option Addr) (cap : Nat) (l : List Tm) (w : World) (h : TmsIn w A l) (hl : l.length ≤ 1000000) (hp : ∀ w', Ext w w' → ∀ x ∈ l, Calls Tryz.prog f (#[tmV x] ++ lb) w' fun e w'' => e = .returned (.bool (p x)) ∧ Ext w' w'') :
    Calls Tryz.prog 121 #[.slice A l.length cap, .func (.func f) #[] lb] w fun e w' => e = .returned (.bool (l.any p)) ∧ Ext w w' := by
  have HI := hide (index_fm f lb ef p A cap l w h hl hp)
  clear h hp
  generalize l.any p = R at *
  go_enter Tryz.func121, Tryz.ntmps121
  go_wp2_with fail
  refine HI.out.mono ?_
  rintro e w2 ⟨⟨i, rfl, hi⟩, hx⟩
  have HR : Hid (decide ((0 : Int) ≤ i) = R) := hide (by cases R <;> simp_all)
  have X := hide hx
  clear hi hx
  go_wp2
  go_ret
  exact ⟨by first | rfl | (rw [← HR.out]; rfl), X.out⟩

end Go.Proofs.YtjacjpeeinnkcaaGreat

/- A scheme's type is alike itself. No program in sight. -/
namespace Go.Proofs.YtjacjpeeinnkcaaGreat
open Go.RowKit

/-- How great is what a type says? -/
noncomputable def szP (p : Ty.Pure) : Nat :=
  Ty.Pure.rec (motive_1 := fun _ => Nat) (motive_2 := fun _ => Nat) (fun _ _ _ r => r + 1) 0 (fun _ _ a b => a + b) p
theorem szP_eq (c : Str) (v : Int) (l : List Ty.Pure) : szP (.mk c v l) = (l.map szP).sum + 1 := by
  show Ty.Pure.rec_1 (motive_1 := fun _ => Nat) (motive_2 := fun _ => Nat) _ _ _ l + 1 = _
  congr 1
  induction l with
  | nil => rfl
  | cons x l ih => rw [List.map_cons, List.sum_cons, ← ih]; rfl
theorem size_pure (t : Ty) : t.size = szP t.pure := by
  induction t using Ty.ind with
  | h t ih =>
    rw [Ty.size_eq, Ty.pure_eq, szP_eq, List.map_map]
    congr 2
    exact List.map_congr_left ih
/-- Has no variable args? -/
inductive POk : Ty.Pure → Prop where
  | mk {c : Str} {v : Int} {l : List Ty.Pure} (h : c = [] → l = []) (h2 : ∀ x ∈ l, POk x) : POk (.mk c v l)
theorem pok_shape (t : Ty) (h : shapeT t = true) : POk t.pure := by
  induction t using Ty.ind with
  | h t ih =>
    unfold shapeT at h ih
    rw [allB_eq, Bool.and_eq_true, List.all_eq_true] at h
    rw [Ty.pure_eq]
    refine .mk (fun hc => ?_) (fun x hx => ?_)
    · have h1 := h.1
      rw [hc] at h1
      unfold headOk at h1
      simp at h1
      simp [h1]
    · obtain ⟨k, hk, rfl⟩ := List.mem_map.1 hx
      exact ih k hk (h.2 k hk)
theorem put_self (vars : List Int) (t : Ty) (h : POk t.pure) : putP vars (vars.map varT) t = t.pure := by
  induction t using Ty.ind with
  | h t ih =>
    rw [Ty.pure_eq] at h
    cases h with
    | mk h1 h2 =>
      rw [putP_eq]
      split
      · rename_i hc
        have hl : t.args = [] := by have := h1 hc; simpa using this
        unfold putAt
        split
        · rename_i hi
          have hany : vars.any (· == t.var) = true := by rw [← idxI_ge vars t.var]; exact decide_eq_true hi
          have e : idxI vars t.var = ((vars.findIdx (· == t.var) : Nat) : Int) := by unfold idxI; rw [if_pos hany]
          obtain ⟨x, hx, hxe⟩ := List.any_eq_true.1 hany
          have hlt : vars.findIdx (· == t.var) < vars.length := List.findIdx_lt_length_of_exists ⟨x, hx, hxe⟩
          have hat := List.findIdx_getElem (w := hlt)
          rw [e]
          have hat2 : vars[vars.findIdx (· == t.var)]'hlt = t.var := by simpa using hat
          rw [Int.toNat_natCast, List.getElem?_map, List.getElem?_eq_getElem hlt, hat2]
          show (varT t.var).pure = _
          rw [Ty.pure_eq, Ty.pure_eq t, hl, hc]
          rfl
        · rfl
      · rw [Ty.pure_eq t]
        congr 1
        exact List.map_congr_left (fun k hk => ih k hk (h2 _ (List.mem_map.2 ⟨k, hk, rfl⟩)))
theorem range_nodup (m : Nat) : (rangeI m).Nodup := by
  unfold rangeI
  exact List.pairwise_map.2 (List.nodup_range.imp (fun h e => h (by omega)))
theorem alike_self (p : Po) (hv : p.vars.Nodup) (ht : POk p.ty.pure) : alikeP p p = true := by
  have hm : meetsI p.vars (freeL p) = false := by
    unfold meetsI freeL
    rw [List.any_eq_false]
    intro v hv
    have h2 := (List.mem_filter.1 hv).2
    simp at h2 ⊢
    exact fun hh => h2 v hh rfl
  unfold alikeP eqP
  rw [hm, put_self p.vars p.ty ht]
  simp [hv]
theorem pok_fun (l : List Ty.Pure) (q : Ty.Pure) (hl : ∀ x ∈ l, POk x) (hq : POk q) : POk (funPP l q) := by
  induction l with
  | nil => exact hq
  | cons x l ih =>
    refine .mk (fun h => by cases h) (fun y hy => ?_)
    simp at hy
    rcases hy with rfl | rfl
    · exact hl y (by simp)
    · exact ih (fun z hz => hl z (by simp [hz]))
theorem pok_of (s : Sc) : POk (ofTyP s) := by
  unfold ofTyP
  split
  · rename_i h
    unfold scB legalT at h
    simp only [Bool.and_eq_true, List.all_eq_true, decide_eq_true_eq] at h
    refine pok_fun _ _ (fun x hx => ?_) (pok_shape _ h.1.1.1.1.2)
    obtain ⟨p, hp, rfl⟩ := List.mem_map.1 hx
    have hp2 := h.1.1.1.2 p hp
    unfold pdB legalT at hp2
    simp only [Bool.and_eq_true, decide_eq_true_eq] at hp2
    refine .mk (fun e => by simp at e) (fun y hy => ?_)
    simp at hy
    subst hy
    exact pok_shape _ hp2.2.2
  · rw [zero_pure]
    exact .mk (fun _ => rfl) (by simp)
theorem sz_fun (l : List Pd) (q : Ty.Pure) : szP (funPP (l.map fun p => dictP p.cls p.ty.pure) q) = szP q + psz l + 2 * l.length := by
  induction l with
  | nil => simp [funPP, psz]
  | cons p l ih =>
    show szP (arrP (dictP p.cls p.ty.pure) (funPP (l.map fun p => dictP p.cls p.ty.pure) q)) = _
    unfold arrP dictP
    rw [szP_eq, List.map_cons, List.map_cons, szP_eq]
    simp only [List.map_cons, List.map_nil, List.sum_cons, List.sum_nil, Nat.add_zero]
    have h2 : psz (p :: l) = p.ty.size + psz l := by unfold psz; simp
    unfold dictP at ih
    rw [ih, h2, size_pure p.ty, List.length_cons]
    omega
theorem sz_of (s : Sc) : szP (ofTyP s) ≤ s.ty.size + psz s.preds + 2 * s.preds.length + 1 := by
  unfold ofTyP
  split
  · rw [sz_fun, size_pure s.ty]; omega
  · rw [zero_pure, szP_eq]; simp
theorem ofVs_nodup (s : Sc) : (ofVs s).Nodup := by
  unfold ofVs
  split
  · exact range_nodup _
  · simp
theorem ofVs_len (s : Sc) : (ofVs s).length ≤ 4096 := by
  unfold ofVs
  split
  · rename_i h
    unfold scB at h
    simp only [Bool.and_eq_true, decide_eq_true_eq] at h
    rw [rangeI_len]
    have := h.1.2
    omega
  · simp

end Go.Proofs.YtjacjpeeinnkcaaGreat

/- Terms with bound names told by numbers: plain laws: a second time nothing gets another name; the same shape; free variables. No program in sight. -/
namespace Go.Proofs.YtjacjpeeinnkcaaGreat
open Go.RowKit

/-! ### What names and variables become -/
/-- A variable's new number, if it has one. -/
def varAt (vars tys : List Int) (v : Int) : Option Int := if 0 ≤ idxI vars v then tys[(idxI vars v).toNat]? else none
mutual
/-- A type with new numbers. -/
def typQ (vars tys : List Int) : Ty.Pure → Ty.Pure
  | .mk c v l => if c = [] then (match varAt vars tys v with | some n => .mk [] n [] | none => .mk c v l) else .mk c v (typQs vars tys l)
def typQs (vars tys : List Int) : List Ty.Pure → List Ty.Pure
  | [] => []
  | x :: l => typQ vars tys x :: typQs vars tys l
end
theorem typQs_map (vars tys : List Int) (l : List Ty.Pure) : typQs vars tys l = l.map (typQ vars tys) := by
  induction l with
  | nil => rfl
  | cons x l ih => simp only [typQs, List.map_cons, ih]
theorem typQ_eq (vars tys : List Int) (c : Str) (v : Int) (l : List Ty.Pure) : typQ vars tys (.mk c v l) = if c = [] then (match varAt vars tys v with | some n => .mk [] n [] | none => .mk c v l) else .mk c v (l.map (typQ vars tys)) := by
  rw [typQ, typQs_map]
mutual
/-- A pattern's variables. -/
def patVarsQ : Tm.Pure → List Str
  | .mk k _ s _ _ l => if k = 21 then [s] else patVarsQs l
def patVarsQs : List Tm.Pure → List Str
  | [] => []
  | x :: l => patVarsQ x ++ patVarsQs l
end
theorem patVarsQs_flat (l : List Tm.Pure) : patVarsQs l = l.flatMap patVarsQ := by
  induction l with
  | nil => rfl
  | cons x l ih => simp only [patVarsQs, List.flatMap_cons, ih]
namespace Tm.Pure
def kind : Tm.Pure → Int | .mk x _ _ _ _ _ => x
def n : Tm.Pure → Int | .mk _ x _ _ _ _ => x
def name : Tm.Pure → Str | .mk _ _ x _ _ _ => x
def vars : Tm.Pure → List Int | .mk _ _ _ x _ _ => x
def types : Tm.Pure → List Ty.Pure | .mk _ _ _ _ x _ => x
def kids : Tm.Pure → List Tm.Pure | .mk _ _ _ _ _ x => x
theorem ind {p : Tm.Pure → Prop} (h : ∀ t, (∀ k ∈ t.kids, p k) → p t) (t : Tm.Pure) : p t :=
  Tm.Pure.rec (motive_1 := p) (motive_2 := fun l => ∀ k ∈ l, p k) (fun _ _ _ _ _ _ hl => h _ hl) (fun _ hk => by cases hk)
    (fun _ _ hh ht k hk => by rcases List.mem_cons.1 hk with rfl | hk; exact hh; exact ht k hk) t
end Tm.Pure
/-- The names that a term binds within itself. -/
def bindsQ (k : Int) (s : Str) (l : List Tm.Pure) : List Str :=
  if k = 3 then [s] else if k = 10 then (l.filter fun b => b.kind == 11).map (·.name) else if k = 9 then (match l with | [] => [] | p :: _ => patVarsQ p) else []
/-- What names and variables become, the nearest first. -/
structure Cn where
  names : List (Str × Str)
  vars : List Int
  tys : List Int
def Cn.look (c : Cn) (s : Str) : Option Str := (c.names.find? fun p => p.1 == s).map (·.2)
def Cn.within (c : Cn) (l : List Str) : Cn := ⟨(l.map fun s => (s, s)) ++ c.names, c.vars, c.tys⟩
def rowI (from_ : Int) (n : Nat) : List Int := (List.range n).map fun i => from_ + (i : Nat)
def sharpB (s : Str) : Bool := s.head? == some 35
/-- What holds within a term, and its own name. -/
def stepQ (num : Int → Str) (k : Int) (s : Str) (vs : List Int) (l : List Tm.Pure) (c : Cn) (V L : Int) : Cn × Str × List Int × Int × Int :=
  if k = 1 then (c, (c.look s).getD s, vs, V, L)
  else if k = 5 ∨ k = 11 then (⟨c.names, vs ++ c.vars, rowI V vs.length ++ c.tys⟩, s, rowI V vs.length, V + vs.length, L)
  else if k = 3 ∧ sharpB s = true then (⟨(s, 35 :: num L) :: ((c.within (bindsQ k s l)).names), c.vars, c.tys⟩, 35 :: num L, vs, V, L + 1)
  else (c.within (bindsQ k s l), s, vs, V, L)
mutual
/-- A term with new names, and the next numbers. -/
def canQ (num : Int → Str) : Tm.Pure → Cn → Int → Int → Tm.Pure × Int × Int
  | .mk k n s vs ts l, c, V, L =>
    match stepQ num k s vs l c V L with
    | (c', s', vs', V', L') => match canQs num l c' V' L' with
      | (l', V'', L'') => (.mk k n s' vs' (ts.map (typQ c'.vars c'.tys)) l', V'', L'')
def canQs (num : Int → Str) : List Tm.Pure → Cn → Int → Int → List Tm.Pure × Int × Int
  | [], _, V, L => ([], V, L)
  | x :: l, c, V, L => match canQ num x c V L with
    | (x', V', L') => match canQs num l c V' L' with
      | (l', V'', L'') => (x' :: l', V'', L'')
end
theorem canQ_eq (num : Int → Str) (k n : Int) (s : Str) (vs : List Int) (ts : List Ty.Pure) (l : List Tm.Pure) (c : Cn) (V L : Int) :
    canQ num (.mk k n s vs ts l) c V L = (.mk k n (stepQ num k s vs l c V L).2.1 (stepQ num k s vs l c V L).2.2.1 (ts.map (typQ (stepQ num k s vs l c V L).1.vars (stepQ num k s vs l c V L).1.tys)) (canQs num l (stepQ num k s vs l c V L).1 (stepQ num k s vs l c V L).2.2.2.1 (stepQ num k s vs l c V L).2.2.2.2).1, (canQs num l (stepQ num k s vs l c V L).1 (stepQ num k s vs l c V L).2.2.2.1 (stepQ num k s vs l c V L).2.2.2.2).2) := by
  rw [canQ]
theorem canQs_cons (num : Int → Str) (x : Tm.Pure) (l : List Tm.Pure) (c : Cn) (V L : Int) :
    canQs num (x :: l) c V L = ((canQ num x c V L).1 :: (canQs num l c (canQ num x c V L).2.1 (canQ num x c V L).2.2).1, (canQs num l c (canQ num x c V L).2.1 (canQ num x c V L).2.2).2) := by
  rw [canQs]
theorem canQs_app (num : Int → Str) (l m : List Tm.Pure) (c : Cn) : ∀ V L : Int,
    canQs num (l ++ m) c V L = ((canQs num l c V L).1 ++ (canQs num m c (canQs num l c V L).2.1 (canQs num l c V L).2.2).1, (canQs num m c (canQs num l c V L).2.1 (canQs num l c V L).2.2).2) := by
  induction l with
  | nil => intro V L; rfl
  | cons x l ih => intro V L; rw [List.cons_append, canQs_cons, canQs_cons, ih]; rfl
theorem canQs_len (num : Int → Str) (l : List Tm.Pure) (c : Cn) : ∀ V L : Int, (canQs num l c V L).1.length = l.length := by
  induction l with
  | nil => intro V L; rfl
  | cons x l ih => intro V L; rw [canQs_cons, List.length_cons, List.length_cons, ih]

/-! ### A second time nothing gets another name -/
/-- Nothing gets another name any more. -/
structure Still (c : Cn) : Prop where
  names : ∀ p ∈ c.names, p.1 = p.2
  vars : c.vars = c.tys
theorem Still.look {c : Cn} (h : Still c) (s : Str) : (c.look s).getD s = s := by
  unfold Cn.look
  cases e : c.names.find? fun p => p.1 == s with
  | none => rfl
  | some p =>
    have h1 := List.find?_some e
    have h2 := h.names p (List.mem_of_find?_eq_some e)
    simp only [beq_iff_eq] at h1
    show p.2 = s
    rw [← h2, h1]
theorem Still.within {c : Cn} (h : Still c) (l : List Str) : Still (c.within l) := by
  refine ⟨fun p hp => ?_, h.vars⟩
  rcases List.mem_append.1 hp with hp | hp
  · obtain ⟨s, -, rfl⟩ := List.mem_map.1 hp
    rfl
  · exact h.names p hp
theorem varAt_same (l : List Int) (v n : Int) (h : varAt l l v = some n) : n = v := by
  unfold varAt at h
  split at h
  · rename_i h0
    have h2 := h0
    unfold idxI at h h2
    split at h
    · rename_i ha
      rw [Int.toNat_natCast] at h
      obtain ⟨x, hx, hxe⟩ := List.any_eq_true.1 ha
      have hlt : l.findIdx (· == v) < l.length := List.findIdx_lt_length_of_exists ⟨x, hx, hxe⟩
      have hat := List.findIdx_getElem (w := hlt)
      rw [List.getElem?_eq_getElem hlt] at h
      injection h with h
      simp only [beq_iff_eq] at hat
      rw [← h, hat]
    · rw [if_neg (by assumption)] at h2
      exact absurd h2 (by decide)
  · cases h
theorem typQ_still (l : List Int) : ∀ x : Ty.Pure, POk x → typQ l l x = x := by
  intro x hx
  induction hx with
  | mk h h2 ih =>
    rename_i c v l'
    rw [typQ_eq]
    split
    · rename_i hc
      have := h hc
      subst this hc
      cases e : varAt l l v with
      | none => rfl
      | some n => rw [varAt_same l v n e]
    · congr 1
      exact (List.map_congr_left ih).trans (List.map_id _)
theorem typQ_ok (vars tys : List Int) (x : Ty.Pure) (hx : POk x) : POk (typQ vars tys x) := by
  induction hx with
  | mk h h2 ih =>
    rename_i c v l'
    rw [typQ_eq]
    split
    · rename_i hc
      cases e : varAt vars tys v with
      | none => exact .mk h h2
      | some n => exact .mk (fun _ => rfl) (by simp)
    · rename_i hc
      refine .mk (fun e => absurd e hc) (fun y hy => ?_)
      obtain ⟨z, hz, rfl⟩ := List.mem_map.1 hy
      exact ih z hz
/-- All of a term's types are so. -/
inductive TOk : Tm.Pure → Prop
  | mk {k n : Int} {s : Str} {vs : List Int} {ts : List Ty.Pure} {l : List Tm.Pure} (ty : ∀ x ∈ ts, POk x) (kids : ∀ x ∈ l, TOk x) : TOk (.mk k n s vs ts l)
theorem rowI_len (a : Int) (n : Nat) : (rowI a n).length = n := by simp [rowI]
/-- Told by numbers, then told again from the same numbers on: the same. -/
theorem step_again (num : Int → Str) (k : Int) (s : Str) (vs : List Int) (l l' : List Tm.Pure) (c d : Cn) (V L : Int) (hd : Still d) :
    ∃ e, Still e ∧ stepQ num k (stepQ num k s vs l c V L).2.1 (stepQ num k s vs l c V L).2.2.1 l' d V L = (e, (stepQ num k s vs l c V L).2.1, (stepQ num k s vs l c V L).2.2.1, (stepQ num k s vs l c V L).2.2.2.1, (stepQ num k s vs l c V L).2.2.2.2) := by
  by_cases h1 : k = 1
  · subst h1
    refine ⟨d, hd, ?_⟩
    simp only [stepQ, if_true]
    rw [hd.look]
  by_cases h2 : k = 5 ∨ k = 11
  · refine ⟨⟨d.names, rowI V vs.length ++ d.vars, rowI V vs.length ++ d.tys⟩, ⟨hd.names, by show _ ++ d.vars = _ ++ d.tys; rw [hd.vars]⟩, ?_⟩
    simp only [stepQ, if_neg h1, if_pos h2, rowI_len]
  by_cases h3 : k = 3 ∧ sharpB s = true
  · obtain ⟨rfl, h4⟩ := h3
    have e1 : stepQ num 3 s vs l c V L = (⟨(s, 35 :: num L) :: ((c.within (bindsQ 3 s l)).names), c.vars, c.tys⟩, 35 :: num L, vs, V, L + 1) := by
      unfold stepQ
      rw [if_neg h1, if_neg h2, if_pos ⟨rfl, h4⟩]
    rw [e1]
    refine ⟨⟨(35 :: num L, 35 :: num L) :: ((d.within (bindsQ 3 (35 :: num L) l')).names), d.vars, d.tys⟩, ⟨fun p hp => ?_, hd.vars⟩, ?_⟩
    · rcases List.mem_cons.1 hp with rfl | hp
      · rfl
      · exact (hd.within _).names p hp
    · show stepQ num 3 (35 :: num L) vs l' d V L = _
      unfold stepQ
      rw [if_neg h1, if_neg h2, if_pos ⟨rfl, by simp [sharpB]⟩]
  · have e1 : stepQ num k s vs l c V L = (c.within (bindsQ k s l), s, vs, V, L) := by
      unfold stepQ
      rw [if_neg h1, if_neg h2, if_neg h3]
    rw [e1]
    refine ⟨d.within (bindsQ k s l'), hd.within _, ?_⟩
    show stepQ num k s vs l' d V L = _
    unfold stepQ
    rw [if_neg h1, if_neg h2, if_neg h3]
theorem can_again (num : Int → Str) (t : Tm.Pure) : TOk t → ∀ (c d : Cn) (V L : Int), Still d → canQ num (canQ num t c V L).1 d V L = canQ num t c V L := by
  induction t using Tm.Pure.ind with
  | h t ih =>
  intro ht c d V L hd
  cases ht with
  | mk hty hk =>
  rename_i k n s vs ts l
  obtain ⟨e, he, hs⟩ := step_again num k s vs l (canQs num l (stepQ num k s vs l c V L).1 (stepQ num k s vs l c V L).2.2.2.1 (stepQ num k s vs l c V L).2.2.2.2).1 c d V L hd
  rw [canQ_eq num k n s vs ts l c V L, canQ_eq, hs]
  generalize stepQ num k s vs l c V L = q
  obtain ⟨c', s', vs', V', L'⟩ := q
  dsimp only
  have hl : ∀ (m : List Tm.Pure), (∀ x ∈ m, TOk x) → (∀ x ∈ m, x ∈ l) → ∀ (V L : Int), canQs num (canQs num m c' V L).1 e V L = canQs num m c' V L := by
    intro m
    induction m with
    | nil => intro _ _ V L; rfl
    | cons x m ihm =>
      intro h1 h2 V L
      rw [canQs_cons num x m, canQs_cons, ih x (h2 x (by simp)) (h1 x (by simp)) c' e V L he, ihm (fun y hy => h1 y (List.mem_cons_of_mem _ hy)) (fun y hy => h2 y (List.mem_cons_of_mem _ hy))]
  have ht : (ts.map (typQ c'.vars c'.tys)).map (typQ e.vars e.tys) = ts.map (typQ c'.vars c'.tys) := by
    rw [List.map_map]
    refine List.map_congr_left (fun x hx => ?_)
    show typQ e.vars e.tys (typQ c'.vars c'.tys x) = _
    rw [← he.vars]
    exact typQ_still _ _ (typQ_ok _ _ _ (hty x hx))
  rw [hl l hk (fun _ h => h), ht]

/-! ### The same shape -/
/-- Two types that part in the numbers of variables alone. -/
inductive SkT : Ty.Pure → Ty.Pure → Prop
  | mk {c : Str} {v v' : Int} {l l' : List Ty.Pure} (hv : c ≠ [] → v = v') (hl : l.length = l'.length) (h : ∀ p ∈ l.zip l', SkT p.1 p.2) : SkT (.mk c v l) (.mk c v' l')
theorem zip_map_mem {α β : Type} {f : α → β} {l : List α} {p : α × β} (h : p ∈ l.zip (l.map f)) : p.1 ∈ l ∧ p.2 = f p.1 := by
  rw [List.zip_map_right, List.mem_map] at h
  obtain ⟨q, hq, rfl⟩ := h
  have h1 := List.of_mem_zip hq
  have h2 : q.1 = q.2 := by
    clear h1
    induction l with
    | nil => cases hq
    | cons x l ih =>
      rw [List.zip_cons_cons, List.mem_cons] at hq
      rcases hq with rfl | hq
      · rfl
      · exact ih hq
  exact ⟨h1.1, by show f q.2 = f q.1; rw [h2]⟩
theorem SkT.refl_ (x : Ty.Pure) (hx : POk x) : SkT x x := by
  induction hx with
  | mk h h2 ih =>
    refine .mk (fun _ => rfl) rfl (fun p hp => ?_)
    have := zip_map_mem (f := id) (by rw [List.map_id]; exact hp)
    rw [show p.2 = p.1 from this.2]
    exact ih _ this.1
theorem typQ_sk (vars tys : List Int) (x : Ty.Pure) (hx : POk x) : SkT x (typQ vars tys x) := by
  induction hx with
  | mk h h2 ih =>
    rename_i c v l'
    rw [typQ_eq]
    split
    · rename_i hc
      have := h hc
      subst this hc
      cases e : varAt vars tys v with
      | none => exact .mk (fun _ => rfl) rfl (by simp)
      | some n => exact .mk (fun e => absurd rfl e) rfl (by simp)
    · refine .mk (fun _ => rfl) (by simp) (fun p hp => ?_)
      have := zip_map_mem hp
      rw [this.2]
      exact ih _ this.1
/-- Two terms that part in names and in the numbers of variables alone. -/
inductive SkM : Tm.Pure → Tm.Pure → Prop
  | mk {k n : Int} {s s' : Str} {vs vs' : List Int} {ts ts' : List Ty.Pure} {l l' : List Tm.Pure} (hs : s = [] ↔ s' = []) (hv : vs.length = vs'.length) (ht : ts.length = ts'.length) (hts : ∀ p ∈ ts.zip ts', SkT p.1 p.2)
      (hl : l.length = l'.length) (h : ∀ p ∈ l.zip l', SkM p.1 p.2) : SkM (.mk k n s vs ts l) (.mk k n s' vs' ts' l')
/-- No term has an empty new name. -/
def NamesOk (c : Cn) : Prop := ∀ p ∈ c.names, (p.1 = [] ↔ p.2 = [])
theorem NamesOk.within {c : Cn} (h : NamesOk c) (l : List Str) : NamesOk (c.within l) := by
  intro p hp
  rcases List.mem_append.1 hp with hp | hp
  · obtain ⟨s, -, rfl⟩ := List.mem_map.1 hp
    exact Iff.rfl
  · exact h p hp
theorem NamesOk.look {c : Cn} (h : NamesOk c) (s : Str) : s = [] ↔ (c.look s).getD s = [] := by
  unfold Cn.look
  cases e : c.names.find? fun p => p.1 == s with
  | none => exact Iff.rfl
  | some p =>
    have h1 := List.find?_some e
    have h2 := h p (List.mem_of_find?_eq_some e)
    simp only [beq_iff_eq] at h1
    show s = [] ↔ p.2 = []
    rw [← h2, h1]
theorem step_names (num : Int → Str) (k : Int) (s : Str) (vs : List Int) (l : List Tm.Pure) (c : Cn) (V L : Int) (hc : NamesOk c) :
    NamesOk (stepQ num k s vs l c V L).1 ∧ (s = [] ↔ (stepQ num k s vs l c V L).2.1 = []) ∧ vs.length = (stepQ num k s vs l c V L).2.2.1.length := by
  unfold stepQ
  split
  · exact ⟨hc, hc.look s, rfl⟩
  split
  · exact ⟨hc, Iff.rfl, (rowI_len _ _).symm⟩
  split
  · rename_i h
    have hs : s ≠ [] := by intro e; subst e; simp [sharpB] at h
    refine ⟨fun p hp => ?_, by simp [hs], rfl⟩
    rcases List.mem_cons.1 hp with rfl | hp
    · simp [hs]
    · exact (hc.within _) p hp
  · exact ⟨hc.within _, Iff.rfl, rfl⟩
theorem zip_pre {α β : Type} (x : α) (y : β) (l : List α) (m : List β) (p : α × β) : p ∈ (x :: l).zip (y :: m) ↔ p = (x, y) ∨ p ∈ l.zip m := by rw [List.zip_cons_cons, List.mem_cons]
theorem can_sk (num : Int → Str) (t : Tm.Pure) : TOk t → ∀ (c : Cn) (V L : Int), NamesOk c → SkM t (canQ num t c V L).1 := by
  induction t using Tm.Pure.ind with
  | h t ih =>
  intro ht c V L hc
  cases ht with
  | mk hty hk =>
  rename_i k n s vs ts l
  rw [canQ_eq]
  obtain ⟨h1, h2, h3⟩ := step_names num k s vs l c V L hc
  generalize stepQ num k s vs l c V L = q at *
  obtain ⟨c', s', vs', V', L'⟩ := q
  dsimp only at *
  have hl : ∀ (m : List Tm.Pure), (∀ x ∈ m, TOk x) → (∀ x ∈ m, x ∈ l) → ∀ (V L : Int), ∀ p ∈ m.zip (canQs num m c' V L).1, SkM p.1 p.2 := by
    intro m
    induction m with
    | nil => intro _ _ V L p hp; cases hp
    | cons x m ihm =>
      intro g1 g2 V L p hp
      rw [canQs_cons, zip_pre] at hp
      rcases hp with rfl | hp
      · exact ih x (g2 x (by simp)) (g1 x (by simp)) c' V L h1
      · exact ihm (fun y hy => g1 y (List.mem_cons_of_mem _ hy)) (fun y hy => g2 y (List.mem_cons_of_mem _ hy)) _ _ p hp
  refine .mk h2 h3 (by simp) (fun p hp => ?_) (canQs_len _ _ _ _ _).symm (hl l hk (fun _ h => h) V' L')
  have := zip_map_mem hp
  rw [this.2]
  exact typQ_sk _ _ _ (hty _ this.1)
theorem can_ok (num : Int → Str) (t : Tm.Pure) : TOk t → ∀ (c : Cn) (V L : Int), TOk (canQ num t c V L).1 := by
  induction t using Tm.Pure.ind with
  | h t ih =>
  intro ht c V L
  cases ht with
  | mk hty hk =>
  rename_i k n s vs ts l
  rw [canQ_eq]
  generalize stepQ num k s vs l c V L = q at *
  obtain ⟨c', s', vs', V', L'⟩ := q
  dsimp only at *
  have hl : ∀ (m : List Tm.Pure), (∀ x ∈ m, TOk x) → (∀ x ∈ m, x ∈ l) → ∀ (V L : Int), ∀ y ∈ (canQs num m c' V L).1, TOk y := by
    intro m
    induction m with
    | nil => intro _ _ V L y hy; cases hy
    | cons x m ihm =>
      intro g1 g2 V L y hy
      rw [canQs_cons, List.mem_cons] at hy
      rcases hy with rfl | hy
      · exact ih x (g2 x (by simp)) (g1 x (by simp)) c' V L
      · exact ihm (fun y hy => g1 y (List.mem_cons_of_mem _ hy)) (fun y hy => g2 y (List.mem_cons_of_mem _ hy)) _ _ y hy
  refine .mk (fun x hx => ?_) (hl l hk (fun _ h => h) V' L')
  obtain ⟨y, hy, rfl⟩ := List.mem_map.1 hx
  exact typQ_ok _ _ _ (hty y hy)

/-! ### Free variables -/
mutual
def varsQ : Ty.Pure → List Int
  | .mk c v l => (if c = [] then [v] else []) ++ varsQs l
def varsQs : List Ty.Pure → List Int
  | [] => []
  | x :: l => varsQ x ++ varsQs l
end
theorem varsQs_flat (l : List Ty.Pure) : varsQs l = l.flatMap varsQ := by
  induction l with
  | nil => rfl
  | cons x l ih => simp only [varsQs, List.flatMap_cons, ih]
mutual
/-- Variables that nobody around binds. -/
def freeV : Tm.Pure → List Int → List Int
  | .mk k _ _ vs ts l, bound => ((ts.flatMap varsQ).filter fun v => !(if k = 5 ∨ k = 11 then bound ++ vs else bound).contains v) ++ freeVs l (if k = 5 ∨ k = 11 then bound ++ vs else bound)
def freeVs : List Tm.Pure → List Int → List Int
  | [], _ => []
  | x :: l, bound => freeV x bound ++ freeVs l bound
end
theorem freeVs_flat (l : List Tm.Pure) (b : List Int) : freeVs l b = l.flatMap fun x => freeV x b := by
  induction l with
  | nil => rfl
  | cons x l ih => simp only [freeVs, List.flatMap_cons, ih]
theorem varAt_mem {vars tys : List Int} {v n : Int} (h : varAt vars tys v = some n) : n ∈ tys := by
  unfold varAt at h
  split at h
  · exact List.mem_of_getElem? h
  · cases h
theorem varAt_none {vars tys : List Int} {v : Int} (hl : vars.length = tys.length) (h : varAt vars tys v = none) : v ∉ vars := by
  intro hv
  have ha : vars.any (· == v) = true := List.any_eq_true.2 ⟨v, hv, by simp⟩
  have e : idxI vars v = ((vars.findIdx (· == v) : Nat) : Int) := by unfold idxI; rw [if_pos ha]
  unfold varAt at h
  rw [e, if_pos (by omega), Int.toNat_natCast] at h
  have hlt : vars.findIdx (· == v) < vars.length := List.findIdx_lt_length_of_exists ⟨v, hv, by simp⟩
  rw [List.getElem?_eq_getElem (by omega)] at h
  cases h
theorem vars_typQ (vars tys : List Int) (x : Ty.Pure) (hx : POk x) : ∀ v ∈ varsQ (typQ vars tys x), ∃ u ∈ varsQ x, v = (varAt vars tys u).getD u := by
  induction hx with
  | mk h h2 ih =>
    rename_i c u l'
    intro v hv
    rw [typQ_eq] at hv
    split at hv
    · rename_i hc
      have := h hc
      subst this hc
      refine ⟨u, by simp [varsQ, varsQs], ?_⟩
      cases e : varAt vars tys u with
      | none => rw [e] at hv; simpa [varsQ, varsQs] using hv
      | some n => rw [e] at hv; simpa [varsQ, varsQs] using hv
    · rename_i hc
      rw [varsQ, if_neg hc, varsQs_flat, List.nil_append, List.mem_flatMap] at hv
      obtain ⟨y, hy, hv⟩ := hv
      obtain ⟨z, hz, rfl⟩ := List.mem_map.1 hy
      obtain ⟨u', hu, he⟩ := ih z hz v hv
      refine ⟨u', ?_, he⟩
      rw [varsQ, varsQs_flat]
      exact List.mem_append.2 (.inr (List.mem_flatMap.2 ⟨z, hz, hu⟩))
/-- What is bound becomes what is bound. -/
structure Bnd (c : Cn) (b b' : List Int) : Prop where
  len : c.vars.length = c.tys.length
  iff : ∀ v, v ∈ b ↔ v ∈ c.vars
  into : ∀ n ∈ c.tys, n ∈ b'
theorem can_free (num : Int → Str) (t : Tm.Pure) : TOk t → ∀ (c : Cn) (V L : Int) (b b' : List Int), Bnd c b b' → ∀ v ∈ freeV (canQ num t c V L).1 b', v ∈ freeV t b := by
  induction t using Tm.Pure.ind with
  | h t ih =>
  intro ht c V L b b' hb v hv
  cases ht with
  | mk hty hk =>
  rename_i k n s vs ts l
  rw [canQ_eq] at hv
  have hB : Bnd (stepQ num k s vs l c V L).1 (if k = 5 ∨ k = 11 then b ++ vs else b) (if k = 5 ∨ k = 11 then b' ++ (stepQ num k s vs l c V L).2.2.1 else b') := by
    by_cases h5 : k = 5 ∨ k = 11
    · have h1 : ¬ k = 1 := by omega
      unfold stepQ
      rw [if_neg h1, if_pos h5, if_pos h5, if_pos h5]
      refine ⟨?_, fun v => ?_, fun n hn => ?_⟩
      · show (vs ++ c.vars).length = (rowI V vs.length ++ c.tys).length
        rw [List.length_append, List.length_append, rowI_len, hb.len]
      · show v ∈ b ++ vs ↔ v ∈ vs ++ c.vars
        rw [List.mem_append, List.mem_append, hb.iff]
        exact Or.comm
      · have hn : n ∈ rowI V vs.length ++ c.tys := hn
        show n ∈ b' ++ rowI V vs.length
        rw [List.mem_append] at hn ⊢
        rcases hn with hn | hn
        · exact .inr hn
        · exact .inl (hb.into n hn)
    · rw [if_neg h5, if_neg h5]
      unfold stepQ
      split
      · exact hb
      split
      · exact ⟨hb.len, hb.iff, hb.into⟩
      · exact ⟨hb.len, hb.iff, hb.into⟩
  generalize stepQ num k s vs l c V L = q at *
  obtain ⟨c', s', vs', V', L'⟩ := q
  dsimp only at *
  rw [freeV] at hv ⊢
  generalize (if k = 5 ∨ k = 11 then b ++ vs else b) = d at *
  generalize (if k = 5 ∨ k = 11 then b' ++ vs' else b') = d' at *
  have hl : ∀ (m : List Tm.Pure), (∀ x ∈ m, TOk x) → (∀ x ∈ m, x ∈ l) → ∀ (V L : Int), ∀ v ∈ freeVs (canQs num m c' V L).1 d', v ∈ freeVs m d := by
    intro m
    induction m with
    | nil => intro _ _ V L v hv; cases hv
    | cons x m ihm =>
      intro g1 g2 V L v hv
      rw [canQs_cons, freeVs, List.mem_append] at hv
      rw [freeVs, List.mem_append]
      rcases hv with hv | hv
      · exact .inl (ih x (g2 x (by simp)) (g1 x (by simp)) c' V L d d' hB v hv)
      · exact .inr (ihm (fun y hy => g1 y (List.mem_cons_of_mem _ hy)) (fun y hy => g2 y (List.mem_cons_of_mem _ hy)) _ _ v hv)
  rw [List.mem_append] at hv ⊢
  rcases hv with hv | hv
  · left
    rw [List.mem_filter, List.mem_flatMap] at hv ⊢
    obtain ⟨⟨y, hy, hv⟩, hn⟩ := hv
    obtain ⟨x, hx, rfl⟩ := List.mem_map.1 hy
    obtain ⟨u, hu, he⟩ := vars_typQ _ _ x (hty x hx) v hv
    cases e : varAt c'.vars c'.tys u with
    | none =>
      rw [e] at he
      have he : v = u := he
      subst he
      refine ⟨⟨x, hx, hu⟩, ?_⟩
      have := varAt_none hB.len e
      rw [← hB.iff] at this
      simpa using this
    | some n =>
      rw [e] at he
      have he : v = n := he
      subst he
      have := hB.into v (varAt_mem e)
      simp [this] at hn
  · exact .inr (hl l hk (fun _ h => h) V' L' v hv)

end Go.Proofs.YtjacjpeeinnkcaaGreat

/- Whether a term may be: plain laws. No program in sight. -/
namespace Go.Proofs.YtjacjpeeinnkcaaGreat
open Go.RowKit

/-- What a kind of terms has. -/
structure ShK where
  named : Bool
  counted : Bool
  from0 : Bool
  types : Int
  kids : Int
def shapeK (k : Int) : Option ShK :=
  if k = 1 ∨ k = 21 then some ⟨true, false, false, 0, 0⟩
  else if k = 2 ∨ k = 14 ∨ k = 23 then some ⟨false, true, false, 0, 0⟩
  else if k = 22 then some ⟨false, false, false, 0, 0⟩
  else if k = 3 ∨ k = 11 then some ⟨true, false, false, 1, 1⟩
  else if k = 4 ∨ k = 9 then some ⟨false, false, false, 0, 2⟩
  else if k = 5 then some ⟨false, false, false, 0, 1⟩
  else if k = 6 then some ⟨false, false, false, -1, 1⟩
  else if k = 7 then some ⟨true, false, false, -1, 0⟩
  else if k = 8 ∨ k = 10 then some ⟨false, false, false, 0, -1⟩
  else if k = 12 then some ⟨true, false, false, 1, -1⟩
  else if k = 13 then some ⟨true, true, true, 0, 1⟩
  else if k = 24 then some ⟨true, false, false, 0, -1⟩
  else none
/-- Has a term its kind's shape? -/
def fitsOf (k n : Int) (named : Bool) (vs tys kids : Nat) : Bool :=
  match shapeK k with
  | none => false
  | some s => (named == s.named) && ((n == 0) || s.counted) && !(decide (n < 0) && s.from0) && (decide (vs = 0) || k == 5 || k == 11) && (decide (s.types < 0) || decide ((tys : Int) = s.types)) && (decide (s.kids < 0) || decide ((kids : Int) = s.kids))
noncomputable def fitsM (t : Tm) : Bool := fitsOf t.kind t.n (!(t.name == [])) t.vars.length t.types.length t.kids.length && t.types.all legalD
/-- Is it a term, a pattern, an alternative, a binding? -/
structure TB where
  term : Bool
  pat : Bool
  alt : Bool
  bind : Bool
def TB.at_ (l : List TB) (i : Nat) : TB := l.getD i ⟨false, false, false, false⟩
def TB.termOf (k : Int) (f : Bool) (l : List TB) : Bool :=
  (!decide (21 ≤ k) && !(k == 9) && !(k == 11) && f) &&
    (if k = 8 then decide (2 ≤ l.length) && (TB.at_ l 0).term && (l.drop 1).all (·.alt) else if k = 10 then decide (1 ≤ l.length) && (TB.at_ l (l.length - 1)).term && (l.take (l.length - 1)).all (·.bind) else l.all (·.term))
def TB.of (k : Int) (f : Bool) (l : List TB) : TB :=
  ⟨TB.termOf k f l, decide (21 ≤ k) && f && l.all (·.pat), (k == 9) && f && (TB.at_ l 0).pat && (TB.at_ l 1).term, (k == 11) && f && (TB.at_ l 0).term⟩
noncomputable def Tm.tb : Tm → TB := Tm.fold fun t l => TB.of t.kind (fitsM t) l
theorem tb_eq (t : Tm) : t.tb = TB.of t.kind (fitsM t) (t.kids.map Tm.tb) := by unfold Tm.tb; rw [Tm.fold_eq]
noncomputable def legalM (t : Tm) : Bool := decide (t.size ≤ 4096) && decide (t.depth ≤ 400) && t.tb.term

/-! ### The same shape: the same answers -/
theorem zip_get {α β : Type} {l : List α} {m : List β} {i : Nat} (h1 : i < l.length) (h2 : i < m.length) : (l[i]'h1, m[i]'h2) ∈ l.zip m := by
  rw [List.mem_iff_getElem]
  exact ⟨i, by rw [List.length_zip]; omega, List.getElem_zip⟩
theorem map_same {α β γ : Type} {l : List α} {m : List β} (f : α → γ) (g : β → γ) (hl : l.length = m.length) (h : ∀ i (h1 : i < l.length) (h2 : i < m.length), f (l[i]'h1) = g (m[i]'h2)) : l.map f = m.map g := by
  refine List.ext_getElem (by simp [hl]) (fun i h1 h2 => ?_)
  rw [List.getElem_map, List.getElem_map]
  exact h i _ _
theorem sk_parts {t u : Ty} (h : SkT t.pure u.pure) : t.con = u.con ∧ (t.con ≠ [] → t.var = u.var) ∧ t.args.length = u.args.length ∧ ∀ i (h1 : i < t.args.length) (h2 : i < u.args.length), SkT (t.args[i]'h1).pure (u.args[i]'h2).pure := by
  rw [Ty.pure_eq t, Ty.pure_eq u] at h
  generalize hc : t.con = c at h
  generalize hc' : u.con = c' at h
  generalize hl : t.args.map Ty.pure = l at h
  generalize hl' : u.args.map Ty.pure = l' at h
  cases h with
  | mk hv hn h =>
    subst hl hl'
    refine ⟨rfl, hv, by simpa using hn, fun i h1 h2 => ?_⟩
    have := h _ (zip_get (i := i) (by simpa using h1) (by simpa using h2))
    simpa using this
theorem sk_ty (t : Ty) : ∀ u : Ty, SkT t.pure u.pure → t.size = u.size ∧ t.depth = u.depth ∧ shapeD t = shapeD u := by
  induction t using Ty.ind with
  | h t ih =>
  intro u h
  obtain ⟨h1, h2, h3, h4⟩ := sk_parts h
  have e1 : t.args.map Ty.size = u.args.map Ty.size := map_same _ _ h3 (fun i k1 k2 => (ih _ (List.getElem_mem k1) _ (h4 i k1 k2)).1)
  have e2 : t.args.map Ty.depth = u.args.map Ty.depth := map_same _ _ h3 (fun i k1 k2 => (ih _ (List.getElem_mem k1) _ (h4 i k1 k2)).2.1)
  have e3 : t.args.map shapeD = u.args.map shapeD := map_same _ _ h3 (fun i k1 k2 => (ih _ (List.getElem_mem k1) _ (h4 i k1 k2)).2.2)
  have e4 : t.args.all shapeD = u.args.all shapeD := by
    have : ∀ l : List Ty, l.all shapeD = (l.map shapeD).all id := fun l => by rw [List.all_map]; rfl
    rw [this, this, e3]
  refine ⟨by rw [Ty.size_eq, Ty.size_eq, e1], by rw [Ty.depth_eq, Ty.depth_eq, e2], ?_⟩
  rw [shapeD_eq, shapeD_eq, e4]
  congr 1
  by_cases hc : t.con = []
  · have hc' : u.con = [] := h1 ▸ hc
    have hcs : classS [] = [] := by rfl
    unfold dictB headOk
    rw [hc, hc', h3, hcs]
    simp
  · unfold dictB
    rw [h1, h2 hc, h3]
theorem sk_legal {t u : Ty} (h : SkT t.pure u.pure) : legalD t = legalD u := by
  obtain ⟨h1, h2, h3⟩ := sk_ty t u h
  unfold legalD
  rw [h1, h2, h3]
structure SkParts (t u : Tm) : Prop where
  kind : t.kind = u.kind
  n : t.n = u.n
  name : (t.name == []) = (u.name == [])
  vars : t.vars.length = u.vars.length
  tys : t.types.length = u.types.length
  ty : ∀ i (h1 : i < t.types.length) (h2 : i < u.types.length), SkT (t.types[i]'h1).pure (u.types[i]'h2).pure
  len : t.kids.length = u.kids.length
  kid : ∀ i (h1 : i < t.kids.length) (h2 : i < u.kids.length), SkM (t.kids[i]'h1).pure (u.kids[i]'h2).pure
theorem skm_parts {t u : Tm} (h : SkM t.pure u.pure) : SkParts t u := by
  rw [Tm.pure_eq t, Tm.pure_eq u] at h
  generalize hk : t.kind = k at h
  generalize hn : t.n = n at h
  generalize hs : t.name = s at h
  generalize hv : t.vars = vs at h
  generalize ht : t.types.map Ty.pure = ts at h
  generalize hl : t.kids.map Tm.pure = l at h
  generalize hk' : u.kind = k' at h
  generalize hn' : u.n = n' at h
  generalize hs' : u.name = s' at h
  generalize hv' : u.vars = vs' at h
  generalize ht' : u.types.map Ty.pure = ts' at h
  generalize hl' : u.kids.map Tm.pure = l' at h
  cases h with
  | mk g1 g2 g3 g4 g5 g6 =>
    subst ht ht' hl hl'
    refine ⟨hk.trans hk'.symm, hn.trans hn'.symm, ?_, by rw [hv, hv']; exact g2, by simpa using g3, fun i h1 h2 => ?_, by simpa using g5, fun i h1 h2 => ?_⟩
    · rw [hs, hs', Bool.eq_iff_iff]
      simpa using g1
    · have := g4 _ (zip_get (i := i) (by simpa using h1) (by simpa using h2))
      simpa using this
    · have := g6 _ (zip_get (i := i) (by simpa using h1) (by simpa using h2))
      simpa using this
theorem skm_tm (t : Tm) : ∀ u : Tm, SkM t.pure u.pure → t.size = u.size ∧ t.depth = u.depth ∧ t.tb = u.tb := by
  induction t using Tm.ind with
  | h t ih =>
  intro u h
  have P := skm_parts h
  have e1 : t.kids.map Tm.size = u.kids.map Tm.size := map_same _ _ P.len (fun i k1 k2 => (ih _ (List.getElem_mem k1) _ (P.kid i k1 k2)).1)
  have e2 : t.kids.map Tm.depth = u.kids.map Tm.depth := map_same _ _ P.len (fun i k1 k2 => (ih _ (List.getElem_mem k1) _ (P.kid i k1 k2)).2.1)
  have e3 : t.kids.map Tm.tb = u.kids.map Tm.tb := map_same _ _ P.len (fun i k1 k2 => (ih _ (List.getElem_mem k1) _ (P.kid i k1 k2)).2.2)
  have e4 : t.types.all legalD = u.types.all legalD := by
    have : ∀ l : List Ty, l.all legalD = (l.map legalD).all id := fun l => by rw [List.all_map]; rfl
    rw [this, this, map_same legalD legalD P.tys (fun i k1 k2 => sk_legal (P.ty i k1 k2))]
  refine ⟨by rw [Tm.size_eq, Tm.size_eq, e1], by rw [Tm.depth_eq, Tm.depth_eq, e2], ?_⟩
  rw [tb_eq, tb_eq, e3, P.kind]
  congr 1
  unfold fitsM
  rw [P.kind, P.n, P.name, P.vars, P.tys, P.len, e4]
theorem skm_legal {t u : Tm} (h : SkM t.pure u.pure) : legalM t = legalM u ∧ t.size = u.size := by
  obtain ⟨h1, h2, h3⟩ := skm_tm t u h
  unfold legalM
  rw [h1, h2, h3]
  exact ⟨rfl, rfl⟩

/-! ### What may be has variables without args -/
theorem pok_shapeD (t : Ty) (h : shapeD t = true) : POk t.pure := by
  induction t using Ty.ind with
  | h t ih =>
    rw [shapeD_eq, Bool.and_eq_true, List.all_eq_true] at h
    rw [Ty.pure_eq]
    refine .mk (fun hc => ?_) (fun x hx => ?_)
    · have h1 := h.1
      have hcs : classS [] = [] := by rfl
      unfold dictB headOk at h1
      rw [hc, hcs] at h1
      simp at h1
      simp [h1]
    · obtain ⟨k, hk, rfl⟩ := List.mem_map.1 hx
      exact ih k hk (h.2 k hk)
theorem pok_legalD {t : Ty} (h : legalD t = true) : POk t.pure := by
  unfold legalD at h
  rw [Bool.and_eq_true] at h
  exact pok_shapeD t h.2
theorem fits_kids {t : Tm} {d : ShK} (hk : shapeK t.kind = some d) (h : fitsM t = true) (hd : 0 ≤ d.kids) : (t.kids.length : Int) = d.kids := by
  unfold fitsM fitsOf at h
  rw [hk] at h
  simp only [Bool.and_eq_true, Bool.or_eq_true, decide_eq_true_eq] at h
  have := h.1.2
  omega
theorem tok_tb (t : Tm) : (t.tb.term = true ∨ t.tb.pat = true ∨ t.tb.alt = true ∨ t.tb.bind = true) → TOk t.pure := by
  induction t using Tm.ind with
  | h t ih =>
  intro h
  have hf : fitsM t = true := by
    rw [tb_eq] at h
    unfold TB.of TB.termOf at h
    simp only [Bool.and_eq_true] at h
    rcases h with h | h | h | h
    · exact h.1.2
    · exact h.1.2
    · exact h.1.1.2
    · exact h.1.2
  have hall : ∀ k ∈ t.kids, k.tb.term = true ∨ k.tb.pat = true ∨ k.tb.alt = true ∨ k.tb.bind = true := by
    have hat : ∀ (i : Nat) (hi : i < t.kids.length), TB.at_ (t.kids.map Tm.tb) i = (t.kids[i]'hi).tb := fun i hi => by
      unfold TB.at_
      rw [List.getD_eq_getElem?_getD, List.getElem?_map, List.getElem?_eq_getElem hi]
      rfl
    intro k hk
    obtain ⟨i, hi, rfl⟩ := List.getElem_of_mem hk
    rw [tb_eq] at h
    unfold TB.of TB.termOf at h
    simp only [Bool.and_eq_true] at h
    rcases h with h | h | h | h
    · have h2 := h.2
      split at h2
      · simp only [Bool.and_eq_true, List.all_eq_true] at h2
        by_cases e : i = 0
        · subst e
          left
          rw [← hat 0 hi]
          exact h2.1.2
        · right; right; left
          refine h2.2 _ ?_
          rw [List.mem_iff_getElem]
          exact ⟨i - 1, by simp; omega, by simp [show i - 1 + 1 = i by omega]⟩
      · split at h2
        · simp only [Bool.and_eq_true, List.all_eq_true, List.length_map] at h2
          by_cases e : i = t.kids.length - 1
          · left
            rw [← hat i hi, e]
            exact h2.1.2
          · right; right; right
            refine h2.2 _ ?_
            rw [List.mem_iff_getElem]
            exact ⟨i, by simp; omega, by simp⟩
        · left
          rw [List.all_eq_true] at h2
          exact h2 _ (List.mem_map.2 ⟨_, hk, rfl⟩)
    · right; left
      have h2 := h.2
      rw [List.all_eq_true] at h2
      exact h2 _ (List.mem_map.2 ⟨_, hk, rfl⟩)
    · have hk9 : t.kind = 9 := by simpa using h.1.1.1
      have h2 := fits_kids (d := ⟨false, false, false, 0, 2⟩) (by rw [hk9]; rfl) hf (by decide)
      simp only at h2
      by_cases e : i = 0
      · subst e
        right; left
        rw [← hat 0 hi]
        exact h.1.2
      · have e1 : i = 1 := by omega
        subst e1
        left
        rw [← hat 1 hi]
        exact h.2
    · have hk11 : t.kind = 11 := by simpa using h.1.1
      have h2 := fits_kids (d := ⟨true, false, false, 1, 1⟩) (by rw [hk11]; rfl) hf (by decide)
      simp only at h2
      have e1 : i = 0 := by omega
      subst e1
      left
      rw [← hat 0 hi]
      exact h.2
  rw [Tm.pure_eq]
  refine .mk (fun x hx => ?_) (fun x hx => ?_)
  · obtain ⟨y, hy, rfl⟩ := List.mem_map.1 hx
    unfold fitsM at hf
    rw [Bool.and_eq_true, List.all_eq_true] at hf
    exact pok_legalD (hf.2 y hy)
  · obtain ⟨k, hk, rfl⟩ := List.mem_map.1 hx
    exact ih k hk (hall k hk)
theorem tok_legal {t : Tm} (h : legalM t = true) : TOk t.pure := by
  unfold legalM at h
  rw [Bool.and_eq_true] at h
  exact tok_tb t (.inl h.2)

end Go.Proofs.YtjacjpeeinnkcaaGreat

/- Contracts: the shape of a kind of terms; whether a term has its kind's shape. -/
namespace Go.Proofs.YtjacjpeeinnkcaaGreat
open Go.RowKit Go.Shelf

def shV (d : ShK) : Value := .agg #[.bool d.named, .bool d.counted, .bool d.from0, .int .i64 d.types, .int .i64 d.kids]
def shapeV (o : Option ShK) : Value := match o with
  | some d => .tuple #[shV d, .bool true]
  | none => .tuple #[.agg #[.bool false, .bool false, .bool false, .int .i64 0, .int .i64 0], .bool false]

set_option maxRecDepth 10000 in
set_option maxHeartbeats 4000000 in
theorem m_shapes (k : Int) (w : World) : Calls Tryz.prog 198 #[.int .i64 k] w fun e w' => e = .returned (shapeV (shapeK k)) ∧ Ext w w' := by
  by_cases h : (1 ≤ k ∧ k ≤ 14) ∨ (21 ≤ k ∧ k ≤ 24)
  · have : k = 1 ∨ k = 2 ∨ k = 3 ∨ k = 4 ∨ k = 5 ∨ k = 6 ∨ k = 7 ∨ k = 8 ∨ k = 9 ∨ k = 10 ∨ k = 11 ∨ k = 12 ∨ k = 13 ∨ k = 14 ∨ k = 21 ∨ k = 22 ∨ k = 23 ∨ k = 24 := by omega
    clear h
    rcases this with rfl | rfl | rfl | rfl | rfl | rfl | rfl | rfl | rfl | rfl | rfl | rfl | rfl | rfl | rfl | rfl | rfl | rfl
    all_goals
      go_enter Tryz.func198, Tryz.ntmps198
      go_wp2
      refine bodyPost_ret (v := shapeV (shapeK _)) ?_ rfl ⟨rfl, (by repeat (first | exact Ext.refl _ | exact Ext.pre (by simp) | exact Ext.alloc (by assumption) _ | refine Ext.alloc ?_ _ |  refine Ext.more ?_ _ _ | refine Ext.drew ?_ | refine Ext.drewN ?_ _))⟩
      simp [results, Tryz.f198, shapeV, shapeK, shV, go_sem]
  · have hn : shapeK k = none := by
      unfold shapeK
      simp only [show ¬ (k = 1 ∨ k = 21) by omega, show ¬ (k = 2 ∨ k = 14 ∨ k = 23) by omega, show ¬ k = 22 by omega, show ¬ (k = 3 ∨ k = 11) by omega, show ¬ (k = 4 ∨ k = 9) by omega, show ¬ k = 5 by omega, show ¬ k = 6 by omega, show ¬ k = 7 by omega, show ¬ (k = 8 ∨ k = 10) by omega, show ¬ k = 12 by omega, show ¬ k = 13 by omega, show ¬ k = 24 by omega, if_false]
    rw [hn]
    clear hn
    have e1 : (k == 1) = false := by simp; omega
    have e2 : (k == 2) = false := by simp; omega
    have e3 : (k == 3) = false := by simp; omega
    have e4 : (k == 4) = false := by simp; omega
    have e5 : (k == 5) = false := by simp; omega
    have e6 : (k == 6) = false := by simp; omega
    have e7 : (k == 7) = false := by simp; omega
    have e8 : (k == 8) = false := by simp; omega
    have e9 : (k == 9) = false := by simp; omega
    have e10 : (k == 10) = false := by simp; omega
    have e11 : (k == 11) = false := by simp; omega
    have e12 : (k == 12) = false := by simp; omega
    have e13 : (k == 13) = false := by simp; omega
    have e14 : (k == 14) = false := by simp; omega
    have e21 : (k == 21) = false := by simp; omega
    have e22 : (k == 22) = false := by simp; omega
    have e23 : (k == 23) = false := by simp; omega
    have e24 : (k == 24) = false := by simp; omega
    clear h
    go_enter Tryz.func198, Tryz.ntmps198
    go_wp2
    refine bodyPost_ret (v := shapeV none) ?_ rfl ⟨rfl, (by repeat (first | exact Ext.refl _ | exact Ext.pre (by simp) | exact Ext.alloc (by assumption) _ | refine Ext.alloc ?_ _ |  refine Ext.more ?_ _ _ | refine Ext.drew ?_ | refine Ext.drewN ?_ _))⟩
    simp [results, Tryz.f198, shapeV, go_sem]

end Go.Proofs.YtjacjpeeinnkcaaGreat
