/- Contracts of chapter 23: whether an instance may be; of the program. -/
import Derived.Test.YtcnkfkjgpdmebaaGreatDoorJN11
import Derived.RegionTactic
import Derived.Deep.DeepCutAuto
/- Contracts of chapter 23: whether an instance may be; of the program. -/
namespace Go.Proofs.YtcnkfkjgpdmebaaGreatDoor
open Go.RowKit

/-- Is a predicate one of a head's variables? -/
def headPlB (n : Int) (p : Pd) : Bool := conB p.cls && p.ty.con == [] && p.ty.args.isEmpty && decide (0 ≤ p.ty.var) && decide (p.ty.var < n)

set_option maxRecDepth 10000 in
set_option maxHeartbeats 2000000 in
theorem h_plain (p : Pd) (n : Int) (w : World) (h : PdIn w p) : Calls Tryz.prog 146 #[pdV p, .int .i64 n] w fun e w' => e = .returned (.bool (headPlB n p)) ∧ Ext w w' := by
  have HB := hide (PdBox.new w p)
  have hbl := HB.out.lt
  obtain ⟨W, hW⟩ : ∃ W, W = (w.alloc (.cells #[encStr p.cls, encStr p.ty.con, .int .i64 p.ty.var, .slice p.ty.A p.ty.args.length p.ty.cap] 55)).alloc (.cells #[encStr p.ty.con, .int .i64 p.ty.var, .slice p.ty.A p.ty.args.length p.ty.cap] 53) := ⟨_, rfl⟩
  have X0 : Hid (Ext w W) := hide (by rw [hW]; exact ((Ext.refl _).alloc _).alloc _)
  have HW := hide hW.symm
  obtain ⟨a0, a1, a2, a3⟩ := HB.out.cells
  obtain ⟨c0, c1, c2, c3⟩ := (HB.out.ext (by rw [hW]; exact (Ext.refl _).alloc _ : Ext _ W)).cells
  have hT : TBox W (w.heap.size + 1) p.ty := by rw [hW]; exact at_newB _ _ _ (by simp)
  have d0 := hT.c0
  have d1 := hT.c1
  have d2 := hT.c2
  have hbt := lt_of_obj hT
  have HN := hide (n_con p.cls W (by have := h.cls; omega))
  have HP : Hid (headPlB n p = (conB p.cls && p.ty.con == [] && p.ty.args.isEmpty && decide (0 ≤ p.ty.var) && decide (p.ty.var < n))) := hide rfl
  generalize headPlB n p = R at *
  have HL : Hid (p.ty.args.isEmpty = ((p.ty.args.length : Int) == 0)) := hide (by cases p.ty.args with
    | nil => rfl
    | cons x l => simp; omega)
  rw [HL.out] at HP
  clear hW h hT HL
  unfold pdV at *
  go_enter Tryz.func146, Tryz.ntmps146
  go_upto_region 2 with fail
  rw [HW.out]
  clear HW
  go_wp2_with fail
  refine HN.out.mono ?_
  rintro e w2 ⟨rfl, rfl⟩
  cases h1 : conB p.cls
  · rw [h1] at HP
    have hR : R = false := by rw [HP.out]; rfl
    subst hR
    go_wp2
    go_ret
    exact ⟨rfl, X0.out⟩
  · cases h2 : (p.ty.con == ([] : Str))
    · rw [h1, h2] at HP
      have hR : R = false := by rw [HP.out]; rfl
      subst hR
      go_wp2
      go_ret
      exact ⟨rfl, X0.out⟩
    · cases h3 : ((p.ty.args.length : Int) == 0)
      · rw [h1, h2, h3] at HP
        have hR : R = false := by rw [HP.out]; rfl
        subst hR
        go_wp2
        go_ret
        exact ⟨rfl, X0.out⟩
      · by_cases h4 : (0 : Int) ≤ p.ty.var
        · by_cases h5 : p.ty.var < n
          · rw [h1, h2, h3] at HP
            have hR : R = true := by rw [HP.out]; simp [h4, h5]
            subst hR
            go_wp2
            go_ret
            exact ⟨rfl, X0.out⟩
          · rw [h1, h2, h3] at HP
            have hR : R = false := by rw [HP.out]; simp [h5]
            subst hR
            go_wp2
            go_ret
            exact ⟨by simp; omega, X0.out⟩
        · rw [h1, h2, h3] at HP
          have hR : R = false := by rw [HP.out]; simp [h4]
          subst hR
          go_wp2
          go_ret
          exact ⟨rfl, X0.out⟩

/-- May an instance be? -/
def instHd (x : InD) : Bool := conB x.cls && (conB x.con || (x.con == [45, 62] && x.n == 2)) && decide (0 ≤ x.n) && decide (x.n ≤ 100)
def instB (x : InD) : Bool := instHd x && x.preds.all (headPlB x.n)
theorem instHd_n {x : InD} (h : instHd x = true) : 0 ≤ x.n ∧ x.n ≤ 100 := by
  unfold instHd at h
  simp only [Bool.and_eq_true, decide_eq_true_eq] at h
  exact ⟨h.1.2, h.2⟩

set_option maxRecDepth 10000 in
set_option maxHeartbeats 4000000 in
theorem h_check (x : InD) (w : World) (h : InIn w x) : Calls Tryz.prog 100 #[inV x] w fun e w' => e = .returned (.int .i64 (if instB x then 0 else 10)) ∧ Ext w w' := by
  obtain ⟨cls, con, n, A, cap, preds⟩ := x
  obtain ⟨W, hW⟩ : ∃ W, W = w.alloc (.cells #[encStr cls, encStr con, .int .i64 n, .slice A preds.length cap] 72) := ⟨_, rfl⟩
  have HW := hide hW.symm
  have X0 : Hid (Ext w W) := hide (by rw [hW]; exact (Ext.refl _).alloc _)
  have HB : Hid (InBox W w.heap.size ⟨cls, con, n, A, cap, preds⟩) := hide (by rw [hW]; exact InBox.new w ⟨cls, con, n, A, cap, preds⟩)
  obtain ⟨c0, c1, c2, c3⟩ := HB.out.cells
  have hbl := HB.out.lt
  have hcl : cls.length ≤ 1000000000000000000 := h.txt
  have hco : con.length ≤ 1000000000000000000 := h.ctxt
  have hle := h.le
  have hmx := h.max
  have HPs := hide (h.row.ext X0.out)
  have HN1 := hide (n_con cls W (by omega))
  have HN2 := hide (n_con con W (by omega))
  have HI : Hid (instB ⟨cls, con, n, A, cap, preds⟩ = (instHd ⟨cls, con, n, A, cap, preds⟩ && preds.all (headPlB n))) := hide rfl
  have HH : Hid (instHd ⟨cls, con, n, A, cap, preds⟩ = (conB cls && (conB con || (con == [45, 62] && n == 2)) && decide (0 ≤ n) && decide (n ≤ 100))) := hide rfl
  generalize instB ⟨cls, con, n, A, cap, preds⟩ = R at *
  generalize instHd ⟨cls, con, n, A, cap, preds⟩ = H at *
  simp only [] at *
  clear hW h
  unfold inV at *
  go_enter Tryz.func100, Tryz.ntmps100
  go_upto_region 1 with fail
  rw [HW.out]
  clear HW
  go_cut [3] (fun s3 wx => s3 = .bool H ∧ W = wx)
  case first =>
    clear HI HPs
    go_wp2_with fail
    refine HN1.out.mono ?_
    rintro e w2 ⟨rfl, rfl⟩
    cases h1 : conB cls
    · have hH : H = false := by rw [HH.out]; simp [h1]
      clear HH
      subst hH
      go_wp2_with fail
      go_meet
      exact ⟨by simp, rfl⟩
    · go_wp2_with fail
      refine HN2.out.mono ?_
      rintro e w3 ⟨rfl, rfl⟩
      cases h2 : conB con
      · cases h3 : (con == ([45, 62] : Str))
        · have hH : H = false := by rw [HH.out]; simp [h1, h2, h3]
          clear HH
          subst hH
          go_wp2_with fail
          go_meet
          exact ⟨by simp, rfl⟩
        · cases h4 : (n == 2)
          · have hH : H = false := by rw [HH.out]; simp [h1, h2, h3, h4]
            clear HH
            subst hH
            go_wp2_with fail
            go_meet
            exact ⟨by simp, rfl⟩
          · by_cases hn0 : (0 : Int) ≤ n
            · by_cases hn1 : n ≤ 100
              · have hH : H = true := by rw [HH.out]; simp [h1, h2, h3, h4, hn0, hn1]
                clear HH
                subst hH
                go_wp2_with fail
                go_meet
                exact ⟨by simp, rfl⟩
              · have hH : H = false := by rw [HH.out]; simp [h1, h2, h3, h4, hn0, hn1]
                clear HH
                subst hH
                go_wp2_with fail
                go_meet
                exact ⟨by simp; omega, rfl⟩
            · have hH : H = false := by rw [HH.out]; simp [h1, h2, h3, h4, hn0]
              clear HH
              subst hH
              go_wp2_with fail
              go_meet
              exact ⟨by simp, rfl⟩
      · by_cases hn0 : (0 : Int) ≤ n
        · by_cases hn1 : n ≤ 100
          · have hH : H = true := by rw [HH.out]; simp [h1, h2, hn0, hn1]
            clear HH
            subst hH
            go_wp2_with fail
            go_meet
            exact ⟨by simp, rfl⟩
          · have hH : H = false := by rw [HH.out]; simp [h1, h2, hn0, hn1]
            clear HH
            subst hH
            go_wp2_with fail
            go_meet
            exact ⟨by simp; omega, rfl⟩
        · have hH : H = false := by rw [HH.out]; simp [h1, h2, hn0]
          clear HH
          subst hH
          go_wp2_with fail
          go_meet
          exact ⟨by simp, rfl⟩
  case rest =>
    obtain ⟨rfl, rfl⟩ := hcut
    clear HH HN1 HN2
    go_wp2
    go_loopw [3, 37] (fun t3 i wr => ∃ k : Nat, k ≤ preds.length ∧ i = .int .i64 k ∧ t3 = .bool (H && (preds.take k).all (headPlB n)) ∧ Hid (Ext W wr)) (fun _ i _ => preds.length - (intOf i).toNat)
    case atStart => exact ⟨0, Nat.zero_le _, rfl, by simp, hide (Ext.refl _)⟩
    case round =>
      obtain ⟨k, hk, rfl, rfl, HX⟩ := hrel
      obtain ⟨c0, c1, c2, c3⟩ := (HB.out.ext HX.out).cells
      have hbw := (HB.out.ext HX.out).lt
      simp only [] at c0 c1 c2 c3
      by_cases hlt : k < preds.length
      · have hlt' : (k : Int) < (preds.length : Int) := by omega
        have hk0 : (0 : Int) ≤ (k : Int) := by omega
        have HTk : Hid ((preds.take (k + 1)).all (headPlB n) = ((preds.take k).all (headPlB n) && headPlB n (preds[k]'hlt))) := hide (by rw [List.take_succ_eq_append_getElem hlt, List.all_append]; simp)
        obtain ⟨b, o, rfl, hb, q0, q1, q2, q3⟩ := (HPs.out.ext HX.out).at_ hlt
        have HP := hide ((HPs.out.ext HX.out).all _ (List.getElem_mem hlt))
        generalize preds[k]'hlt = p at *
        have HBx := hide (PdBox.new wr p)
        have hbx := HBx.out.lt
        obtain ⟨d0, d1, d2, d3⟩ := HBx.out.cells
        have HQ := hide (h_plain p n _ (HP.out.ext ((Ext.refl wr).alloc (.cells #[encStr p.cls, encStr p.ty.con, .int .i64 p.ty.var, .slice p.ty.A p.ty.args.length p.ty.cap] 55))))
        generalize (preds.take k).all (headPlB n) = B at *
        generalize headPlB n p = B3 at *
        unfold pdV at HQ
        cases hS : (H && B)
        · go_wp2
          go_roundw
          case rel => exact ⟨k + 1, hlt, by go_num, by rw [HTk.out, ← Bool.and_assoc, hS]; rfl, hide (HX.out.trans (by repeat (first | exact Ext.refl _ | exact Ext.pre (by simp) | exact Ext.alloc (by assumption) _ | refine Ext.alloc ?_ _ |  refine Ext.more ?_ _ _ | refine Ext.drew ?_ | refine Ext.drewN ?_ _)))⟩
          case measure => simp [intOf]; omega
        · go_wp2_with fail
          refine HQ.out.mono ?_
          rintro e w2 ⟨rfl, hx⟩
          have X2 := hide hx
          clear hx
          go_wp2
          go_roundw
          case rel => exact ⟨k + 1, hlt, by go_num, by rw [HTk.out, ← Bool.and_assoc, hS]; rfl, hide (HX.out.trans (Ext.trans (by repeat (first | exact Ext.refl _ | exact Ext.pre (by simp) | exact Ext.alloc (by assumption) _ | refine Ext.alloc ?_ _ |  refine Ext.more ?_ _ _ | refine Ext.drew ?_ | refine Ext.drewN ?_ _)) X2.out))⟩
          case measure => simp [intOf]; omega
      · have hge : ¬ (k : Int) < (preds.length : Int) := by omega
        have hR : (H && (preds.take k).all (headPlB n)) = R := by rw [HI.out, List.take_of_length_le (by omega)]
        rw [hR]
        clear hR HI
        cases R
        · go_wp2
          go_ret
          exact ⟨rfl, X0.out.trans HX.out⟩
        · go_wp2
          go_ret
          exact ⟨rfl, X0.out.trans HX.out⟩

end Go.Proofs.YtcnkfkjgpdmebaaGreatDoor

/- The class of a name. No program in sight. -/
namespace Go.Proofs.YtcnkfkjgpdmebaaGreatDoor
open Go.RowKit

def KlD.zero : KlD := ⟨[], none, 0, [], none, 0, []⟩
def clF (cs : List KlD) (name : Str) : Option KlD := cs.find? fun c => c.name == name
theorem clF_mem {cs : List KlD} {name : Str} {c : KlD} (h : clF cs name = some c) : c ∈ cs := List.mem_of_find?_eq_some h

end Go.Proofs.YtcnkfkjgpdmebaaGreatDoor

/- Types in the place of variables (substitutions): rising pairs, what is put, sizes. Plain; no program in sight. -/
namespace Go.Proofs.YtcnkfkjgpdmebaaGreatDoor
open Go.RowKit

/-- A variable, and what stands in its place. -/
structure Pr where
  v : Int
  ty : Ty
def Pr.cells (p : Pr) : List Value := [.int .i64 p.v, encStr p.ty.con, .int .i64 p.ty.var, .slice p.ty.A p.ty.args.length p.ty.cap]
def prC : Coder Pr := ⟨4, Pr.cells, fun _ => rfl, by omega⟩
noncomputable def Pr.pure (p : Pr) : Int × Ty.Pure := (p.v, p.ty.pure)
abbrev vsP (s : List Pr) : List Int := s.map Pr.v
abbrev tsP (s : List Pr) : List Ty := s.map Pr.ty
def RiseP (s : List Pr) : Prop := s.Pairwise fun a b => a.v < b.v
/-- The place at which a variable stands, or would stand. -/
structure LbP (s : List Pr) (v : Int) (i : Nat) : Prop where
  le : i ≤ s.length
  lo : ∀ k (h : k < s.length), k < i → (s[k]'h).v < v
  hi : ∀ k (h : k < s.length), i ≤ k → v ≤ (s[k]'h).v
def hasAt (s : List Pr) (v : Int) (i : Nat) : Bool := match s[i]? with | some p => p.v == v | none => false
theorem hasAt_lt {s : List Pr} {v : Int} {i : Nat} (h : i < s.length) : hasAt s v i = ((s[i]'h).v == v) := by
  unfold hasAt
  rw [List.getElem?_eq_getElem h]
theorem hasAt_end {s : List Pr} {v : Int} {i : Nat} (h : ¬ i < s.length) : hasAt s v i = false := by
  unfold hasAt
  rw [List.getElem?_eq_none (by omega)]
theorem hasAt_true {s : List Pr} {v : Int} {i : Nat} (h : hasAt s v i = true) : ∃ hi : i < s.length, (s[i]'hi).v = v := by
  by_cases hi : i < s.length
  · rw [hasAt_lt hi] at h
    exact ⟨hi, by simpa using h⟩
  · rw [hasAt_end hi] at h
    cases h
theorem rise_lt {s : List Pr} (h : RiseP s) {i k : Nat} (hik : i < k) (hk : k < s.length) : (s[i]'(by omega)).v < (s[k]'hk).v :=
  List.pairwise_iff_getElem.1 h i k (by omega) hk hik
theorem rise_eq {s : List Pr} (h : RiseP s) {p q : Pr} (hp : p ∈ s) (hq : q ∈ s) (e : p.v = q.v) : p = q := by
  obtain ⟨i, hi, rfl⟩ := List.mem_iff_getElem.1 hp
  obtain ⟨k, hk, rfl⟩ := List.mem_iff_getElem.1 hq
  rcases Nat.lt_trichotomy i k with hl | rfl | hl
  · have := rise_lt h hl hk; omega
  · rfl
  · have := rise_lt h hl hi; omega
theorem vsP_getD (s : List Pr) {j : Nat} (h : j < s.length) : (vsP s).getD j 0 = (s[j]'h).v := by
  simp [List.getD_eq_getElem?_getD, List.getElem?_eq_getElem h]
/-- What a place tells. -/
theorem putAt_lb {s : List Pr} {v : Int} {i : Nat} (hr : RiseP s) (h : LbP s v i) : putAt (vsP s) (tsP s) v = if hasAt s v i = true then (s[i]?).map Pr.ty else none := by
  by_cases hh : hasAt s v i = true
  · obtain ⟨hi, hv⟩ := hasAt_true hh
    have e : idxI (vsP s) v = i := idxI_at (vsP s) v 0 (by simpa using hi) (fun j hj => by
      rw [vsP_getD s (by omega)]
      have := h.lo j (by omega) hj
      simp; omega) (by rw [vsP_getD s hi, hv]; simp)
    rw [if_pos hh]
    unfold putAt
    rw [e, if_pos (by omega), Int.toNat_natCast, List.getElem?_map]
  · have e : idxI (vsP s) v = -1 := idxI_no (vsP s) v 0 (fun j hj => by
      have hj' : j < s.length := by simpa using hj
      rw [vsP_getD s hj']
      simp only [beq_eq_false_iff_ne, ne_eq]
      intro hv
      rcases Nat.lt_trichotomy j i with hl | rfl | hl
      · have := h.lo j hj' hl; omega
      · rw [hasAt_lt hj'] at hh; simp [hv] at hh
      · have h1 := h.hi i (by omega) (Nat.le_refl _)
        have h2 := rise_lt hr hl hj'
        omega)
    rw [if_neg hh]
    unfold putAt
    rw [e]
    rfl
/-- The place, as the first at which none is below. -/
theorem lb_any (s : List Pr) (hr : RiseP s) (v : Int) : ∃ i, LbP s v i := by
  refine ⟨(s.filter fun p => decide (p.v < v)).length, ?_⟩
  induction s with
  | nil => exact ⟨Nat.le_refl _, fun k h => absurd h (Nat.not_lt_zero _), fun k h => absurd h (Nat.not_lt_zero _)⟩
  | cons x s ih =>
    have h1 := List.pairwise_cons.1 hr
    have h2 := ih h1.2
    by_cases hx : x.v < v
    · rw [List.filter_cons_of_pos (by simpa using hx), List.length_cons]
      refine ⟨by have := h2.le; simp only [List.length_cons]; omega, fun k h hk => ?_, fun k h hk => ?_⟩
      · cases k with
        | zero => exact hx
        | succ k => exact h2.lo k (by simpa using h) (by omega)
      · cases k with
        | zero => omega
        | succ k => exact h2.hi k (by simpa using h) (by omega)
    · have hf : (List.filter (fun p => decide (p.v < v)) (x :: s)).length = 0 := by
        rw [List.length_eq_zero_iff, List.filter_eq_nil_iff]
        intro y hy
        rcases List.mem_cons.1 hy with rfl | hy
        · simpa using hx
        · have := h1.1 y hy
          simp; omega
      rw [hf]
      refine ⟨Nat.zero_le _, fun k h hk => absurd hk (Nat.not_lt_zero _), fun k h _ => ?_⟩
      cases k with
      | zero => show v ≤ x.v; omega
      | succ k =>
        have := h1.1 _ (List.getElem_mem (by simpa using h : k < s.length))
        show v ≤ (s[k]'_).v
        omega
theorem putAt_some {s : List Pr} (hr : RiseP s) {v : Int} {u : Ty} : putAt (vsP s) (tsP s) v = some u ↔ ∃ p ∈ s, p.v = v ∧ p.ty = u := by
  obtain ⟨i, hi⟩ := lb_any s hr v
  rw [putAt_lb hr hi]
  by_cases hh : hasAt s v i = true
  · obtain ⟨h1, h2⟩ := hasAt_true hh
    rw [if_pos hh, List.getElem?_eq_getElem h1, Option.map_some]
    constructor
    · intro e; injection e with e; exact ⟨_, List.getElem_mem h1, h2, e⟩
    · rintro ⟨p, hp, e1, e2⟩
      rw [← rise_eq hr (List.getElem_mem h1) hp (h2.trans e1.symm)] at e2
      rw [e2]
  · rw [if_neg hh]
    constructor
    · intro e; cases e
    · rintro ⟨p, hp, e1, -⟩
      exfalso
      obtain ⟨k, hk, rfl⟩ := List.mem_iff_getElem.1 hp
      rcases Nat.lt_trichotomy k i with hl | rfl | hl
      · have := hi.lo k hk hl; omega
      · rw [hasAt_lt hk] at hh; simp [e1] at hh
      · have h1 := hi.hi i (by omega) (Nat.le_refl _)
        have h2 := rise_lt hr hl hk
        omega
theorem putAt_no {s : List Pr} (hr : RiseP s) {v : Int} : putAt (vsP s) (tsP s) v = none ↔ ∀ p ∈ s, p.v ≠ v := by
  constructor
  · intro h p hp e
    have := (putAt_some hr).2 ⟨p, hp, e, rfl⟩
    rw [h] at this
    cases this
  · intro h
    cases e : putAt (vsP s) (tsP s) v with
    | none => rfl
    | some u =>
      obtain ⟨p, hp, e1, -⟩ := (putAt_some hr).1 e
      exact absurd e1 (h p hp)
theorem hasAt_iff {s : List Pr} {v : Int} {i : Nat} (hr : RiseP s) (h : LbP s v i) : hasAt s v i = true ↔ (putAt (vsP s) (tsP s) v).isSome = true := by
  rw [putAt_lb hr h]
  by_cases hh : hasAt s v i = true
  · obtain ⟨h1, h2⟩ := hasAt_true hh
    rw [if_pos hh, List.getElem?_eq_getElem h1]
    simp [hh]
  · rw [if_neg hh]
    simp [hh]
/-- With one more. -/
def insP (s : List Pr) (i : Nat) (v : Int) (t : Ty) : List Pr := s.take i ++ ⟨v, t⟩ :: s.drop i
theorem insP_len {s : List Pr} {i : Nat} {v : Int} {t : Ty} (h : i ≤ s.length) : (insP s i v t).length = s.length + 1 := by
  unfold insP
  rw [List.length_append, List.length_cons, List.length_take, List.length_drop]
  omega
theorem insP_mem {s : List Pr} {i : Nat} {v : Int} {t : Ty} {p : Pr} : p ∈ insP s i v t ↔ p = ⟨v, t⟩ ∨ p ∈ s := by
  unfold insP
  rw [List.mem_append, List.mem_cons]
  have : p ∈ s ↔ p ∈ s.take i ∨ p ∈ s.drop i := by rw [← List.mem_append, List.take_append_drop]
  rw [this]
  constructor
  · rintro (h | h | h)
    · exact .inr (.inl h)
    · exact .inl h
    · exact .inr (.inr h)
  · rintro (h | h | h)
    · exact .inr (.inl h)
    · exact .inl h
    · exact .inr (.inr h)
theorem insP_rise {s : List Pr} {i : Nat} {v : Int} {t : Ty} (hr : RiseP s) (h : LbP s v i) (hn : hasAt s v i = false) : RiseP (insP s i v t) := by
  unfold insP RiseP
  have hs : (s.take i ++ s.drop i).Pairwise fun a b => a.v < b.v := by rw [List.take_append_drop]; exact hr
  obtain ⟨h1, h2, h3⟩ := List.pairwise_append.1 hs
  have hlo : ∀ p ∈ s.take i, p.v < v := by
    intro p hp
    obtain ⟨k, hk, rfl⟩ := List.mem_iff_getElem.1 hp
    rw [List.length_take] at hk
    rw [List.getElem_take]
    exact h.lo k (by omega) (by omega)
  have hhi : ∀ p ∈ s.drop i, v < p.v := by
    intro p hp
    obtain ⟨k, hk, rfl⟩ := List.mem_iff_getElem.1 hp
    rw [List.length_drop] at hk
    rw [List.getElem_drop]
    have hi : i < s.length := by omega
    have g := h.hi (i + k) (by omega) (by omega)
    rcases Nat.eq_zero_or_pos k with rfl | hk0
    · rw [hasAt_lt hi] at hn
      have : (s[i]'hi).v ≠ v := by simpa using hn
      simp only [Nat.add_zero] at g ⊢
      omega
    · have := rise_lt hr (show i < i + k by omega) (by omega)
      have := h.hi i hi (Nat.le_refl _)
      omega
  refine List.pairwise_append.2 ⟨h1, List.pairwise_cons.2 ⟨fun p hp => hhi p hp, h2⟩, fun a ha b hb => ?_⟩
  rcases List.mem_cons.1 hb with rfl | hb
  · exact hlo a ha
  · exact h3 a ha b hb
theorem insP_at {s : List Pr} {i : Nat} {v : Int} {t : Ty} (hr : RiseP s) (h : LbP s v i) (hn : hasAt s v i = false) (x : Int) : putAt (vsP (insP s i v t)) (tsP (insP s i v t)) x = if x = v then some t else putAt (vsP s) (tsP s) x := by
  have hri := insP_rise (t := t) hr h hn
  by_cases hx : x = v
  · subst hx
    rw [if_pos rfl, putAt_some hri]
    exact ⟨⟨x, t⟩, insP_mem.2 (.inl rfl), rfl, rfl⟩
  · rw [if_neg hx]
    cases e : putAt (vsP s) (tsP s) x with
    | none =>
      rw [putAt_no hri]
      intro p hp
      rcases insP_mem.1 hp with rfl | hp
      · exact fun e => hx e.symm
      · exact (putAt_no hr).1 e p hp
    | some u =>
      obtain ⟨p, hp, e1, e2⟩ := (putAt_some hr).1 e
      exact (putAt_some hri).2 ⟨p, insP_mem.2 (.inr hp), e1, e2⟩
theorem ty_sd (t : Ty) : ∀ u : Ty, t.pure = u.pure → t.size = u.size ∧ t.depth = u.depth := by
  induction t using Ty.ind with
  | h t ih =>
  intro u hu
  rw [Ty.pure_eq t, Ty.pure_eq u] at hu
  injection hu with _ _ hu
  have hl : t.args.length = u.args.length := by simpa using congrArg List.length hu
  have hk : ∀ i (h1 : i < t.args.length) (h2 : i < u.args.length), (t.args[i]'h1).size = (u.args[i]'h2).size ∧ (t.args[i]'h1).depth = (u.args[i]'h2).depth := by
    intro i h1 h2
    refine ih _ (List.getElem_mem h1) _ ?_
    have : (t.args.map Ty.pure)[i]? = (u.args.map Ty.pure)[i]? := by rw [hu]
    rw [List.getElem?_map, List.getElem?_map, List.getElem?_eq_getElem h1, List.getElem?_eq_getElem h2] at this
    simpa using this
  have e1 : t.args.map Ty.size = u.args.map Ty.size := List.ext_getElem (by simpa using hl) (fun i h1 h2 => by
    simp only [List.getElem_map]
    exact (hk i (by simpa using h1) (by simpa using h2)).1)
  have e2 : t.args.map Ty.depth = u.args.map Ty.depth := List.ext_getElem (by simpa using hl) (fun i h1 h2 => by
    simp only [List.getElem_map]
    exact (hk i (by simpa using h1) (by simpa using h2)).2)
  rw [Ty.size_eq t, Ty.size_eq u, Ty.depth_eq t, Ty.depth_eq u, e2]
  rw [e1]
  exact ⟨rfl, rfl⟩
/-! ### How great what is put is -/
noncomputable def szS (vars : List Int) (types : List Ty) : Ty → Nat := Ty.fold fun t l => if t.con = [] then (match putAt vars types t.var with | some u => u.size | none => 1) else l.sum + 1
theorem szS_eq (vars : List Int) (types : List Ty) (t : Ty) : szS vars types t = if t.con = [] then (match putAt vars types t.var with | some u => u.size | none => 1) else (t.args.map (szS vars types)).sum + 1 := by unfold szS; rw [Ty.fold_eq]
noncomputable def dpS (vars : List Int) (types : List Ty) : Ty → Nat := Ty.fold fun t l => if t.con = [] then (match putAt vars types t.var with | some u => u.depth | none => 1) else l.foldr max 0 + 1
theorem dpS_eq (vars : List Int) (types : List Ty) (t : Ty) : dpS vars types t = if t.con = [] then (match putAt vars types t.var with | some u => u.depth | none => 1) else (t.args.map (dpS vars types)).foldr max 0 + 1 := by unfold dpS; rw [Ty.fold_eq]
/-- A type that is a variable has no args. -/
noncomputable def flatB : Ty → Bool := Ty.allB fun t => !(t.con == ([] : Str)) || t.args.isEmpty
theorem flatB_eq (t : Ty) : flatB t = ((!(t.con == ([] : Str)) || t.args.isEmpty) && t.args.all flatB) := allB_eq _ t
theorem flatB_arg {t k : Ty} (h : flatB t = true) (hk : k ∈ t.args) : flatB k = true := by
  rw [flatB_eq, Bool.and_eq_true, List.all_eq_true] at h
  exact h.2 k hk
theorem flatB_var {t : Ty} (h : flatB t = true) (hc : t.con = []) : t.args = [] := by
  rw [flatB_eq, Bool.and_eq_true] at h
  have := h.1
  rw [hc] at this
  simpa using this
theorem put_size (vars : List Int) (types : List Ty) (t : Ty) : flatB t = true → ∀ u : Ty, u.pure = putP vars types t → u.size = szS vars types t ∧ u.depth = dpS vars types t := by
  induction t using Ty.ind with
  | h t ih =>
  intro hf u hu
  rw [putP_eq] at hu
  rw [szS_eq, dpS_eq]
  by_cases hc : t.con = []
  · rw [if_pos hc] at hu
    rw [if_pos hc, if_pos hc]
    cases e : putAt vars types t.var with
    | none =>
      rw [e] at hu
      have ha := flatB_var hf hc
      have h1 : u.args.length = 0 := by
        rw [Ty.pure_eq u, Option.getD_none, Ty.pure_eq t, ha] at hu
        injection hu with _ _ hu
        simpa using congrArg List.length hu
      have h2 : u.args = [] := List.length_eq_zero_iff.1 h1
      rw [Ty.size_eq, Ty.depth_eq, h2]
      exact ⟨rfl, rfl⟩
    | some x =>
      rw [e, Option.getD_some] at hu
      exact ty_sd u x hu
  · rw [if_neg hc] at hu
    rw [if_neg hc, if_neg hc, Ty.size_eq, Ty.depth_eq]
    rw [Ty.pure_eq u] at hu
    injection hu with _ _ hu
    have hl : u.args.length = t.args.length := by simpa using congrArg List.length hu
    have hk : ∀ i (h1 : i < u.args.length) (h2 : i < t.args.length), (u.args[i]'h1).size = szS vars types (t.args[i]'h2) ∧ (u.args[i]'h1).depth = dpS vars types (t.args[i]'h2) := by
      intro i h1 h2
      refine ih _ (List.getElem_mem h2) (flatB_arg hf (List.getElem_mem h2)) _ ?_
      have : (u.args.map Ty.pure)[i]? = (t.args.map (putP vars types))[i]? := by rw [hu]
      rw [List.getElem?_map, List.getElem?_map, List.getElem?_eq_getElem h1, List.getElem?_eq_getElem h2] at this
      simpa using this
    have e1 : u.args.map Ty.size = t.args.map (szS vars types) := List.ext_getElem (by simpa using hl) (fun i h1 h2 => by
      simp only [List.getElem_map]
      exact (hk i (by simpa using h1) (by simpa using h2)).1)
    have e2 : u.args.map Ty.depth = t.args.map (dpS vars types) := List.ext_getElem (by simpa using hl) (fun i h1 h2 => by
      simp only [List.getElem_map]
      exact (hk i (by simpa using h1) (by simpa using h2)).2)
    rw [e2]
    rw [e1]
    exact ⟨rfl, rfl⟩

/-! ### Variables for variables -/
/-- A type with other variables. -/
noncomputable def renP (r : Int → Int) : Ty → Ty.Pure := Ty.fold fun t l => if t.con = [] then .mk [] (r t.var) [] else .mk t.con t.var l
theorem renP_eq (r : Int → Int) (t : Ty) : renP r t = if t.con = [] then .mk [] (r t.var) [] else .mk t.con t.var (t.args.map (renP r)) := by unfold renP; rw [Ty.fold_eq]
theorem put_ren (vars : List Int) (types : List Ty) (r : Int → Int) (t : Ty) (h : ∀ v ∈ t.vars, (putAt vars types v).map Ty.pure = some (.mk [] (r v) [])) : putP vars types t = renP r t := by
  induction t using Ty.ind with
  | h t ih =>
  rw [putP_eq, renP_eq]
  rw [vars_eq] at h
  by_cases hc : t.con = []
  · rw [if_pos hc, if_pos hc]
    have := h t.var (by rw [if_pos hc]; simp)
    cases e : putAt vars types t.var with
    | none => rw [e] at this; cases this
    | some u =>
      rw [e] at this
      simpa using this
  · rw [if_neg hc, if_neg hc]
    congr 1
    exact List.map_congr_left (fun k hk => ih k hk (fun v hv => h v (List.mem_append.2 (.inr (List.mem_flatten.2 ⟨_, List.mem_map.2 ⟨k, hk, rfl⟩, hv⟩)))))
theorem ren_size (r : Int → Int) (t : Ty) : flatB t = true → ∀ u : Ty, u.pure = renP r t → u.size = t.size ∧ u.depth = t.depth := by
  induction t using Ty.ind with
  | h t ih =>
  intro hf u hu
  rw [renP_eq] at hu
  rw [Ty.size_eq, Ty.depth_eq, Ty.size_eq t, Ty.depth_eq t]
  rw [Ty.pure_eq u] at hu
  by_cases hc : t.con = []
  · rw [if_pos hc] at hu
    injection hu with _ _ hu
    have h2 : u.args = [] := by simpa using hu
    rw [h2, flatB_var hf hc]
    exact ⟨rfl, rfl⟩
  · rw [if_neg hc] at hu
    injection hu with _ _ hu
    have hl : u.args.length = t.args.length := by simpa using congrArg List.length hu
    have hk : ∀ i (h1 : i < u.args.length) (h2 : i < t.args.length), (u.args[i]'h1).size = (t.args[i]'h2).size ∧ (u.args[i]'h1).depth = (t.args[i]'h2).depth := by
      intro i h1 h2
      refine ih _ (List.getElem_mem h2) (flatB_arg hf (List.getElem_mem h2)) _ ?_
      have : (u.args.map Ty.pure)[i]? = (t.args.map (renP r))[i]? := by rw [hu]
      rw [List.getElem?_map, List.getElem?_map, List.getElem?_eq_getElem h1, List.getElem?_eq_getElem h2] at this
      simpa using this
    have e1 : u.args.map Ty.size = t.args.map Ty.size := List.ext_getElem (by simpa using hl) (fun i h1 h2 => by
      simp only [List.getElem_map]
      exact (hk i (by simpa using h1) (by simpa using h2)).1)
    have e2 : u.args.map Ty.depth = t.args.map Ty.depth := List.ext_getElem (by simpa using hl) (fun i h1 h2 => by
      simp only [List.getElem_map]
      exact (hk i (by simpa using h1) (by simpa using h2)).2)
    rw [e2]
    rw [e1]
    exact ⟨rfl, rfl⟩

end Go.Proofs.YtcnkfkjgpdmebaaGreatDoor

/- What is put in the place of variables: whether it may be; scheme's new variables. Plain. -/
namespace Go.Proofs.YtcnkfkjgpdmebaaGreatDoor
open Go.RowKit

theorem headOk_nil {v : Int} {n : Nat} (h : headOk [] v n = true) : n = 0 := by
  unfold headOk at h
  simpa using h
theorem flat_shape (t : Ty) : shapeT t = true → flatB t = true := by
  induction t using Ty.ind with
  | h t ih =>
  intro h
  rw [shapeT_eq, Bool.and_eq_true, List.all_eq_true] at h
  rw [flatB_eq, Bool.and_eq_true, List.all_eq_true]
  refine ⟨?_, fun k hk => ih k hk (h.2 k hk)⟩
  by_cases hc : t.con = []
  · have h1 := h.1
    rw [hc] at h1
    have := headOk_nil h1
    rw [List.length_eq_zero_iff.1 this]
    simp
  · have : (t.con == ([] : Str)) = false := by simpa using hc
    rw [this]
    rfl
theorem flatB_legal {t : Ty} (h : legalT t = true) : flatB t = true := by
  unfold legalT at h
  rw [Bool.and_eq_true] at h
  exact flat_shape t h.2
theorem shape_pu (t : Ty) : ∀ u : Ty, u.pure = t.pure → shapeT t = true → shapeT u = true := by
  induction t using Ty.ind with
  | h t ih =>
  intro u hu h
  rw [shapeT_eq, Bool.and_eq_true, List.all_eq_true] at h ⊢
  rw [Ty.pure_eq t, Ty.pure_eq u] at hu
  injection hu with e1 e2 hu
  have hl : u.args.length = t.args.length := by simpa using congrArg List.length hu
  refine ⟨by rw [e1, e2, hl]; exact h.1, fun k hk => ?_⟩
  obtain ⟨i, h1, rfl⟩ := List.mem_iff_getElem.1 hk
  have h2 : i < t.args.length := by omega
  refine ih _ (List.getElem_mem h2) _ ?_ (h.2 _ (List.getElem_mem h2))
  have : (u.args.map Ty.pure)[i]? = (t.args.map Ty.pure)[i]? := by rw [hu]
  rw [List.getElem?_map, List.getElem?_map, List.getElem?_eq_getElem h1, List.getElem?_eq_getElem h2] at this
  simpa using this
theorem shape_put (vars : List Int) (types : List Ty) (hts : ∀ k ∈ types, shapeT k = true) (t : Ty) : shapeT t = true → ∀ u : Ty, u.pure = putP vars types t → shapeT u = true := by
  induction t using Ty.ind with
  | h t ih =>
  intro h u hu
  rw [putP_eq] at hu
  by_cases hc : t.con = []
  · rw [if_pos hc] at hu
    cases e : putAt vars types t.var with
    | none => rw [e] at hu; exact shape_pu t u hu h
    | some x => rw [e] at hu; exact shape_pu x u hu (hts x (putAt_mem e))
  · rw [if_neg hc, Ty.pure_eq u] at hu
    injection hu with e1 e2 hu
    rw [shapeT_eq, Bool.and_eq_true, List.all_eq_true] at h ⊢
    have hl : u.args.length = t.args.length := by simpa using congrArg List.length hu
    refine ⟨by rw [e1, e2, hl]; exact h.1, fun k hk => ?_⟩
    obtain ⟨i, h1, rfl⟩ := List.mem_iff_getElem.1 hk
    have h2 : i < t.args.length := by omega
    refine ih _ (List.getElem_mem h2) (h.2 _ (List.getElem_mem h2)) _ ?_
    have : (u.args.map Ty.pure)[i]? = (t.args.map (putP vars types))[i]? := by rw [hu]
    rw [List.getElem?_map, List.getElem?_map, List.getElem?_eq_getElem h1, List.getElem?_eq_getElem h2] at this
    simpa using this
theorem legal_parts {t : Ty} (h : legalT t = true) : t.size ≤ 4096 ∧ t.depth ≤ 100 ∧ shapeT t = true := by
  unfold legalT at h
  rw [Bool.and_eq_true, Bool.and_eq_true, decide_eq_true_eq, decide_eq_true_eq] at h
  exact ⟨h.1.1, h.1.2, h.2⟩
theorem legal_put {vars : List Int} {types : List Ty} (hts : ∀ k ∈ types, legalT k = true) {t u : Ty} (h : legalT t = true) (hu : u.pure = putP vars types t) :
    legalT u = (decide (szS vars types t ≤ 4096) && decide (dpS vars types t ≤ 100)) := by
  obtain ⟨-, -, hs⟩ := legal_parts h
  obtain ⟨h1, h2⟩ := put_size vars types t (flat_shape t hs) u hu
  unfold legalT
  rw [h1, h2, shape_put vars types (fun k hk => (legal_parts (hts k hk)).2.2) t hs u hu, Bool.and_true]
theorem legal_var (v : Int) (A : Option Addr) (c : Nat) : legalT (.mk [] v A c []) = true := by
  unfold legalT
  rw [shapeT_eq, Ty.size_eq, Ty.depth_eq]
  rfl
theorem shape_ren (r : Int → Int) (t : Ty) : shapeT t = true → ∀ u : Ty, u.pure = renP r t → shapeT u = true := by
  induction t using Ty.ind with
  | h t ih =>
  intro h u hu
  rw [renP_eq, Ty.pure_eq u] at hu
  rw [shapeT_eq, Bool.and_eq_true, List.all_eq_true] at h ⊢
  by_cases hc : t.con = []
  · rw [if_pos hc] at hu
    injection hu with e1 e2 hu
    have h0 : u.args = [] := by simpa using hu
    rw [h0, e1]
    exact ⟨rfl, fun k hk => by cases hk⟩
  · rw [if_neg hc] at hu
    injection hu with e1 e2 hu
    have hl : u.args.length = t.args.length := by simpa using congrArg List.length hu
    refine ⟨by rw [e1, e2, hl]; exact h.1, fun k hk => ?_⟩
    obtain ⟨i, h1, rfl⟩ := List.mem_iff_getElem.1 hk
    have h2 : i < t.args.length := by omega
    refine ih _ (List.getElem_mem h2) (h.2 _ (List.getElem_mem h2)) _ ?_
    have : (u.args.map Ty.pure)[i]? = (t.args.map (renP r))[i]? := by rw [hu]
    rw [List.getElem?_map, List.getElem?_map, List.getElem?_eq_getElem h1, List.getElem?_eq_getElem h2] at this
    simpa using this
theorem legal_ren {r : Int → Int} {t u : Ty} (h : legalT t = true) (hu : u.pure = renP r t) : legalT u = true := by
  obtain ⟨h1, h2, hs⟩ := legal_parts h
  obtain ⟨k1, k2⟩ := ren_size r t (flat_shape t hs) u hu
  unfold legalT
  rw [k1, k2, shape_ren r t hs u hu, decide_eq_true h1, decide_eq_true h2]
  rfl

/-! ### New variables, one by one -/
def rOf (L R : List Int) (x : Int) : Int := R.getD (L.findIdx (· == x)) 0
theorem rOf_at {L R : List Int} (hn : L.Nodup) {k : Nat} (hk : k < L.length) : rOf L R (L[k]'hk) = R.getD k 0 := by
  unfold rOf
  congr 1
  rw [List.findIdx_eq hk]
  refine ⟨by simp, fun j hj => ?_⟩
  have := List.pairwise_iff_getElem.1 hn j k (by omega) hk hj
  simpa using this
/-- The first k variables have their new ones. -/
structure SetsTo (s : List Pr) (L R : List Int) (k : Nat) : Prop where
  rise : RiseP s
  at_ : ∀ x, (putAt (vsP s) (tsP s) x).map Ty.pure = if x ∈ L.take k then some (.mk [] (rOf L R x) []) else none
  len : s.length = k
  legal : ∀ p ∈ s, legalT p.ty = true
theorem SetsTo.nil (L R : List Int) : SetsTo [] L R 0 := ⟨.nil, fun x => by simp [putAt, idxI], rfl, fun p hp => by cases hp⟩
theorem SetsTo.no {s : List Pr} {L R : List Int} {k : Nat} (h : SetsTo s L R k) (hn : L.Nodup) (hk : k < L.length) {i : Nat} (hl : LbP s (L[k]'hk) i) : hasAt s (L[k]'hk) i = false := by
  rw [Bool.eq_false_iff]
  intro hh
  rw [hasAt_iff h.rise hl] at hh
  have h1 := h.at_ (L[k]'hk)
  have h2 : L[k]'hk ∉ L.take k := by
    intro hm
    obtain ⟨j, hj, e⟩ := List.mem_iff_getElem.1 hm
    rw [List.length_take] at hj
    rw [List.getElem_take] at e
    exact List.pairwise_iff_getElem.1 hn j k (by omega) hk (by omega) e
  rw [if_neg h2] at h1
  cases e : putAt (vsP s) (tsP s) (L[k]'hk) with
  | none => rw [e] at hh; cases hh
  | some u => rw [e] at h1; cases h1
theorem SetsTo.snoc {s : List Pr} {L R : List Int} {k : Nat} (h : SetsTo s L R k) (hn : L.Nodup) (hk : k < L.length) {i : Nat} (hl : LbP s (L[k]'hk) i) {t : Ty} (ht : t.pure = .mk [] (R.getD k 0) []) : SetsTo (insP s i (L[k]'hk) t) L R (k + 1) := by
  have hno := h.no hn hk hl
  refine ⟨insP_rise h.rise hl hno, fun x => ?_, by rw [insP_len hl.le, h.len], fun p hp => ?_⟩
  · have hm : x ∈ L.take (k + 1) ↔ x ∈ L.take k ∨ x = L[k]'hk := by rw [List.take_succ_eq_append_getElem hk, List.mem_append, List.mem_singleton]
    rw [insP_at h.rise hl hno]
    by_cases hx : x = L[k]'hk
    · rw [if_pos hx, if_pos (hm.2 (.inr hx)), hx, rOf_at hn hk]
      simp [ht]
    · rw [if_neg hx, h.at_ x]
      by_cases hx2 : x ∈ L.take k
      · rw [if_pos hx2, if_pos (hm.2 (.inl hx2))]
      · rw [if_neg hx2, if_neg (fun h => (hm.1 h).elim hx2 hx)]
  · rcases insP_mem.1 hp with rfl | hp
    · show legalT t = true
      refine legal_ren (r := fun _ => R.getD k 0) (t := .mk [] 0 none 0 []) (legal_var _ _ _) ?_
      rw [ht, renP_eq]
      rfl
    · exact h.legal p hp
theorem SetsTo.put {s : List Pr} {L R : List Int} (h : SetsTo s L R L.length) (t : Ty) (ht : ∀ v ∈ t.vars, v ∈ L) : putP (vsP s) (tsP s) t = renP (rOf L R) t :=
  put_ren _ _ _ t (fun v hv => by rw [h.at_, List.take_length, if_pos (ht v hv)])
end Go.Proofs.YtcnkfkjgpdmebaaGreatDoor
