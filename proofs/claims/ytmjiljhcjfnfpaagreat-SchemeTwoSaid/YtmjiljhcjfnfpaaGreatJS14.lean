/- Contracts: whether a scheme may be; of the program, and of the reference. -/
import Derived.Test.YtmjiljhcjfnfpaaGreatJS13
/- Contracts: whether a scheme may be; of the program, and of the reference. -/
namespace Go.Proofs.YtmjiljhcjfnfpaaGreat
open Go.RowKit

structure Sc where
  n : Int
  A : Option Addr
  cap : Nat
  preds : List Pd
  ty : Ty
def scV (s : Sc) : Value := .agg #[.int .i64 s.n, .slice s.A s.preds.length s.cap, encStr s.ty.con, .int .i64 s.ty.var, .slice s.ty.A s.ty.args.length s.ty.cap]
structure ScIn (w : World) (s : Sc) : Prop where
  le : s.preds.length ≤ s.cap
  max : s.cap ≤ 9223372036854775807
  row : PdsIn w s.A s.preds
  ty : TyIn w s.ty
theorem ScIn.ext {w w' : World} {s : Sc} (h : ScIn w s) (e : Ext w w') : ScIn w' s := ⟨h.le, h.max, h.row.ext e, h.ty.ext e⟩
def ScBox (w : World) (b : Nat) (s : Sc) : Prop := w.heap[b]? = some (.cells #[.int .i64 s.n, .slice s.A s.preds.length s.cap, encStr s.ty.con, .int .i64 s.ty.var, .slice s.ty.A s.ty.args.length s.ty.cap] 27 (0, 0))
section
variable {w w' : World} {b : Nat} {s : Sc}
theorem ScBox.new (w : World) (s : Sc) : ScBox (w.alloc (.cells #[.int .i64 s.n, .slice s.A s.preds.length s.cap, encStr s.ty.con, .int .i64 s.ty.var, .slice s.ty.A s.ty.args.length s.ty.cap] 27)) w.heap.size s := at_newB _ _ _ rfl
theorem ScBox.lt (h : ScBox w b s) : b < w.heap.size := lt_of_obj h
theorem ScBox.ext (h : ScBox w b s) (e : Ext w w') : ScBox w' b s := (e.heap h.lt).trans h
theorem ScBox.cells (h : ScBox w b s) : w.cell? ⟨b, 0, none⟩ = some (.int .i64 s.n) ∧ w.cell? ⟨b, 1, none⟩ = some (.slice s.A s.preds.length s.cap) ∧ w.cell? ⟨b, 2, none⟩ = some (encStr s.ty.con) ∧ w.cell? ⟨b, 3, none⟩ = some (.int .i64 s.ty.var) ∧ w.cell? ⟨b, 4, none⟩ = some (.slice s.ty.A s.ty.args.length s.ty.cap) :=
  ⟨bytes_block h 0, bytes_block h 1, bytes_block h 2, bytes_block h 3, bytes_block h 4⟩
end
/-- Is a variable one of n own ones? -/
def ownB (n v : Int) : Bool := decide (0 ≤ v) && decide (v < n)
/-- May a scheme be? -/
noncomputable def scB (s : Sc) : Bool :=
  legalT s.ty && s.preds.all pdB && decide (0 ≤ s.n) && decide (s.n ≤ 4096) && (List.range s.n.toNat).all fun i => (sVars s.ty s.preds).any (· == (i : Int))

theorem own_count (l : List Int) (hl : l.Nodup) : ∀ n : Nat, (l.filter (ownB n)).length ≤ n ∧ ((l.filter (ownB n)).length = n ↔ ∀ i < n, (i : Int) ∈ l) := by
  intro n
  induction n with
  | zero =>
    have h0 : l.filter (ownB (0 : Nat)) = [] := by
      rw [List.filter_eq_nil_iff]
      intro x _
      unfold ownB
      simp <;> omega
    rw [h0]
    simp
  | succ n ih =>
    have hc : ∀ m : List Int, (m.filter (ownB ((n + 1 : Nat) : Int))).length = (m.filter (ownB n)).length + m.count (n : Int) := by
      intro m
      induction m with
      | nil => simp
      | cons x m ih =>
        rw [List.filter_cons, List.filter_cons, List.count_cons]
        by_cases h1 : x = (n : Int)
        · subst h1
          have e1 : ownB ((n + 1 : Nat) : Int) (n : Int) = true := by unfold ownB; simp; omega
          have e2 : ownB (n : Int) (n : Int) = false := by unfold ownB; simp
          have e3 : ((n : Int) == (n : Int)) = true := by simp
          rw [e1, e2, e3]
          simp only [if_true, if_false, List.length_cons, Bool.false_eq_true]
          omega
        · have e1 : ownB ((n + 1 : Nat) : Int) x = ownB (n : Int) x := by
            unfold ownB
            congr 1
            exact decide_eq_decide.2 (by omega)
          have e3 : (x == (n : Int)) = false := by simpa using h1
          rw [e1, e3]
          cases ownB (n : Int) x
          · simp only [Bool.false_eq_true, if_false]; omega
          · simp only [if_true, if_false, Bool.false_eq_true, List.length_cons]; omega
    have hc1 := hc l
    have h1 : l.count (n : Int) ≤ 1 := List.nodup_iff_count.1 hl (n : Int)
    have h2 : 0 < l.count (n : Int) ↔ (n : Int) ∈ l := List.count_pos_iff
    refine ⟨by omega, ⟨fun h i hi => ?_, fun h => ?_⟩⟩
    · have h3 : (l.filter (ownB n)).length = n := by have := ih.1; omega
      rcases Nat.lt_or_ge i n with h4 | h4
      · exact ih.2.1 h3 i h4
      · have : i = n := by omega
        subst this
        exact h2.1 (by omega)
    · have h3 := ih.2.2 (fun i hi => h i (by omega))
      have h4 := h2.2 (h n (by omega))
      omega
theorem own_all (l : List Int) (hl : l.Nodup) (n : Nat) : (((l.filter (ownB n)).length : Int) == (n : Int)) = (List.range n).all fun i => l.any (· == (i : Int)) := by
  rw [Bool.eq_iff_iff, beq_iff_eq, Int.natCast_inj, (own_count l hl n).2, List.all_eq_true]
  constructor
  · intro h i hi
    rw [List.mem_range] at hi
    exact List.any_eq_true.2 ⟨_, h i hi, by simp⟩
  · intro h i hi
    obtain ⟨x, hx, e⟩ := List.any_eq_true.1 (h i (List.mem_range.2 hi))
    simp at e
    rwa [← e]

theorem s_own (v n : Int) (w : World) : Calls Tryz.prog 35 #[.int .i64 v, .int .i64 n] w fun e w' => e = .returned (.bool (ownB n v)) ∧ w' = w := by
  unfold ownB
  by_cases h : 0 ≤ v
  · have h1 : decide (0 ≤ v) = true := by simpa using h
    go_enter Tryz.func35, Tryz.ntmps35
    go_wp2
    go_ret
    exact ⟨by rw [h1, Bool.true_and]; rfl, rfl⟩
  · have h1 : decide (0 ≤ v) = false := by simpa using h
    go_enter Tryz.func35, Tryz.ntmps35
    go_wp2
    go_ret
    exact ⟨rfl, rfl⟩

set_option maxRecDepth 10000 in
set_option maxHeartbeats 4000000 in
theorem s_legal (s : Sc) (w : World) (h : ScIn w s) (hl : s.preds.length ≤ 40000) (hsz : s.ty.size + psz s.preds ≤ 50000) : Calls Tryz.prog 15 #[scV s] w fun e w' => e = .returned (.bool (scB s)) ∧ Ext w w' := by
  have X0 : Hid (Ext w (w.alloc (.cells #[.int .i64 s.n, .slice s.A s.preds.length s.cap, encStr s.ty.con, .int .i64 s.ty.var, .slice s.ty.A s.ty.args.length s.ty.cap] 27))) := hide ((Ext.refl w).alloc _)
  have HB := hide (ScBox.new w s)
  obtain ⟨c0, c1, c2, c3, c4⟩ := HB.out.cells
  have HM := hide (s_may s.ty s.A s.cap s.preds _ (h.ty.ext X0.out) (by omega) (h.row.ext X0.out) (by omega) (fun p hp => by have := psz_mem hp; omega))
  have HV := hide (fun w' (e : Ext w w') => hide (s_vars s.ty s.A s.cap s.preds w' (h.ty.ext e) (h.row.ext e) hl hsz))
  have HS : Hid (scB s = (legalT s.ty && s.preds.all pdB && decide (0 ≤ s.n) && decide (s.n ≤ 4096) && (List.range s.n.toNat).all fun i => (sVars s.ty s.preds).any (· == (i : Int)))) := hide rfl
  have hn := sVars_len s.ty s.preds
  have HN := hide (sVars_nodup s.ty s.preds)
  clear h
  unfold scV tyV at *
  generalize scB s = R at *
  generalize (legalT s.ty && s.preds.all pdB) = M at *
  generalize sVars s.ty s.preds = L at *
  cases M
  · have hR : R = false := by rw [HS.out]; simp
    clear HS
    subst hR
    go_enter Tryz.func15, Tryz.ntmps15
    go_wp2_with fail
    refine HM.out.mono ?_
    rintro e w2 ⟨rfl, hx⟩
    go_wp2
    go_ret
    exact ⟨rfl, X0.out.trans hx⟩
  by_cases h0 : s.n < 0
  · have hR : R = false := by rw [HS.out, decide_eq_false (show ¬ 0 ≤ s.n by omega)]; simp
    have h0' : decide (s.n < 0) = true := by simpa using h0
    clear HS h0
    subst hR
    go_enter Tryz.func15, Tryz.ntmps15
    go_wp2_with fail
    refine HM.out.mono ?_
    rintro e w2 ⟨rfl, hx⟩
    obtain ⟨c0, -, -, -, -⟩ := (HB.out.ext hx).cells
    go_wp2
    go_ret
    exact ⟨rfl, X0.out.trans hx⟩
  by_cases h1 : s.n > 4096
  · have hR : R = false := by rw [HS.out, decide_eq_false (show ¬ s.n ≤ 4096 by omega)]; simp
    have h0' : decide (s.n < 0) = false := by simpa using h0
    have h1' : decide (s.n > 4096) = true := by simpa using h1
    clear HS h0 h1
    subst hR
    go_enter Tryz.func15, Tryz.ntmps15
    go_wp2_with fail
    refine HM.out.mono ?_
    rintro e w2 ⟨rfl, hx⟩
    obtain ⟨c0, -, -, -, -⟩ := (HB.out.ext hx).cells
    go_wp2
    go_ret
    exact ⟨rfl, X0.out.trans hx⟩
  obtain ⟨m, hm1⟩ : ∃ m : Nat, s.n = (m : Int) := ⟨s.n.toNat, by omega⟩
  have HMn := hide hm1
  have hm : m ≤ 4096 := by omega
  clear hm1
  have HR : Hid (R = (((L.filter (ownB s.n)).length : Int) == s.n)) := hide (by
    rw [HS.out, decide_eq_true (show 0 ≤ s.n by omega), decide_eq_true (show s.n ≤ 4096 by omega), HMn.out, own_all L HN.out m]
    simp)
  have h0' : decide (s.n < 0) = false := by simpa using h0
  have h1' : decide (s.n > 4096) = false := by simpa using h1
  have HT : Hid (∀ k (h : k < L.length), (L.take (k + 1)).filter (ownB s.n) = (L.take k).filter (ownB s.n) ++ if ownB s.n (L[k]'h) then [L[k]'h] else []) := hide (fun k h => by
    rw [List.take_succ_eq_append_getElem h, List.filter_append]
    congr 1
    cases hb : ownB s.n (L[k]'h) <;> simp [hb])
  have HLn : Hid (∀ k, ((L.take k).filter (ownB s.n)).length ≤ 50000) := hide (fun k => by
    have h1 := List.length_filter_le (ownB s.n) (L.take k)
    rw [List.length_take] at h1
    omega)
  clear HS HN h0 h1
  go_enter Tryz.func15, Tryz.ntmps15
  go_wp2_with fail
  refine HM.out.mono ?_
  rintro e w2 ⟨rfl, hx⟩
  have X2 := hide (X0.out.trans hx)
  have HB2 := hide (HB.out.ext hx)
  clear hx c0 c1 c2 c3 c4
  obtain ⟨c0, c1, c2, c3, c4⟩ := HB2.out.cells
  go_wp2_with fail
  refine (HV.out _ X2.out).out.mono ?_
  rintro e w3 ⟨⟨A', c', rfl, r1, r2, r3⟩, hx3⟩
  have X3 := hide (X2.out.trans hx3)
  have HB3 := hide (HB2.out.ext hx3)
  have R3 := hide r3
  clear hx3 r3 c0 c1 c2 c3 c4
  obtain ⟨c0, c1, c2, c3, c4⟩ := HB3.out.cells
  go_wp2
  go_loop [3, 28] (fun u i => ∃ k : Nat, k ≤ L.length ∧ i = .int .i64 k ∧ u = .int .i64 (((L.take k).filter (ownB s.n)).length : Int)) (fun _ i => L.length - (intOf i).toNat)
  case atStart => exact ⟨0, Nat.zero_le _, rfl, rfl⟩
  case round =>
    obtain ⟨k, hk, rfl, rfl⟩ := hrel
    by_cases hlt : k < L.length
    · have hlt' : (k : Int) < (L.length : Int) := by omega
      have hk0 : (0 : Int) ≤ (k : Int) := by omega
      obtain ⟨b, o, rfl, hb, hc⟩ := Ints.at_ R3.out hlt
      have Htk := hide (HT.out k hlt)
      have hn1 := HLn.out k
      generalize L[k]'hlt = x at *
      generalize (L.take k).filter (ownB s.n) = F at *
      have HO := hide (s_own x s.n w3)
      cases hb : ownB s.n x
      · rw [hb] at HO Htk
        clear hb
        go_wp2_with fail
        refine HO.out.mono ?_
        rintro e w3 ⟨rfl, rfl⟩
        go_wp2
        go_round
        case rel => exact ⟨k + 1, hlt, by go_num, by rw [Htk.out]; simp⟩
        case measure => simp [intOf]; omega
      · rw [hb] at HO Htk
        clear hb
        go_wp2_with fail
        refine HO.out.mono ?_
        rintro e w3 ⟨rfl, rfl⟩
        go_wp2
        go_round
        case rel => exact ⟨k + 1, hlt, by go_num, by rw [Htk.out]; simp⟩
        case measure => simp [intOf]; omega
    · have hge : ¬ (k : Int) < (L.length : Int) := by omega
      rw [List.take_of_length_le (by omega)]
      go_wp2
      go_ret
      exact ⟨by rw [HR.out]; rfl, X3.out⟩

set_option maxRecDepth 10000 in
set_option maxHeartbeats 4000000 in
theorem r_legal21 (s : Sc) (w : World) (h : ScIn w s) (hl : s.preds.length ≤ 40000) (hsz : s.ty.size + psz s.preds ≤ 50000) : Calls Tryz.prog 25 #[scV s] w fun e w' => e = .returned (.bool (scB s)) ∧ Ext w w' := by
  have X0 : Hid (Ext w (w.alloc (.cells #[.int .i64 s.n, .slice s.A s.preds.length s.cap, encStr s.ty.con, .int .i64 s.ty.var, .slice s.ty.A s.ty.args.length s.ty.cap] 27))) := hide ((Ext.refl w).alloc _)
  have HB := hide (ScBox.new w s)
  obtain ⟨c0, c1, c2, c3, c4⟩ := HB.out.cells
  have HM := hide (r_legal16 s.ty _ (h.ty.ext X0.out) (by omega))
  have HA := hide (fun w' (e : Ext w w') => hide (r_all20 s.A s.cap s.preds w' (h.row.ext e) (by omega) (fun p hp => by have := psz_mem hp; omega)))
  have HV := hide (fun w' (e : Ext w w') => hide (r_all21 s.ty s.A s.cap s.preds w' (h.ty.ext e) (h.row.ext e) hl hsz))
  have HS : Hid (scB s = (legalT s.ty && s.preds.all pdB && decide (0 ≤ s.n) && decide (s.n ≤ 4096) && (List.range s.n.toNat).all fun i => (sVars s.ty s.preds).any (· == (i : Int)))) := hide rfl
  have hn := sVars_len s.ty s.preds
  clear h
  unfold scV tyV at *
  generalize scB s = R at *
  generalize legalT s.ty = M at *
  generalize s.preds.all pdB = M2 at *
  generalize sVars s.ty s.preds = L at *
  cases M
  · have hR : R = false := by rw [HS.out]; simp
    clear HS
    subst hR
    go_enter Tryz.func25, Tryz.ntmps25
    go_wp2_with fail
    refine HM.out.mono ?_
    rintro e w2 ⟨rfl, hx⟩
    go_wp2
    go_ret
    exact ⟨rfl, X0.out.trans hx⟩
  cases M2
  · have hR : R = false := by rw [HS.out]; simp
    clear HS
    subst hR
    go_enter Tryz.func25, Tryz.ntmps25
    go_wp2_with fail
    refine HM.out.mono ?_
    rintro e w2 ⟨rfl, hx⟩
    have X2 := hide (X0.out.trans hx)
    obtain ⟨c0, c1, -, -, -⟩ := (HB.out.ext hx).cells
    go_wp2_with fail
    refine (HA.out _ X2.out).out.mono ?_
    rintro e w3 ⟨rfl, hx⟩
    go_wp2
    go_ret
    exact ⟨rfl, X2.out.trans hx⟩
  by_cases h0 : s.n < 0
  · have hR : R = false := by rw [HS.out, decide_eq_false (show ¬ 0 ≤ s.n by omega)]; simp
    have h0' : decide (s.n < 0) = true := by simpa using h0
    clear HS h0
    subst hR
    go_enter Tryz.func25, Tryz.ntmps25
    go_wp2_with fail
    refine HM.out.mono ?_
    rintro e w2 ⟨rfl, hx⟩
    have X2 := hide (X0.out.trans hx)
    have HB2 := hide (HB.out.ext hx)
    obtain ⟨c0, c1, -, -, -⟩ := HB2.out.cells
    go_wp2_with fail
    refine (HA.out _ X2.out).out.mono ?_
    rintro e w3 ⟨rfl, hx⟩
    obtain ⟨c0, -, -, -, -⟩ := (HB2.out.ext hx).cells
    go_wp2
    go_ret
    exact ⟨rfl, X2.out.trans hx⟩
  by_cases h1 : s.n > 4096
  · have hR : R = false := by rw [HS.out, decide_eq_false (show ¬ s.n ≤ 4096 by omega)]; simp
    have h0' : decide (s.n < 0) = false := by simpa using h0
    have h1' : decide (s.n > 4096) = true := by simpa using h1
    clear HS h0 h1
    subst hR
    go_enter Tryz.func25, Tryz.ntmps25
    go_wp2_with fail
    refine HM.out.mono ?_
    rintro e w2 ⟨rfl, hx⟩
    have X2 := hide (X0.out.trans hx)
    have HB2 := hide (HB.out.ext hx)
    obtain ⟨c0, c1, -, -, -⟩ := HB2.out.cells
    go_wp2_with fail
    refine (HA.out _ X2.out).out.mono ?_
    rintro e w3 ⟨rfl, hx⟩
    obtain ⟨c0, -, -, -, -⟩ := (HB2.out.ext hx).cells
    go_wp2
    go_ret
    exact ⟨rfl, X2.out.trans hx⟩
  obtain ⟨m, hm1⟩ : ∃ m : Nat, s.n = (m : Int) := ⟨s.n.toNat, by omega⟩
  have HMn := hide hm1
  have hm : m ≤ 4096 := by omega
  clear hm1
  have HR : Hid (R = (List.range m).all fun i => L.any (· == (i : Int))) := hide (by
    rw [HS.out, decide_eq_true (show 0 ≤ s.n by omega), decide_eq_true (show s.n ≤ 4096 by omega), HMn.out]
    simp)
  have h0' : decide (s.n < 0) = false := by simpa using h0
  have h1' : decide (s.n > 4096) = false := by simpa using h1
  clear HS h0 h1
  go_enter Tryz.func25, Tryz.ntmps25
  go_wp2_with fail
  refine HM.out.mono ?_
  rintro e w2 ⟨rfl, hx⟩
  have X2 := hide (X0.out.trans hx)
  have HB2 := hide (HB.out.ext hx)
  clear hx c0 c1 c2 c3 c4
  obtain ⟨c0, c1, c2, c3, c4⟩ := HB2.out.cells
  go_wp2_with fail
  refine (HA.out _ X2.out).out.mono ?_
  rintro e w3 ⟨rfl, hx⟩
  have X3 := hide (X2.out.trans hx)
  have HB3 := hide (HB2.out.ext hx)
  clear hx c0 c1 c2 c3 c4
  obtain ⟨c0, c1, c2, c3, c4⟩ := HB3.out.cells
  go_wp2_with fail
  refine (HV.out _ X3.out).out.mono ?_
  rintro e w4 ⟨⟨A', c', rfl, r1, r2, r3⟩, hx4⟩
  have X4 := hide (X3.out.trans hx4)
  have HB4 := hide (HB3.out.ext hx4)
  have R3 := hide r3
  clear hx4 r3 c0 c1 c2 c3 c4
  obtain ⟨c0, c1, c2, c3, c4⟩ := HB4.out.cells
  have HI := hide (fun x => hide (r_in16 A' c' L x w4 R3.out (by omega)))
  go_wp2
  go_loop [4] (fun i => ∃ k : Nat, k ≤ m ∧ i = .int .i64 k ∧ Hid (((List.range k).all fun i => L.any (· == (i : Int))) = true)) (fun i => m - (intOf i).toNat)
  case atStart => exact ⟨0, Nat.zero_le _, rfl, hide rfl⟩
  case round =>
    obtain ⟨k, hk, rfl, HK⟩ := hrel
    by_cases hlt : k < m
    · have hlt' : (k : Int) < s.n := by rw [HMn.out]; omega
      have HIk := hide (HI.out (k : Int)).out
      cases hb : L.any (· == (k : Int))
      · rw [hb] at HIk
        have hR : R = false := by
          rw [HR.out, ← Bool.not_eq_true, List.all_eq_true]
          intro h
          have := h k (List.mem_range.2 hlt)
          rw [hb] at this
          cases this
        clear hb HR
        subst hR
        go_wp2_with fail
        refine HIk.out.mono ?_
        rintro e w4 ⟨rfl, rfl⟩
        go_wp2
        go_ret
        exact ⟨rfl, X4.out⟩
      · rw [hb] at HIk
        have Hb := hide hb
        clear hb
        go_wp2_with fail
        refine HIk.out.mono ?_
        rintro e w4 ⟨rfl, rfl⟩
        go_wp2
        go_round
        case rel => exact ⟨k + 1, hlt, by go_num, hide (by rw [List.range_succ, List.all_append, HK.out]; simpa using Hb.out)⟩
        case measure => simp [intOf]; omega
    · have hge : ¬ (k : Int) < s.n := by rw [HMn.out]; omega
      have hkm : k = m := by omega
      have hR : R = true := by rw [HR.out, ← hkm]; exact HK.out
      clear HR hkm
      subst hR
      go_wp2
      go_ret
      exact ⟨rfl, X4.out⟩

end Go.Proofs.YtmjiljhcjfnfpaaGreat

/- Sequences of variables: the same, but for the names of own ones. -/
namespace Go.Proofs.YtmjiljhcjfnfpaaGreat
open Go.RowKit

/-- The own ones among some, each once, in order. -/
def owns (n : Int) (l : List Int) : List Int := (onceI l).filter (ownB n)
/-- An own variable's number among the own ones; what is not own stays. -/
def numV (n : Int) (l : List Int) (v : Int) : Int := if ownB n v = true then ((owns n l).idxOf v : Nat) else v
theorem ownB_iff {n v : Int} : ownB n v = true ↔ 0 ≤ v ∧ v < n := by unfold ownB; simp
theorem owns_nodup (n : Int) (l : List Int) : (owns n l).Nodup := (onceI_nodup l).filter _
theorem owns_mem {n : Int} {l : List Int} {v : Int} : v ∈ owns n l ↔ v ∈ l ∧ ownB n v = true := by unfold owns; rw [List.mem_filter, onceI_mem]
/-- Other names for variables: own ones for own ones, each for one alone; what is not own stays. -/
structure Iso (n : Int) (l : List Int) (f : Int → Int) : Prop where
  own : ∀ v ∈ l, ownB n v = true → ownB n (f v) = true
  free : ∀ v ∈ l, ownB n v = false → f v = v
  inj : ∀ u ∈ l, ∀ v ∈ l, ownB n u = true → ownB n v = true → f u = f v → u = v
theorem Iso.ownE {n : Int} {l : List Int} {f : Int → Int} (h : Iso n l f) {v : Int} (hv : v ∈ l) : ownB n (f v) = ownB n v := by
  cases e : ownB n v with
  | true => exact h.own v hv e
  | false => rw [h.free v hv e, e]
theorem Iso.inj' {n : Int} {l : List Int} {f : Int → Int} (h : Iso n l f) {u v : Int} (hu : u ∈ l) (hv : v ∈ l) (e : f u = f v) : u = v := by
  have h1 := h.ownE hu
  have h2 := h.ownE hv
  rw [e, h2] at h1
  cases e1 : ownB n u with
  | true => exact h.inj u hu v hv e1 (by rw [h1, e1]) e
  | false => rw [h.free u hu e1, h.free v hv (by rw [h1, e1])] at e; exact e
theorem onceGo_map (f : Int → Int) (l : List Int) : ∀ out : List Int, (∀ u ∈ out ++ l, ∀ v ∈ out ++ l, f u = f v → u = v) → onceGo (out.map f) (l.map f) = (onceGo out l).map f := by
  induction l with
  | nil => intro out _; rfl
  | cons x l ih =>
    intro out h
    have hc : (out.map f).contains (f x) = out.contains x := by
      rw [Bool.eq_iff_iff, List.contains_iff_mem, List.contains_iff_mem, List.mem_map]
      constructor
      · rintro ⟨y, hy, e⟩
        rw [← h y (by simp [hy]) x (by simp) e]
        exact hy
      · intro hx
        exact ⟨x, hx, rfl⟩
    have hm : ∀ u ∈ out ++ l, u ∈ out ++ x :: l := fun u hu => by
      rcases List.mem_append.1 hu with h | h
      · exact List.mem_append_left _ h
      · exact List.mem_append_right _ (List.mem_cons_of_mem _ h)
    rw [List.map_cons]
    unfold onceGo
    rw [hc]
    cases out.contains x
    · have := ih (out ++ [x]) (fun u hu v hv => h u (by simpa using hu) v (by simpa using hv))
      rw [if_neg (by simp), if_neg (by simp)]
      simpa using this
    · rw [if_pos rfl, if_pos rfl]
      exact ih out (fun u hu v hv => h u (hm u hu) v (hm v hv))
theorem onceI_map (f : Int → Int) (l : List Int) (h : ∀ u ∈ l, ∀ v ∈ l, f u = f v → u = v) : onceI (l.map f) = (onceI l).map f := onceGo_map f l [] (by simpa using h)
theorem idx_map (f : Int → Int) (l : List Int) (v : Int) (h : ∀ u ∈ l, f u = f v → u = v) : (l.map f).idxOf (f v) = l.idxOf v := by
  induction l with
  | nil => rfl
  | cons x l ih =>
    rw [List.map_cons, List.idxOf_cons, List.idxOf_cons]
    have e : (f x == f v) = (x == v) := by
      rw [Bool.eq_iff_iff, beq_iff_eq, beq_iff_eq]
      exact ⟨h x (by simp), fun e => by rw [e]⟩
    rw [e, ih (fun u hu => h u (by simp [hu]))]
/-- With other names the numbers are the same. -/
theorem Iso.num {n : Int} {l : List Int} {f : Int → Int} (h : Iso n l f) {v : Int} (hv : v ∈ l) : numV n (l.map f) (f v) = numV n l v := by
  unfold numV
  rw [h.ownE hv]
  split
  · rename_i ho
    have e : owns n (l.map f) = (owns n l).map f := by
      unfold owns
      rw [onceI_map f l (fun u hu v hv e => h.inj' hu hv e), List.filter_map]
      congr 1
      refine List.filter_congr fun x hx => ?_
      exact h.ownE ((onceI_mem _ _).1 hx)
    rw [e, idx_map f _ v (fun u hu e => h.inj' (owns_mem.1 hu).1 hv e)]
  · rename_i ho
    exact h.free v hv (by simpa using ho)
theorem num_own {n : Int} {l : List Int} (hn : ((owns n l).length : Int) ≤ n) {v : Int} (hv : v ∈ l) : ownB n (numV n l v) = ownB n v := by
  unfold numV
  split
  · rename_i ho
    rw [ho, ownB_iff]
    have := List.idxOf_lt_length_iff.2 (owns_mem.2 ⟨hv, ho⟩)
    omega
  · rfl
theorem num_inj {n : Int} {l : List Int} (hn : ((owns n l).length : Int) ≤ n) {u v : Int} (hu : u ∈ l) (hv : v ∈ l) (e : numV n l u = numV n l v) : u = v := by
  have h1 := num_own hn hu
  have h2 := num_own hn hv
  rw [e, h2] at h1
  unfold numV at e
  cases e1 : ownB n u with
  | true =>
    have e2 : ownB n v = true := by rw [h1, e1]
    rw [if_pos e1, if_pos e2] at e
    have e := Int.ofNat_inj.1 e
    have k1 := List.idxOf_lt_length_iff.2 (owns_mem.2 ⟨hu, e1⟩)
    have k2 := List.idxOf_lt_length_iff.2 (owns_mem.2 ⟨hv, e2⟩)
    rw [← List.getElem_idxOf k1, ← List.getElem_idxOf k2]
    congr 1
  | false =>
    have e2 : ownB n v = false := by rw [h1, e1]
    rw [if_neg (by rw [e1]; simp), if_neg (by rw [e2]; simp)] at e
    exact e
/-- By the numbers other names are found. -/
theorem iso_of_num {n : Int} {l m : List Int} (hl : ((owns n l).length : Int) ≤ n) (hm : ((owns n m).length : Int) ≤ n) (h : l.map (numV n l) = m.map (numV n m)) : ∃ f, Iso n l f ∧ m = l.map f := by
  have hlen : l.length = m.length := by simpa using congrArg List.length h
  have hi : ∀ i (h1 : i < l.length) (h2 : i < m.length), numV n l (l[i]'h1) = numV n m (m[i]'h2) := fun i h1 h2 => by
    have : (l.map (numV n l))[i]? = (m.map (numV n m))[i]? := by rw [h]
    rw [List.getElem?_map, List.getElem?_map, List.getElem?_eq_getElem h1, List.getElem?_eq_getElem h2] at this
    simpa using this
  have hf : ∀ i (h1 : i < l.length), m.getD (l.idxOf (l[i]'h1)) 0 = m[i]'(by omega) := fun i h1 => by
    have k1 : l.idxOf (l[i]'h1) < l.length := List.idxOf_lt_length_iff.2 (List.getElem_mem h1)
    have k2 : l.idxOf (l[i]'h1) < m.length := by omega
    have e : m.getD (l.idxOf (l[i]'h1)) 0 = m[l.idxOf (l[i]'h1)]'k2 := by simp [List.getD, k2]
    rw [e]
    refine num_inj hm (List.getElem_mem _) (List.getElem_mem _) ?_
    rw [← hi _ k1 k2, ← hi i h1 (by omega), List.getElem_idxOf k1]
  refine ⟨fun v => m.getD (l.idxOf v) 0, ⟨fun v hv ho => ?_, fun v hv ho => ?_, fun u hu v hv ou ov e => ?_⟩, ?_⟩
  · obtain ⟨i, h1, rfl⟩ := List.mem_iff_getElem.1 hv
    rw [hf i h1, ← num_own hm (List.getElem_mem _), ← hi i h1 (by omega), num_own hl hv, ho]
  · obtain ⟨i, h1, rfl⟩ := List.mem_iff_getElem.1 hv
    have h2 := hi i h1 (by omega)
    have h3 : ownB n (m[i]'(by omega)) = false := by rw [← num_own hm (List.getElem_mem _), ← h2, num_own hl hv, ho]
    rw [hf i h1]
    unfold numV at h2
    rw [if_neg (by rw [ho]; simp), if_neg (by rw [h3]; simp)] at h2
    exact h2.symm
  · obtain ⟨i, h1, rfl⟩ := List.mem_iff_getElem.1 hu
    obtain ⟨j, h2, rfl⟩ := List.mem_iff_getElem.1 hv
    rw [hf i h1, hf j h2] at e
    refine num_inj hl hu hv ?_
    rw [hi i h1 (by omega), hi j h2 (by omega), e]
  · refine List.ext_getElem (by simp [hlen]) fun i h1 h2 => ?_
    rw [List.getElem_map, hf i (by omega)]
/-- Numbers are the same just if names may be told for names. -/
theorem num_iff {n : Int} {l m : List Int} (hl : ((owns n l).length : Int) ≤ n) (hm : ((owns n m).length : Int) ≤ n) : l.map (numV n l) = m.map (numV n m) ↔ ∃ f, Iso n l f ∧ m = l.map f := by
  constructor
  · exact iso_of_num hl hm
  · rintro ⟨f, hf, rfl⟩
    rw [List.map_map]
    refine List.map_congr_left fun v hv => ?_
    exact (hf.num hv).symm

/-! ### The reference's way -/
/-- What a pair of variables makes of the row: none, if they are not alike. -/
def alk1 (n : Int) (row : List (Int × Int)) (x y : Int) : Option (List (Int × Int)) :=
  if ownB n x = false ∨ ownB n y = false then (if x = y ∧ ownB n x = false then some row else none)
  else match row.find? (fun p => p.1 == x || p.2 == y) with
    | some p => if p.1 = x ∧ p.2 = y then some row else none
    | none => some (row ++ [(x, y)])
def alkS (n : Int) (row : List (Int × Int)) : List Int → List Int → Option (List (Int × Int))
  | [], [] => some row
  | x :: l, y :: m => (alk1 n row x y).bind fun r => alkS n r l m
  | _, _ => none
theorem alkS_app (n : Int) (l m l' m' : List Int) (h : l.length = m.length) : ∀ row, alkS n row (l ++ l') (m ++ m') = (alkS n row l m).bind fun r => alkS n r l' m' := by
  induction l generalizing m with
  | nil =>
    intro row
    cases m with
    | nil => rfl
    | cons y m => simp at h
  | cons x l ih =>
    intro row
    cases m with
    | nil => simp at h
    | cons y m =>
      show (alk1 n row x y).bind (fun r => alkS n r (l ++ l') (m ++ m')) = ((alk1 n row x y).bind fun r => alkS n r l m).bind _
      cases alk1 n row x y with
      | none => rfl
      | some r => exact ih m (by simpa using h) r
/-- How a row stands: own variables, each once on either side. -/
structure RowA (n : Int) (row : List (Int × Int)) : Prop where
  own : ∀ p ∈ row, ownB n p.1 = true ∧ ownB n p.2 = true
  l : ∀ p ∈ row, ∀ q ∈ row, p.1 = q.1 → p = q
  r : ∀ p ∈ row, ∀ q ∈ row, p.2 = q.2 → p = q
/-- Two variables that are alike by a row. -/
def AlkV (n : Int) (row : List (Int × Int)) (x y : Int) : Prop := (x = y ∧ ownB n x = false) ∨ (x, y) ∈ row
theorem alk1_ok {n : Int} {row r : List (Int × Int)} {x y : Int} (h : RowA n row) (e : alk1 n row x y = some r) : RowA n r ∧ AlkV n r x y ∧ ∀ p ∈ row, p ∈ r := by
  unfold alk1 at e
  split at e
  · split at e
    · rename_i h1
      injection e with e
      subst e
      exact ⟨h, .inl h1, fun p hp => hp⟩
    · cases e
  · rename_i ho
    have ho : ownB n x = true ∧ ownB n y = true := by
      rw [not_or] at ho
      simpa using ho
    split at e
    · rename_i p hp
      split at e
      · rename_i hxy
        injection e with e
        subst e
        refine ⟨h, .inr ?_, fun p hp => hp⟩
        have := List.mem_of_find?_eq_some hp
        rw [← hxy.1, ← hxy.2]
        exact this
      · cases e
    · rename_i hp
      injection e with e
      subst e
      rw [List.find?_eq_none] at hp
      have hne : ∀ p ∈ row, p.1 ≠ x ∧ p.2 ≠ y := fun p hpr => by
        have := hp p hpr
        simpa using this
      refine ⟨⟨fun p hpr => ?_, fun p hpr q hqr e => ?_, fun p hpr q hqr e => ?_⟩, .inr (by simp), fun p hp => by simp [hp]⟩
      · rcases List.mem_append.1 hpr with h1 | h1
        · exact h.own p h1
        · rw [List.mem_singleton] at h1; subst h1; exact ho
      · rcases List.mem_append.1 hpr with h1 | h1 <;> rcases List.mem_append.1 hqr with h2 | h2
        · exact h.l p h1 q h2 e
        · rw [List.mem_singleton] at h2; subst h2; exact absurd e (hne p h1).1
        · rw [List.mem_singleton] at h1; subst h1; exact absurd e.symm (hne q h2).1
        · rw [List.mem_singleton] at h1 h2; rw [h1, h2]
      · rcases List.mem_append.1 hpr with h1 | h1 <;> rcases List.mem_append.1 hqr with h2 | h2
        · exact h.r p h1 q h2 e
        · rw [List.mem_singleton] at h2; subst h2; exact absurd e (hne p h1).2
        · rw [List.mem_singleton] at h1; subst h1; exact absurd e.symm (hne q h2).2
        · rw [List.mem_singleton] at h1 h2; rw [h1, h2]
theorem alkS_ok {n : Int} (l : List Int) : ∀ (m : List Int) (row r : List (Int × Int)), RowA n row → alkS n row l m = some r → RowA n r ∧ (∀ p ∈ row, p ∈ r) ∧ l.length = m.length ∧ ∀ i (h1 : i < l.length) (h2 : i < m.length), AlkV n r (l[i]'h1) (m[i]'h2) := by
  induction l with
  | nil =>
    intro m row r h e
    cases m with
    | nil => injection e with e; subst e; exact ⟨h, fun p hp => hp, rfl, fun i h1 => by simp at h1⟩
    | cons y m => cases e
  | cons x l ih =>
    intro m row r h e
    cases m with
    | nil => cases e
    | cons y m =>
      obtain ⟨r1, e1, e2⟩ := Option.bind_eq_some_iff.1 (show (alk1 n row x y).bind (fun r => alkS n r l m) = some r from e)
      obtain ⟨h1, h2, h3⟩ := alk1_ok h e1
      obtain ⟨k1, k2, k3, k4⟩ := ih m r1 r h1 e2
      refine ⟨k1, fun p hp => k2 p (h3 p hp), by simp [k3], fun i i1 i2 => ?_⟩
      cases i with
      | zero =>
        show AlkV n r x y
        rcases h2 with h2 | h2
        · exact .inl h2
        · exact .inr (k2 _ h2)
      | succ i => exact k4 i (by simpa using i1) (by simpa using i2)
/-- A row that says what a function of names says. -/
def RowF (f : Int → Int) (l : List Int) (n : Int) (row : List (Int × Int)) : Prop := ∀ p ∈ row, p.2 = f p.1 ∧ p.1 ∈ l ∧ ownB n p.1 = true
theorem alkS_iso {n : Int} {f : Int → Int} {L : List Int} (hf : Iso n L f) (l : List Int) (hl : ∀ v ∈ l, v ∈ L) : ∀ row, RowF f L n row → ∃ r, alkS n row l (l.map f) = some r ∧ RowF f L n r := by
  induction l with
  | nil => intro row h; exact ⟨row, rfl, h⟩
  | cons x l ih =>
    intro row h
    have hx := hl x (by simp)
    have h1 : ∃ r, alk1 n row x (f x) = some r ∧ RowF f L n r := by
      unfold alk1
      cases ho : ownB n x with
      | false =>
        rw [if_pos (.inl rfl), hf.free x hx ho, if_pos ⟨rfl, rfl⟩]
        exact ⟨row, rfl, h⟩
      | true =>
        rw [hf.own x hx ho, if_neg (by simp)]
        cases e : row.find? (fun p => p.1 == x || p.2 == f x) with
        | none => exact ⟨_, rfl, fun p hp => by
            rcases List.mem_append.1 hp with h1 | h1
            · exact h p h1
            · rw [List.mem_singleton] at h1; subst h1; exact ⟨rfl, hx, ho⟩⟩
        | some p =>
          obtain ⟨h2, h3, h4⟩ := h p (List.mem_of_find?_eq_some e)
          have h5 := List.find?_some e
          have h6 : p.1 = x := by
            rw [Bool.or_eq_true, beq_iff_eq, beq_iff_eq] at h5
            rcases h5 with h5 | h5
            · exact h5
            · rw [h2] at h5; exact hf.inj _ h3 _ hx h4 ho h5
          show ∃ r, (if p.1 = x ∧ p.2 = f x then some row else none) = some r ∧ _
          rw [if_pos ⟨h6, by rw [h2, h6]⟩]
          exact ⟨row, rfl, h⟩
    obtain ⟨r, e1, h2⟩ := h1
    obtain ⟨r', e2, h3⟩ := ih (fun v hv => hl v (by simp [hv])) r h2
    refine ⟨r', ?_, h3⟩
    show (alk1 n row x (f x)).bind (fun r => alkS n r l (l.map f)) = some r'
    rw [e1]
    exact e2
/-- The reference's way finds just the same. -/
theorem alk_iff {n : Int} (l m : List Int) : (alkS n [] l m).isSome = true ↔ ∃ f, Iso n l f ∧ m = l.map f := by
  constructor
  · intro h
    obtain ⟨r, e⟩ := Option.isSome_iff_exists.1 h
    obtain ⟨h1, -, hlen, h2⟩ := alkS_ok l m [] r ⟨by simp, by simp, by simp⟩ e
    have hf : ∀ i (h1 : i < l.length), m.getD (l.idxOf (l[i]'h1)) 0 = m[i]'(by omega) := fun i hi => by
      have k1 : l.idxOf (l[i]'hi) < l.length := List.idxOf_lt_length_iff.2 (List.getElem_mem hi)
      have k2 : l.idxOf (l[i]'hi) < m.length := by omega
      have e : m.getD (l.idxOf (l[i]'hi)) 0 = m[l.idxOf (l[i]'hi)]'k2 := by simp [List.getD, k2]
      rw [e]
      have a1 := h2 _ k1 k2
      have a2 := h2 i hi (by omega)
      rw [List.getElem_idxOf k1] at a1
      rcases a1 with ⟨a1, b1⟩ | a1 <;> rcases a2 with ⟨a2, b2⟩ | a2
      · rw [← a1, ← a2]
      · have := (h1.own _ a2).1; rw [b1] at this; cases this
      · have := (h1.own _ a1).1; rw [b2] at this; cases this
      · have := h1.l _ a1 _ a2 rfl; injection this
    refine ⟨fun v => m.getD (l.idxOf v) 0, ⟨fun v hv ho => ?_, fun v hv ho => ?_, fun u hu v hv ou ov e => ?_⟩, ?_⟩
    · obtain ⟨i, i1, rfl⟩ := List.mem_iff_getElem.1 hv
      rw [hf i i1]
      rcases h2 i i1 (by omega) with ⟨-, b⟩ | a
      · rw [ho] at b; cases b
      · exact (h1.own _ a).2
    · obtain ⟨i, i1, rfl⟩ := List.mem_iff_getElem.1 hv
      rw [hf i i1]
      rcases h2 i i1 (by omega) with ⟨a, -⟩ | a
      · exact a.symm
      · have := (h1.own _ a).1; rw [ho] at this; cases this
    · obtain ⟨i, i1, rfl⟩ := List.mem_iff_getElem.1 hu
      obtain ⟨j, j1, rfl⟩ := List.mem_iff_getElem.1 hv
      rw [hf i i1, hf j j1] at e
      rcases h2 i i1 (by omega) with ⟨-, b⟩ | a
      · rw [ou] at b; cases b
      rcases h2 j j1 (by omega) with ⟨-, b⟩ | a'
      · rw [ov] at b; cases b
      have := h1.r _ a _ a' e
      injection this
    · refine List.ext_getElem (by simp [hlen]) fun i h1 h2 => ?_
      rw [List.getElem_map, hf i (by omega)]
  · rintro ⟨f, hf, rfl⟩
    obtain ⟨r, e, -⟩ := alkS_iso hf l (fun v hv => hv) [] (fun p hp => by cases hp)
    rw [e]
    rfl

end Go.Proofs.YtmjiljhcjfnfpaaGreat

/- Types, the blocks that they lie in, and types with others in the place of variables. No program in sight. -/
namespace Go.Proofs.YtmjiljhcjfnfpaaGreat
open Go.RowKit

/-- Does no part of a type lie in block c? -/
noncomputable def awayB (c : Nat) : Ty → Bool := Ty.allB fun t => t.args.isEmpty || !(t.A.any fun a => a.block == c)
theorem awayB_eq (c : Nat) (t : Ty) : awayB c t = ((t.args.isEmpty || !(t.A.any fun a => a.block == c)) && t.args.all (awayB c)) := allB_eq _ t
theorem awayB_mk {c : Nat} {s : Str} {v : Int} {A : Option Addr} {cap : Nat} {l : List Ty} (h1 : l ≠ [] → ∀ a, A = some a → a.block ≠ c) (h2 : ∀ k ∈ l, awayB c k = true) : awayB c (.mk s v A cap l) = true := by
  rw [awayB_eq, Bool.and_eq_true, List.all_eq_true]
  refine ⟨?_, h2⟩
  show (l.isEmpty || !(A.any fun a => a.block == c)) = true
  cases l with
  | nil => rfl
  | cons x l =>
    cases A with
    | none => rfl
    | some a => have := h1 (by simp) a rfl; simp [this]
theorem awayB_arg {c : Nat} {t k : Ty} (h : awayB c t = true) (hk : k ∈ t.args) : awayB c k = true := by
  rw [awayB_eq, Bool.and_eq_true, List.all_eq_true] at h
  exact h.2 k hk
theorem awayB_own {c : Nat} {t : Ty} (h : awayB c t = true) (hn : t.args ≠ []) {a : Addr} (ha : t.A = some a) : a.block ≠ c := by
  rw [awayB_eq, Bool.and_eq_true] at h
  have h1 := h.1
  rw [ha] at h1
  cases e : t.args with
  | nil => exact absurd e hn
  | cons x l => rw [e] at h1; simpa using h1
section
variable {w w' : World} {t : Ty}
/-- What is behind all that there was it does not lie in. -/
theorem away_new (h : TyIn w t) {c : Nat} (hc : w.heap.size ≤ c) : awayB c t = true := by
  induction h with
  | mk h1 h2 h3 h4 h5 ih =>
    rename_i t
    cases t with
    | mk s v A cap l =>
    refine awayB_mk (fun hn a ha => ?_) ih
    obtain ⟨b, o, e, hb, -⟩ := h4.2 (List.length_pos_iff.2 hn)
    subst ha
    injection e with e
    subst e
    show b ≠ c
    omega
theorem row_grown {A : Option Addr} {k n : Nat} {l : List Value} {row : Option Nat} (h : Row w A k n l) (hg : w.grownBy w' row) (hr : n ≠ 0 → ∀ a, A = some a → row ≠ some a.block) : Row w' A k n l := by
  refine ⟨h.1, fun hn => ?_⟩
  obtain ⟨b, o, e, hb, hc⟩ := h.2 hn
  have hx := hg.block b hb (fun e2 => hr (by omega) _ e e2.symm)
  exact ⟨b, o, e, Nat.lt_of_lt_of_le hb hg.size, fun j u hu => (World.cell?_of_block hx).trans (hc j u hu)⟩
/-- What lies away from what is written lies still. -/
theorem TyIn.grown {row : Option Nat} (h : TyIn w t) (hg : w.grownBy w' row) (ha : ∀ c, row = some c → awayB c t = true) : TyIn w' t := by
  induction h with
  | mk h1 h2 h3 h4 h5 ih =>
    rename_i t
    refine .mk h1 h2 h3 (row_grown h4 hg (fun hn a hA e => ?_)) (fun k hk => ih k hk (fun c e => awayB_arg (ha c e) hk))
    exact awayB_own (ha _ e) (fun e2 => hn (by rw [e2]; rfl)) hA rfl
end

/-! ### Others in the place of variables -/
/-- What stands in a variable's place, or what stood there. -/
def putAt (vars : List Int) (types : List Ty) (v : Int) : Option Ty :=
  if 0 ≤ idxI vars v then types[(idxI vars v).toNat]? else none
noncomputable def putP (vars : List Int) (types : List Ty) : Ty → Ty.Pure :=
  Ty.fold fun t l => if t.con = [] then ((putAt vars types t.var).getD t).pure else .mk t.con t.var l
theorem putP_eq (vars : List Int) (types : List Ty) (t : Ty) :
    putP vars types t = if t.con = [] then ((putAt vars types t.var).getD t).pure else .mk t.con t.var (t.args.map (putP vars types)) := by
  unfold putP; rw [Ty.fold_eq]
theorem putAt_mem {vars : List Int} {types : List Ty} {v : Int} {u : Ty} (h : putAt vars types v = some u) : u ∈ types := by
  unfold putAt at h
  split at h
  · exact List.mem_of_getElem? h
  · cases h
/-- Is this type that with others in the place of variables, in memory, away from where those are not? -/
structure PutOk (w w' : World) (vars : List Int) (types : List Ty) (t u : Ty) : Prop where
  ty : TyIn w' u
  is : u.pure = putP vars types t
  away : ∀ c, c < w.heap.size → awayB c t = true → (∀ k ∈ types, awayB c k = true) → awayB c u = true
theorem PutOk.old {w w1 w' : World} {vars : List Int} {types : List Ty} {t u : Ty} (h : PutOk w1 w' vars types t u) (hs : w.heap.size ≤ w1.heap.size) : PutOk w w' vars types t u := ⟨h.ty, h.is, fun c hc => h.away c (by omega)⟩
theorem PutOk.var {w : World} {vars : List Int} {types : List Ty} {t : Ty} (hc : t.con = []) (ht : TyIn w t) (hts : ∀ k ∈ types, TyIn w k) : PutOk w w vars types t ((putAt vars types t.var).getD t) := by
  cases e : putAt vars types t.var with
  | none => exact ⟨ht, by rw [putP_eq, if_pos hc, e], fun c _ h _ => h⟩
  | some u => exact ⟨hts u (putAt_mem e), by rw [putP_eq, if_pos hc, e, Option.getD_some], fun c _ _ h => h u (putAt_mem e)⟩
theorem grown_cell (w : World) (b i : Nat) (v : Value) : w.grownBy (w.setCell ⟨b, i, none⟩ v) (some b) :=
  ⟨rfl, rfl, rfl, by simp [World.setCell], fun k _ hk => Below.heap_setCell w ⟨b, i, none⟩ v k (fun e => hk (by rw [e]))⟩
theorem PutOk.ext {w w' w2 : World} {vars : List Int} {types : List Ty} {t u : Ty} (h : PutOk w w' vars types t u) (e : Ext w' w2) : PutOk w w2 vars types t u := ⟨h.ty.ext e, h.is, h.away⟩
/-- Some args that have been made, away from the blocks that are written meanwhile. -/
structure PutsOk (w w' : World) (R : Nat → Prop) (vars : List Int) (types l us : List Ty) : Prop where
  len : us.length = l.length
  ty : ∀ u ∈ us, TyIn w' u
  is : us.map Ty.pure = l.map (putP vars types)
  row : ∀ u ∈ us, ∀ c, R c → awayB c u = true
  away : ∀ u ∈ us, ∀ c, c < w.heap.size → (∀ k ∈ l, awayB c k = true) → (∀ k ∈ types, awayB c k = true) → awayB c u = true
section
variable {w w1 w2 w3 w' : World} {R R' : Nat → Prop} {vars : List Int} {types l us : List Ty} {t u : Ty}
theorem PutsOk.nil (w w' : World) (R : Nat → Prop) (vars : List Int) (types : List Ty) : PutsOk w w' R vars types [] [] := ⟨rfl, by simp, rfl, by simp, by simp⟩
theorem PutsOk.ext (h : PutsOk w w1 R vars types l us) (e : Ext w1 w2) : PutsOk w w2 R vars types l us := ⟨h.len, fun u hu => (h.ty u hu).ext e, h.is, h.row, h.away⟩
/-- One of those blocks has been written. -/
theorem PutsOk.grown (h : PutsOk w w1 R vars types l us) {row : Option Nat} (hg : w1.grownBy w2 row) (hr : ∀ c, row = some c → R c) : PutsOk w w2 R vars types l us :=
  ⟨h.len, fun u hu => (h.ty u hu).grown hg (fun c e => h.row u hu c (hr c e)), h.is, h.row, h.away⟩
/-- Other blocks: what is new is away. -/
theorem PutsOk.rows (h : PutsOk w w1 R vars types l us) (hr : ∀ c, R' c → R c ∨ w1.heap.size ≤ c) : PutsOk w w1 R' vars types l us :=
  ⟨h.len, h.ty, h.is, fun u hu c hc => (hr c hc).elim (h.row u hu c) (fun hc => away_new (h.ty u hu) hc), h.away⟩
/-- One more has been made (w1: the world ahead of it). -/
theorem PutsOk.snoc (h : PutsOk w w1 R vars types l us) (k : PutOk w1 w2 vars types t u) (he : Ext w1 w2)
    (ht : TyIn w t) (hts : ∀ k ∈ types, TyIn w k) (hs : w.heap.size ≤ w1.heap.size) (hr : ∀ c, R c → w.heap.size ≤ c ∧ c < w1.heap.size) :
    PutsOk w w2 R vars types (l ++ [t]) (us ++ [u]) := by
  refine ⟨by simp [h.len], fun x hx => ?_, by rw [List.map_append, List.map_append, h.is]; simp [k.is], fun x hx c hc => ?_, fun x hx c hc h1 h2 => ?_⟩
  · rcases List.mem_append.1 hx with hx | hx
    · exact (h.ty x hx).ext he
    · rw [List.mem_singleton] at hx; subst hx; exact k.ty
  · rcases List.mem_append.1 hx with hx | hx
    · exact h.row x hx c hc
    · rw [List.mem_singleton] at hx; subst hx
      exact k.away c (hr c hc).2 (away_new ht (hr c hc).1) (fun x hx => away_new (hts x hx) (hr c hc).1)
  · rcases List.mem_append.1 hx with hx | hx
    · exact h.away x hx c hc (fun k hk => h1 k (List.mem_append.2 (.inl hk))) h2
    · rw [List.mem_singleton] at hx; subst hx
      exact k.away c (by omega) (h1 t (by simp)) h2
/-- All args have been made: the type. -/
theorem PutsOk.done {A : Option Addr} {cap : Nat} (h : PutsOk w w' R vars types t.args us) (hc : t.con ≠ []) (htx : t.con.length ≤ 9223372036854775807)
    (h1 : us.length ≤ cap) (h2 : cap ≤ 9223372036854775807) (h3 : RowOf tyC w' A us) (hA : us ≠ [] → ∀ a, A = some a → w.heap.size ≤ a.block) : PutOk w w' vars types t (.mk t.con t.var A cap us) where
  ty := TyIn.of h1 h2 htx h3 h.ty
  is := by rw [Ty.pure_eq, putP_eq, if_neg hc]; show Ty.Pure.mk _ _ (us.map Ty.pure) = _; rw [h.is]; rfl
  away c hlt k1 k2 := awayB_mk (fun hn a ha => by have := hA hn a ha; omega) (fun u hu => h.away u hu c hlt (fun k hk => awayB_arg k1 hk) k2)
end

end Go.Proofs.YtmjiljhcjfnfpaaGreat

/- What a row of its own becomes; rows apart from it. Plain. -/
namespace Go.Proofs.YtmjiljhcjfnfpaaGreat
open Go.RowKit

theorem ext_grown {a b : World} (e : Ext a b) (row : Option Nat) : a.grownBy b row := by
  have h := e.below
  obtain ⟨l, d, rfl⟩ := e
  exact ⟨rfl, rfl, rfl, h.size, fun i hi _ => h.block i hi⟩
/-- What a row of its own becomes: nothing else turns. -/
structure Ap (w : World) (v : Value) (w' : World) (v' : Value) : Prop where
  grown : w.grownBy w' v.ownBlock
  own : v'.ownBlock = v.ownBlock ∨ ∀ k, v'.ownBlock = some k → w.heap.size ≤ k
section
variable {a b c : World} {u v x : Value}
theorem Ap.refl (a : World) (u : Value) : Ap a u a u := ⟨World.grownBy.refl _ _, .inl rfl⟩
theorem Ap.trans (h : Ap a u b v) (k : Ap b v c x) : Ap a u c x := by
  refine ⟨⟨k.grown.os.trans h.grown.os, k.grown.tape.trans h.grown.tape, k.grown.output.trans h.grown.output, Nat.le_trans h.grown.size k.grown.size, fun j hj hne => ?_⟩, ?_⟩
  · refine (k.grown.block j (Nat.lt_of_lt_of_le hj h.grown.size) (fun e => ?_)).trans (h.grown.block j hj hne)
    rcases h.own with h2 | h2
    · rw [h2] at e; exact hne e
    · have := h2 j e.symm; omega
  · rcases k.own with h2 | h2
    · rw [h2]; exact h.own
    · exact .inr (fun j hj => Nat.le_trans h.grown.size (h2 j hj))
theorem Ap.of_ext (e : Ext a b) (u : Value) : Ap a u b u := ⟨ext_grown e _, .inl rfl⟩
theorem Ap.ext (h : Ap a u b v) (e : Ext b c) : Ap a u c v := h.trans (Ap.of_ext e v)
theorem Ap.size (h : Ap a u b v) : a.heap.size ≤ b.heap.size := h.grown.size
theorem Ap.below {B : Nat} (h : Ap a u b v) (hB : B ≤ a.heap.size) (hu : ∀ k, u.ownBlock = some k → B ≤ k) : Below B a b := (Below.refl B a).grown h.grown hB hu
theorem Ap.ge {B : Nat} (h : Ap a u b v) (hB : B ≤ a.heap.size) (hu : ∀ k, u.ownBlock = some k → B ≤ k) : ∀ k, v.ownBlock = some k → B ≤ k := by
  intro k hk
  rcases h.own with h2 | h2
  · exact hu k (h2 ▸ hk)
  · exact Nat.le_trans hB (h2 k hk)
end
/-- A row lies in another block than what a value owns. -/
def OffO (v : Value) (A : Option Addr) (n : Nat) : Prop := n ≠ 0 → ∀ c o, A = some ⟨c, o, none⟩ → v.ownBlock ≠ some c
theorem OffO.keep {w w' : World} {v v' : Value} {A : Option Addr} {k n : Nat} {l : List Value} (h : OffO v A n) (hr : Row w A k n l) (a : Ap w v w' v') : OffO v' A n := by
  intro hn c o e
  obtain ⟨b', o', e', hb, -⟩ := hr.2 (by omega)
  rw [e'] at e
  injection e with e
  injection e with e1 e2
  subst e1 e2
  rcases a.own with h2 | h2
  · rw [h2]; exact h hn _ _ e'
  · intro h3; have := h2 _ h3; omega
theorem OffO.row {w w' : World} {v v' : Value} {A : Option Addr} {k n : Nat} {l : List Value} (h : OffO v A n) (hr : Row w A k n l) (a : Ap w v w' v') : Row w' A k n l := by
  refine row_grown hr a.grown (fun hn ad e he => ?_)
  obtain ⟨b', o', e', hb, -⟩ := hr.2 (by omega)
  rw [e'] at e
  injection e with e
  subst e
  exact h hn _ _ e' he
theorem OffO.new {w : World} {v : Value} {A : Option Addr} {n : Nat} (hv : ∀ k, v.ownBlock = some k → k < w.heap.size) (h : ∀ c o, A = some ⟨c, o, none⟩ → w.heap.size ≤ c) : OffO v A n := fun _ c o e he => by
  have h1 := h c o e
  have h2 := hv c he
  omega

end Go.Proofs.YtmjiljhcjfnfpaaGreat
