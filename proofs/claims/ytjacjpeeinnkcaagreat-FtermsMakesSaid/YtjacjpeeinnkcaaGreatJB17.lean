/- Contracts: whether a scheme may be; of the program, and of the reference. -/
import Derived.Test.YtjacjpeeinnkcaaGreatJB16
/- Contracts: whether a scheme may be; of the program, and of the reference. -/
namespace Go.Proofs.YtjacjpeeinnkcaaGreat
open Go.RowKit

structure Sc where
  n : Int
  A : Option Addr
  cap : Nat
  preds : List Pd
  ty : Ty
def scV (s : Sc) : Value := .agg #[.int .i64 s.n, .slice s.A s.preds.length s.cap, encStr s.ty.con, .int .i64 s.ty.var, .slice s.ty.A s.ty.args.length s.ty.cap]
structure ScIn (w : World) (s : Sc) : Prop where
  le : s.preds.length ≤ s.cap
  max : s.cap ≤ 9223372036854775807
  row : PdsIn w s.A s.preds
  ty : TyIn w s.ty
theorem ScIn.ext {w w' : World} {s : Sc} (h : ScIn w s) (e : Ext w w') : ScIn w' s := ⟨h.le, h.max, h.row.ext e, h.ty.ext e⟩
def ScBox (w : World) (b : Nat) (s : Sc) : Prop := w.heap[b]? = some (.cells #[.int .i64 s.n, .slice s.A s.preds.length s.cap, encStr s.ty.con, .int .i64 s.ty.var, .slice s.ty.A s.ty.args.length s.ty.cap] 62 (0, 0))
section
variable {w w' : World} {b : Nat} {s : Sc}
theorem ScBox.new (w : World) (s : Sc) : ScBox (w.alloc (.cells #[.int .i64 s.n, .slice s.A s.preds.length s.cap, encStr s.ty.con, .int .i64 s.ty.var, .slice s.ty.A s.ty.args.length s.ty.cap] 62)) w.heap.size s := at_newB _ _ _ rfl
theorem ScBox.lt (h : ScBox w b s) : b < w.heap.size := lt_of_obj h
theorem ScBox.ext (h : ScBox w b s) (e : Ext w w') : ScBox w' b s := (e.heap h.lt).trans h
theorem ScBox.cells (h : ScBox w b s) : w.cell? ⟨b, 0, none⟩ = some (.int .i64 s.n) ∧ w.cell? ⟨b, 1, none⟩ = some (.slice s.A s.preds.length s.cap) ∧ w.cell? ⟨b, 2, none⟩ = some (encStr s.ty.con) ∧ w.cell? ⟨b, 3, none⟩ = some (.int .i64 s.ty.var) ∧ w.cell? ⟨b, 4, none⟩ = some (.slice s.ty.A s.ty.args.length s.ty.cap) :=
  ⟨bytes_block h 0, bytes_block h 1, bytes_block h 2, bytes_block h 3, bytes_block h 4⟩
end
/-- Is a variable one of n own ones? -/
def ownB (n v : Int) : Bool := decide (0 ≤ v) && decide (v < n)
/-- May a scheme be? -/
noncomputable def scB (s : Sc) : Bool :=
  legalT s.ty && s.preds.all pdB && decide (0 ≤ s.n) && decide (s.n ≤ 4096) && (List.range s.n.toNat).all fun i => (sVars s.ty s.preds).any (· == (i : Int))

theorem own_count (l : List Int) (hl : l.Nodup) : ∀ n : Nat, (l.filter (ownB n)).length ≤ n ∧ ((l.filter (ownB n)).length = n ↔ ∀ i < n, (i : Int) ∈ l) := by
  intro n
  induction n with
  | zero =>
    have h0 : l.filter (ownB (0 : Nat)) = [] := by
      rw [List.filter_eq_nil_iff]
      intro x _
      unfold ownB
      simp <;> omega
    rw [h0]
    simp
  | succ n ih =>
    have hc : ∀ m : List Int, (m.filter (ownB ((n + 1 : Nat) : Int))).length = (m.filter (ownB n)).length + m.count (n : Int) := by
      intro m
      induction m with
      | nil => simp
      | cons x m ih =>
        rw [List.filter_cons, List.filter_cons, List.count_cons]
        by_cases h1 : x = (n : Int)
        · subst h1
          have e1 : ownB ((n + 1 : Nat) : Int) (n : Int) = true := by unfold ownB; simp; omega
          have e2 : ownB (n : Int) (n : Int) = false := by unfold ownB; simp
          have e3 : ((n : Int) == (n : Int)) = true := by simp
          rw [e1, e2, e3]
          simp only [if_true, if_false, List.length_cons, Bool.false_eq_true]
          omega
        · have e1 : ownB ((n + 1 : Nat) : Int) x = ownB (n : Int) x := by
            unfold ownB
            congr 1
            exact decide_eq_decide.2 (by omega)
          have e3 : (x == (n : Int)) = false := by simpa using h1
          rw [e1, e3]
          cases ownB (n : Int) x
          · simp only [Bool.false_eq_true, if_false]; omega
          · simp only [if_true, if_false, Bool.false_eq_true, List.length_cons]; omega
    have hc1 := hc l
    have h1 : l.count (n : Int) ≤ 1 := List.nodup_iff_count.1 hl (n : Int)
    have h2 : 0 < l.count (n : Int) ↔ (n : Int) ∈ l := List.count_pos_iff
    refine ⟨by omega, ⟨fun h i hi => ?_, fun h => ?_⟩⟩
    · have h3 : (l.filter (ownB n)).length = n := by have := ih.1; omega
      rcases Nat.lt_or_ge i n with h4 | h4
      · exact ih.2.1 h3 i h4
      · have : i = n := by omega
        subst this
        exact h2.1 (by omega)
    · have h3 := ih.2.2 (fun i hi => h i (by omega))
      have h4 := h2.2 (h n (by omega))
      omega
theorem own_all (l : List Int) (hl : l.Nodup) (n : Nat) : (((l.filter (ownB n)).length : Int) == (n : Int)) = (List.range n).all fun i => l.any (· == (i : Int)) := by
  rw [Bool.eq_iff_iff, beq_iff_eq, Int.natCast_inj, (own_count l hl n).2, List.all_eq_true]
  constructor
  · intro h i hi
    rw [List.mem_range] at hi
    exact List.any_eq_true.2 ⟨_, h i hi, by simp⟩
  · intro h i hi
    obtain ⟨x, hx, e⟩ := List.any_eq_true.1 (h i (List.mem_range.2 hi))
    simp at e
    rwa [← e]

theorem s_own (v n : Int) (w : World) : Calls Tryz.prog 104 #[.int .i64 v, .int .i64 n] w fun e w' => e = .returned (.bool (ownB n v)) ∧ w' = w := by
  unfold ownB
  by_cases h : 0 ≤ v
  · have h1 : decide (0 ≤ v) = true := by simpa using h
    go_enter Tryz.func104, Tryz.ntmps104
    go_wp2
    go_ret
    exact ⟨by rw [h1, Bool.true_and]; rfl, rfl⟩
  · have h1 : decide (0 ≤ v) = false := by simpa using h
    go_enter Tryz.func104, Tryz.ntmps104
    go_wp2
    go_ret
    exact ⟨rfl, rfl⟩

set_option maxRecDepth 10000 in
set_option maxHeartbeats 4000000 in
theorem s_legal (s : Sc) (w : World) (h : ScIn w s) (hl : s.preds.length ≤ 40000) (hsz : s.ty.size + psz s.preds ≤ 50000) : Calls Tryz.prog 47 #[scV s] w fun e w' => e = .returned (.bool (scB s)) ∧ Ext w w' := by
  have X0 : Hid (Ext w (w.alloc (.cells #[.int .i64 s.n, .slice s.A s.preds.length s.cap, encStr s.ty.con, .int .i64 s.ty.var, .slice s.ty.A s.ty.args.length s.ty.cap] 62))) := hide ((Ext.refl w).alloc _)
  have HB := hide (ScBox.new w s)
  obtain ⟨c0, c1, c2, c3, c4⟩ := HB.out.cells
  have HM := hide (s_may s.ty s.A s.cap s.preds _ (h.ty.ext X0.out) (by omega) (h.row.ext X0.out) (by omega) (fun p hp => by have := psz_mem hp; omega))
  have HV := hide (fun w' (e : Ext w w') => hide (s_vars s.ty s.A s.cap s.preds w' (h.ty.ext e) (h.row.ext e) hl hsz))
  have HS : Hid (scB s = (legalT s.ty && s.preds.all pdB && decide (0 ≤ s.n) && decide (s.n ≤ 4096) && (List.range s.n.toNat).all fun i => (sVars s.ty s.preds).any (· == (i : Int)))) := hide rfl
  have hn := sVars_len s.ty s.preds
  have HN := hide (sVars_nodup s.ty s.preds)
  clear h
  unfold scV tyV at *
  generalize scB s = R at *
  generalize (legalT s.ty && s.preds.all pdB) = M at *
  generalize sVars s.ty s.preds = L at *
  cases M
  · have hR : R = false := by rw [HS.out]; simp
    clear HS
    subst hR
    go_enter Tryz.func47, Tryz.ntmps47
    go_wp2_with fail
    refine HM.out.mono ?_
    rintro e w2 ⟨rfl, hx⟩
    go_wp2
    go_ret
    exact ⟨rfl, X0.out.trans hx⟩
  by_cases h0 : s.n < 0
  · have hR : R = false := by rw [HS.out, decide_eq_false (show ¬ 0 ≤ s.n by omega)]; simp
    have h0' : decide (s.n < 0) = true := by simpa using h0
    clear HS h0
    subst hR
    go_enter Tryz.func47, Tryz.ntmps47
    go_wp2_with fail
    refine HM.out.mono ?_
    rintro e w2 ⟨rfl, hx⟩
    obtain ⟨c0, -, -, -, -⟩ := (HB.out.ext hx).cells
    go_wp2
    go_ret
    exact ⟨rfl, X0.out.trans hx⟩
  by_cases h1 : s.n > 4096
  · have hR : R = false := by rw [HS.out, decide_eq_false (show ¬ s.n ≤ 4096 by omega)]; simp
    have h0' : decide (s.n < 0) = false := by simpa using h0
    have h1' : decide (s.n > 4096) = true := by simpa using h1
    clear HS h0 h1
    subst hR
    go_enter Tryz.func47, Tryz.ntmps47
    go_wp2_with fail
    refine HM.out.mono ?_
    rintro e w2 ⟨rfl, hx⟩
    obtain ⟨c0, -, -, -, -⟩ := (HB.out.ext hx).cells
    go_wp2
    go_ret
    exact ⟨rfl, X0.out.trans hx⟩
  obtain ⟨m, hm1⟩ : ∃ m : Nat, s.n = (m : Int) := ⟨s.n.toNat, by omega⟩
  have HMn := hide hm1
  have hm : m ≤ 4096 := by omega
  clear hm1
  have HR : Hid (R = (((L.filter (ownB s.n)).length : Int) == s.n)) := hide (by
    rw [HS.out, decide_eq_true (show 0 ≤ s.n by omega), decide_eq_true (show s.n ≤ 4096 by omega), HMn.out, own_all L HN.out m]
    simp)
  have h0' : decide (s.n < 0) = false := by simpa using h0
  have h1' : decide (s.n > 4096) = false := by simpa using h1
  have HT : Hid (∀ k (h : k < L.length), (L.take (k + 1)).filter (ownB s.n) = (L.take k).filter (ownB s.n) ++ if ownB s.n (L[k]'h) then [L[k]'h] else []) := hide (fun k h => by
    rw [List.take_succ_eq_append_getElem h, List.filter_append]
    congr 1
    cases hb : ownB s.n (L[k]'h) <;> simp [hb])
  have HLn : Hid (∀ k, ((L.take k).filter (ownB s.n)).length ≤ 50000) := hide (fun k => by
    have h1 := List.length_filter_le (ownB s.n) (L.take k)
    rw [List.length_take] at h1
    omega)
  clear HS HN h0 h1
  go_enter Tryz.func47, Tryz.ntmps47
  go_wp2_with fail
  refine HM.out.mono ?_
  rintro e w2 ⟨rfl, hx⟩
  have X2 := hide (X0.out.trans hx)
  have HB2 := hide (HB.out.ext hx)
  clear hx c0 c1 c2 c3 c4
  obtain ⟨c0, c1, c2, c3, c4⟩ := HB2.out.cells
  go_wp2_with fail
  refine (HV.out _ X2.out).out.mono ?_
  rintro e w3 ⟨⟨A', c', rfl, r1, r2, r3⟩, hx3⟩
  have X3 := hide (X2.out.trans hx3)
  have HB3 := hide (HB2.out.ext hx3)
  have R3 := hide r3
  clear hx3 r3 c0 c1 c2 c3 c4
  obtain ⟨c0, c1, c2, c3, c4⟩ := HB3.out.cells
  go_wp2
  go_loop [3, 28] (fun u i => ∃ k : Nat, k ≤ L.length ∧ i = .int .i64 k ∧ u = .int .i64 (((L.take k).filter (ownB s.n)).length : Int)) (fun _ i => L.length - (intOf i).toNat)
  case atStart => exact ⟨0, Nat.zero_le _, rfl, rfl⟩
  case round =>
    obtain ⟨k, hk, rfl, rfl⟩ := hrel
    by_cases hlt : k < L.length
    · have hlt' : (k : Int) < (L.length : Int) := by omega
      have hk0 : (0 : Int) ≤ (k : Int) := by omega
      obtain ⟨b, o, rfl, hb, hc⟩ := Ints.at_ R3.out hlt
      have Htk := hide (HT.out k hlt)
      have hn1 := HLn.out k
      generalize L[k]'hlt = x at *
      generalize (L.take k).filter (ownB s.n) = F at *
      have HO := hide (s_own x s.n w3)
      cases hb : ownB s.n x
      · rw [hb] at HO Htk
        clear hb
        go_wp2_with fail
        refine HO.out.mono ?_
        rintro e w3 ⟨rfl, rfl⟩
        go_wp2
        go_round
        case rel => exact ⟨k + 1, hlt, by go_num, by rw [Htk.out]; simp⟩
        case measure => simp [intOf]; omega
      · rw [hb] at HO Htk
        clear hb
        go_wp2_with fail
        refine HO.out.mono ?_
        rintro e w3 ⟨rfl, rfl⟩
        go_wp2
        go_round
        case rel => exact ⟨k + 1, hlt, by go_num, by rw [Htk.out]; simp⟩
        case measure => simp [intOf]; omega
    · have hge : ¬ (k : Int) < (L.length : Int) := by omega
      rw [List.take_of_length_le (by omega)]
      go_wp2
      go_ret
      exact ⟨by rw [HR.out]; rfl, X3.out⟩


end Go.Proofs.YtjacjpeeinnkcaaGreat

/- Types, the blocks that they lie in, and types with others in the place of variables. No program in sight. -/
namespace Go.Proofs.YtjacjpeeinnkcaaGreat
open Go.RowKit

/-- Does no part of a type lie in block c? -/
noncomputable def awayB (c : Nat) : Ty → Bool := Ty.allB fun t => t.args.isEmpty || !(t.A.any fun a => a.block == c)
theorem awayB_eq (c : Nat) (t : Ty) : awayB c t = ((t.args.isEmpty || !(t.A.any fun a => a.block == c)) && t.args.all (awayB c)) := allB_eq _ t
theorem awayB_mk {c : Nat} {s : Str} {v : Int} {A : Option Addr} {cap : Nat} {l : List Ty} (h1 : l ≠ [] → ∀ a, A = some a → a.block ≠ c) (h2 : ∀ k ∈ l, awayB c k = true) : awayB c (.mk s v A cap l) = true := by
  rw [awayB_eq, Bool.and_eq_true, List.all_eq_true]
  refine ⟨?_, h2⟩
  show (l.isEmpty || !(A.any fun a => a.block == c)) = true
  cases l with
  | nil => rfl
  | cons x l =>
    cases A with
    | none => rfl
    | some a => have := h1 (by simp) a rfl; simp [this]
theorem awayB_arg {c : Nat} {t k : Ty} (h : awayB c t = true) (hk : k ∈ t.args) : awayB c k = true := by
  rw [awayB_eq, Bool.and_eq_true, List.all_eq_true] at h
  exact h.2 k hk
theorem awayB_own {c : Nat} {t : Ty} (h : awayB c t = true) (hn : t.args ≠ []) {a : Addr} (ha : t.A = some a) : a.block ≠ c := by
  rw [awayB_eq, Bool.and_eq_true] at h
  have h1 := h.1
  rw [ha] at h1
  cases e : t.args with
  | nil => exact absurd e hn
  | cons x l => rw [e] at h1; simpa using h1
section
variable {w w' : World} {t : Ty}
/-- What is behind all that there was it does not lie in. -/
theorem away_new (h : TyIn w t) {c : Nat} (hc : w.heap.size ≤ c) : awayB c t = true := by
  induction h with
  | mk h1 h2 h3 h4 h5 ih =>
    rename_i t
    cases t with
    | mk s v A cap l =>
    refine awayB_mk (fun hn a ha => ?_) ih
    obtain ⟨b, o, e, hb, -⟩ := h4.2 (List.length_pos_iff.2 hn)
    subst ha
    injection e with e
    subst e
    show b ≠ c
    omega
theorem row_grown {A : Option Addr} {k n : Nat} {l : List Value} {row : Option Nat} (h : Row w A k n l) (hg : w.grownBy w' row) (hr : n ≠ 0 → ∀ a, A = some a → row ≠ some a.block) : Row w' A k n l := by
  refine ⟨h.1, fun hn => ?_⟩
  obtain ⟨b, o, e, hb, hc⟩ := h.2 hn
  have hx := hg.block b hb (fun e2 => hr (by omega) _ e e2.symm)
  exact ⟨b, o, e, Nat.lt_of_lt_of_le hb hg.size, fun j u hu => (World.cell?_of_block hx).trans (hc j u hu)⟩
/-- What lies away from what is written lies still. -/
theorem TyIn.grown {row : Option Nat} (h : TyIn w t) (hg : w.grownBy w' row) (ha : ∀ c, row = some c → awayB c t = true) : TyIn w' t := by
  induction h with
  | mk h1 h2 h3 h4 h5 ih =>
    rename_i t
    refine .mk h1 h2 h3 (row_grown h4 hg (fun hn a hA e => ?_)) (fun k hk => ih k hk (fun c e => awayB_arg (ha c e) hk))
    exact awayB_own (ha _ e) (fun e2 => hn (by rw [e2]; rfl)) hA rfl
end

/-! ### Others in the place of variables -/
/-- What stands in a variable's place, or what stood there. -/
def putAt (vars : List Int) (types : List Ty) (v : Int) : Option Ty :=
  if 0 ≤ idxI vars v then types[(idxI vars v).toNat]? else none
noncomputable def putP (vars : List Int) (types : List Ty) : Ty → Ty.Pure :=
  Ty.fold fun t l => if t.con = [] then ((putAt vars types t.var).getD t).pure else .mk t.con t.var l
theorem putP_eq (vars : List Int) (types : List Ty) (t : Ty) :
    putP vars types t = if t.con = [] then ((putAt vars types t.var).getD t).pure else .mk t.con t.var (t.args.map (putP vars types)) := by
  unfold putP; rw [Ty.fold_eq]
theorem putAt_mem {vars : List Int} {types : List Ty} {v : Int} {u : Ty} (h : putAt vars types v = some u) : u ∈ types := by
  unfold putAt at h
  split at h
  · exact List.mem_of_getElem? h
  · cases h
/-- Is this type that with others in the place of variables, in memory, away from where those are not? -/
structure PutOk (w w' : World) (vars : List Int) (types : List Ty) (t u : Ty) : Prop where
  ty : TyIn w' u
  is : u.pure = putP vars types t
  away : ∀ c, c < w.heap.size → awayB c t = true → (∀ k ∈ types, awayB c k = true) → awayB c u = true
theorem PutOk.old {w w1 w' : World} {vars : List Int} {types : List Ty} {t u : Ty} (h : PutOk w1 w' vars types t u) (hs : w.heap.size ≤ w1.heap.size) : PutOk w w' vars types t u := ⟨h.ty, h.is, fun c hc => h.away c (by omega)⟩
theorem PutOk.var {w : World} {vars : List Int} {types : List Ty} {t : Ty} (hc : t.con = []) (ht : TyIn w t) (hts : ∀ k ∈ types, TyIn w k) : PutOk w w vars types t ((putAt vars types t.var).getD t) := by
  cases e : putAt vars types t.var with
  | none => exact ⟨ht, by rw [putP_eq, if_pos hc, e], fun c _ h _ => h⟩
  | some u => exact ⟨hts u (putAt_mem e), by rw [putP_eq, if_pos hc, e, Option.getD_some], fun c _ _ h => h u (putAt_mem e)⟩
theorem grown_cell (w : World) (b i : Nat) (v : Value) : w.grownBy (w.setCell ⟨b, i, none⟩ v) (some b) :=
  ⟨rfl, rfl, rfl, by simp [World.setCell], fun k _ hk => Below.heap_setCell w ⟨b, i, none⟩ v k (fun e => hk (by rw [e]))⟩
theorem PutOk.ext {w w' w2 : World} {vars : List Int} {types : List Ty} {t u : Ty} (h : PutOk w w' vars types t u) (e : Ext w' w2) : PutOk w w2 vars types t u := ⟨h.ty.ext e, h.is, h.away⟩
/-- Some args that have been made, away from the blocks that are written meanwhile. -/
structure PutsOk (w w' : World) (R : Nat → Prop) (vars : List Int) (types l us : List Ty) : Prop where
  len : us.length = l.length
  ty : ∀ u ∈ us, TyIn w' u
  is : us.map Ty.pure = l.map (putP vars types)
  row : ∀ u ∈ us, ∀ c, R c → awayB c u = true
  away : ∀ u ∈ us, ∀ c, c < w.heap.size → (∀ k ∈ l, awayB c k = true) → (∀ k ∈ types, awayB c k = true) → awayB c u = true
section
variable {w w1 w2 w3 w' : World} {R R' : Nat → Prop} {vars : List Int} {types l us : List Ty} {t u : Ty}
theorem PutsOk.nil (w w' : World) (R : Nat → Prop) (vars : List Int) (types : List Ty) : PutsOk w w' R vars types [] [] := ⟨rfl, by simp, rfl, by simp, by simp⟩
theorem PutsOk.ext (h : PutsOk w w1 R vars types l us) (e : Ext w1 w2) : PutsOk w w2 R vars types l us := ⟨h.len, fun u hu => (h.ty u hu).ext e, h.is, h.row, h.away⟩
/-- One of those blocks has been written. -/
theorem PutsOk.grown (h : PutsOk w w1 R vars types l us) {row : Option Nat} (hg : w1.grownBy w2 row) (hr : ∀ c, row = some c → R c) : PutsOk w w2 R vars types l us :=
  ⟨h.len, fun u hu => (h.ty u hu).grown hg (fun c e => h.row u hu c (hr c e)), h.is, h.row, h.away⟩
/-- Other blocks: what is new is away. -/
theorem PutsOk.rows (h : PutsOk w w1 R vars types l us) (hr : ∀ c, R' c → R c ∨ w1.heap.size ≤ c) : PutsOk w w1 R' vars types l us :=
  ⟨h.len, h.ty, h.is, fun u hu c hc => (hr c hc).elim (h.row u hu c) (fun hc => away_new (h.ty u hu) hc), h.away⟩
/-- One more has been made (w1: the world ahead of it). -/
theorem PutsOk.snoc (h : PutsOk w w1 R vars types l us) (k : PutOk w1 w2 vars types t u) (he : Ext w1 w2)
    (ht : TyIn w t) (hts : ∀ k ∈ types, TyIn w k) (hs : w.heap.size ≤ w1.heap.size) (hr : ∀ c, R c → w.heap.size ≤ c ∧ c < w1.heap.size) :
    PutsOk w w2 R vars types (l ++ [t]) (us ++ [u]) := by
  refine ⟨by simp [h.len], fun x hx => ?_, by rw [List.map_append, List.map_append, h.is]; simp [k.is], fun x hx c hc => ?_, fun x hx c hc h1 h2 => ?_⟩
  · rcases List.mem_append.1 hx with hx | hx
    · exact (h.ty x hx).ext he
    · rw [List.mem_singleton] at hx; subst hx; exact k.ty
  · rcases List.mem_append.1 hx with hx | hx
    · exact h.row x hx c hc
    · rw [List.mem_singleton] at hx; subst hx
      exact k.away c (hr c hc).2 (away_new ht (hr c hc).1) (fun x hx => away_new (hts x hx) (hr c hc).1)
  · rcases List.mem_append.1 hx with hx | hx
    · exact h.away x hx c hc (fun k hk => h1 k (List.mem_append.2 (.inl hk))) h2
    · rw [List.mem_singleton] at hx; subst hx
      exact k.away c (by omega) (h1 t (by simp)) h2
/-- All args have been made: the type. -/
theorem PutsOk.done {A : Option Addr} {cap : Nat} (h : PutsOk w w' R vars types t.args us) (hc : t.con ≠ []) (htx : t.con.length ≤ 9223372036854775807)
    (h1 : us.length ≤ cap) (h2 : cap ≤ 9223372036854775807) (h3 : RowOf tyC w' A us) (hA : us ≠ [] → ∀ a, A = some a → w.heap.size ≤ a.block) : PutOk w w' vars types t (.mk t.con t.var A cap us) where
  ty := TyIn.of h1 h2 htx h3 h.ty
  is := by rw [Ty.pure_eq, putP_eq, if_neg hc]; show Ty.Pure.mk _ _ (us.map Ty.pure) = _; rw [h.is]; rfl
  away c hlt k1 k2 := awayB_mk (fun hn a ha => by have := hA hn a ha; omega) (fun u hu => h.away u hu c hlt (fun k hk => awayB_arg k1 hk) k2)
end

end Go.Proofs.YtjacjpeeinnkcaaGreat
