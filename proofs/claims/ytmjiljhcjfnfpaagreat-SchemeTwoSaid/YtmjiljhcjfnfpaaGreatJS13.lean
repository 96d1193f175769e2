/- Contracts of Go's package slices on rows of numbers: what is deleted, whether one is there, sorted, runs made one. -/
import Derived.Test.YtmjiljhcjfnfpaaGreatJS12
import Derived.Test.YtmjiljhcjfnfpaaGreatSrtI
import Derived.Shelf.GgSortFunc.Insertion
import Derived.Lib.SlicesCompact
import Derived.Laws.OwnMore
import Derived.Lib.SliceRun
/- Contracts of Go's package slices on rows of numbers: what is deleted, whether one is there, sorted, runs made one. -/
namespace Go.Proofs.YtmjiljhcjfnfpaaGreat
open Go.RowKit Go.Sort Go.Shelf

section
variable {α : Type} [Inhabited α] (enc : α → Value) (w : World) (blk off m : Nat) (dk : Array α) (os : Array Obj)
theorem so_heap {k : Nat} (h1 : k ≠ blk) (h2 : k < w.heap.size) : (sortWorld enc w blk off m dk os).heap[k]? = w.heap[k]? := by
  have e1 : (sortWorld enc w blk off m dk os).heap = w.heap.modify blk (onCells (putCells enc off dk)) ++ os := rfl
  rw [e1, Array.getElem?_append_left (by simpa using h2), Array.getElem?_modify, if_neg (fun e => h1 e.symm)]
theorem so_size : w.heap.size ≤ (sortWorld enc w blk off m dk os).heap.size := by
  have e1 : (sortWorld enc w blk off m dk os).heap = w.heap.modify blk (onCells (putCells enc off dk)) ++ os := rfl
  rw [e1, Array.size_append, Array.size_modify]
  omega
theorem so_grown : w.grownBy (sortWorld enc w blk off m dk os) (some blk) :=
  ⟨rfl, rfl, rfl, so_size enc w blk off m dk os, fun _ hk hn => so_heap enc w blk off m dk os (fun e => hn (by rw [e])) hk⟩
theorem so_cell {d0 : Array α} (h0 : Holds enc w blk off d0) (hs : dk.size = d0.size) (hb : blk < w.heap.size) {j : Nat} (hj : j < dk.size) : (sortWorld enc w blk off m dk os).cell? ⟨blk, off + j, none⟩ = some (enc dk[j]!) ∧ (sortWorld enc w blk off m dk os).frozen? ⟨blk, off + j, none⟩ = false := by
  have h1 : (sortWorld enc w blk off m dk os).heap[blk]? = (putRow enc w blk off dk).heap[blk]? := by
    have e1 : (sortWorld enc w blk off m dk os).heap = (putRow enc w blk off dk).heap ++ os := rfl
    rw [e1, Array.getElem?_append_left (by simpa using hb)]
  exact ⟨(World.cell?_of_block (a := ⟨blk, off + j, none⟩) h1).trans (cell?_putRow enc w blk off d0 dk h0 hs j hj),
    (World.frozen?_of_block (a := ⟨blk, off + j, none⟩) h1).trans ((frozen?_putRow _ _ _ _ _ _).trans (h0 j (by omega)).2)⟩
end
/-- An own row holds what it says. -/
theorem own_holds {w : World} {base g cap : Nat} {l : List Int} (h : w.ownsRow base 3 1 (.slice (some ⟨g, 0, none⟩) l.length cap) l.length (l.map (Value.int .i64))) : Holds (Value.int .i64) w g 0 l.toArray := by
  intro j hj
  have hj' : j < l.length := by simpa using hj
  rw [Nat.zero_add]
  refine ⟨?_, h.frozenAt j⟩
  rw [h.cellAt j (by omega), List.getElem?_map, List.getElem?_eq_getElem hj', getElem!_pos l.toArray j hj]
  simp
theorem own_some {w : World} {base : Nat} {v : Value} {l : List Int} (h : w.ownsRow base 3 1 v l.length (l.map (Value.int .i64))) :
    (v = .slice none 0 0 ∧ l = []) ∨ ∃ g cap, v = .slice (some ⟨g, 0, none⟩) l.length cap ∧ base ≤ g ∧ g < w.heap.size ∧ l.length ≤ cap ∧ cap ≤ 9223372036854775807 := by
  rcases h.2 with ⟨h1, h2⟩ | ⟨g, cap, cur, rfl, hb, hg, hle, hmax, -⟩
  · exact .inl ⟨h1, List.eq_nil_of_length_eq_zero h2⟩
  · exact .inr ⟨g, cap, rfl, hb, (Array.getElem?_eq_some_iff.1 hg).1, hle, by unfold maxLen at hmax; omega⟩
theorem ints_of {w : World} {g : Nat} {l : List Int} (hg : g < w.heap.size) (h : ∀ j, j < l.length → w.cell? ⟨g, j, none⟩ = some (.int .i64 (l.getD j 0))) : Ints w (some ⟨g, 0, none⟩) l := by
  refine ⟨flat_len _ _ intC.hf _, fun _ => ⟨g, 0, rfl, hg, fun j u hu => ?_⟩⟩
  rw [show l.flatMap intC.f = l.map (Value.int .i64) from flat_one _ _] at hu
  have hj : j < l.length := by simpa using (List.getElem?_eq_some_iff.1 hu).1
  rw [Nat.zero_add, h j hj, ← hu]
  simp [hj]

/-- What a function value tells of a number, whatever lies in one block. -/
def Tells (g : Nat) (w : World) (f : FuncId) (lb : Array Value) (p : Int → Bool) : Prop :=
  ∀ (W : World) (x : Int), w.heap.size ≤ W.heap.size → (∀ k, k < w.heap.size → k ≠ g → W.heap[k]? = w.heap[k]?) → Calls Tryz.prog f (#[.int .i64 x] ++ lb) W fun e w' => e = .returned (.bool (p x)) ∧ w' = W



theorem sort_i (base : Nat) (v : Value) (l : List Int) (w : World) (h : w.ownsRow base 3 1 v l.length (l.map (Value.int .i64))) (hl : l.length ≤ 1000000) :
    Calls Tryz.prog 39 #[v] w fun e w' => e = .returned (.tuple #[]) ∧ w.grownBy w' v.ownBlock ∧ ∀ g cap, v = .slice (some ⟨g, 0, none⟩) l.length cap → Holds (Value.int .i64) w' g 0 (l.mergeSort fun x y => decide (x ≤ y)).toArray := by
  rcases own_some h with ⟨rfl, rfl⟩ | ⟨g, cap, rfl, hb, hg, hle, hmx⟩
  · refine Calls.mono (show Calls Tryz.prog 39 _ _ _ from AnyM.slices_Sort_int_none (P := Tryz.prog) (ρ := Tryz.lSort_ren) Tryz.lSort none 0 w) ?_
    rintro e w' ⟨rfl, rfl⟩
    exact ⟨rfl, World.grownBy.refl _ _, fun g cap e => by cases e⟩
  · have hH := own_holds h
    refine Calls.mono (show Calls Tryz.prog 39 _ _ _ from AnyM.slices_Sort_int (P := Tryz.prog) (ρ := Tryz.lSort_ren) Tryz.lSort g 0 cap l w hH hg (by omega)) ?_
    rintro e w' ⟨rfl, n, os, rfl⟩
    refine ⟨rfl, so_grown (Value.int .i64) w g 0 n _ os, fun g' cap' e => ?_⟩
    injection e with e _ _
    injection e with e
    injection e with e
    subst e
    intro j hj
    exact so_cell (Value.int .i64) w g 0 n _ os hH (by simp) hg hj

/-- Runs made one: are no two neighbours the same? -/
theorem compact_len (l : List Int) : ((Go.Lib.compactUpTo (l.mergeSort fun x y => decide (x ≤ y)).toArray l.length).length = l.length) ↔ l.Nodup := by
  have hp : (l.mergeSort fun x y => decide (x ≤ y)).Perm l := List.mergeSort_perm _ _
  have hs : (l.mergeSort fun x y => decide (x ≤ y)).Pairwise fun x y => decide (x ≤ y) = true := List.pairwise_mergeSort (fun a b c h1 h2 => by simp at *; omega) (fun a b => by simp; omega) l
  rw [← hp.nodup_iff, ← hp.length_eq]
  generalize (l.mergeSort fun x y => decide (x ≤ y)) = s at *
  unfold Go.Lib.compactUpTo
  rw [List.length_map]
  have hle := List.length_filter_le (Go.Lib.keeps s.toArray) (List.range s.length)
  rw [List.length_range] at hle
  constructor
  · intro h
    have hall : ∀ j, j < s.length → Go.Lib.keeps s.toArray j = true := by
      have := List.length_filter_eq_length_iff.1 (h.trans (List.length_range (n := s.length)).symm)
      exact fun j hj => this j (List.mem_range.2 hj)
    rw [List.nodup_iff_pairwise_ne]
    have hlt : ∀ d i (h1 : i + d + 1 < s.length) (h0 : i < s.length), s[i] < s[i + d + 1] := by
      intro d
      induction d with
      | zero =>
        intro i hi h0
        have h1 := hall (i + 1) (by omega)
        have h2 := (List.pairwise_iff_getElem.1 hs) i (i + 1) (by omega) (by omega) (by omega)
        simp only [Go.Lib.keeps, decide_eq_true_eq] at h1 h2
        rcases h1 with h1 | h1
        · omega
        · rw [getElem!_pos s.toArray (i + 1) (by simp; omega), getElem!_pos s.toArray (i + 1 - 1) (by simp; omega)] at h1
          simp only [List.getElem_toArray, Nat.add_sub_cancel] at h1
          show s[i] < s[i + 1]
          omega
      | succ d ih =>
        intro i hi h0
        have h1 := ih i (by omega) h0
        have h2 := hall (i + d + 1 + 1) (by omega)
        have h3 := (List.pairwise_iff_getElem.1 hs) (i + d + 1) (i + d + 1 + 1) (by omega) (by omega) (by omega)
        simp only [Go.Lib.keeps, decide_eq_true_eq] at h2 h3
        rcases h2 with h2 | h2
        · omega
        · rw [getElem!_pos s.toArray (i + d + 1 + 1) (by simp; omega), getElem!_pos s.toArray (i + d + 1 + 1 - 1) (by simp; omega)] at h2
          simp only [List.getElem_toArray, Nat.add_sub_cancel] at h2
          show s[i] < s[i + d + 1 + 1]
          omega
    rw [List.pairwise_iff_getElem]
    intro i j hi hj hij
    have := hlt (j - i - 1) i (by omega) hi
    simp only [show i + (j - i - 1) + 1 = j by omega] at this
    omega
  · intro h
    rw [List.filter_eq_self.2, List.length_range]
    intro j hj
    rw [List.mem_range] at hj
    simp only [Go.Lib.keeps, decide_eq_true_eq]
    by_cases h0 : j = 0
    · exact .inl h0
    · right
      rw [getElem!_pos s.toArray j (by simp; omega), getElem!_pos s.toArray (j - 1) (by simp; omega)]
      simp only [List.getElem_toArray]
      exact ((List.pairwise_iff_getElem.1 (List.nodup_iff_pairwise_ne.1 h)) (j - 1) j (by omega) hj (by omega)).symm


end Go.Proofs.YtmjiljhcjfnfpaaGreat

/- Contracts: all variables of predicates, and of a type and predicates; of the program. -/
namespace Go.Proofs.YtmjiljhcjfnfpaaGreat
open Go.RowKit

noncomputable def psz (l : List Pd) : Nat := (l.map fun p => p.ty.size).sum
theorem psz_mem {l : List Pd} {p : Pd} (h : p ∈ l) : p.ty.size ≤ psz l := Tree.mem_sum (fun p : Pd => p.ty.size) h
/-- The variables of all, as they stand, those of each once. -/
noncomputable def pvarsAll (l : List Pd) : List Int := (l.map fun p => onceI p.ty.vars).flatten
theorem pvarsAll_take (l : List Pd) {k : Nat} (h : k < l.length) : pvarsAll (l.take (k + 1)) = pvarsAll (l.take k) ++ onceI (l[k]'h).ty.vars := by
  unfold pvarsAll
  rw [List.take_succ_eq_append_getElem h, List.map_append, List.flatten_append]
  congr 1
  simp
theorem pvarsAll_len (l : List Pd) : (pvarsAll l).length ≤ psz l := by
  unfold pvarsAll psz
  rw [List.length_flatten, List.map_map]
  induction l with
  | nil => simp
  | cons x l ih =>
    have h1 : (onceI x.ty.vars).length ≤ x.ty.size := Nat.le_trans (onceI_len _) (vars_len _)
    simp only [List.map_cons, List.sum_cons, Function.comp] at *
    omega
theorem psz_take (l : List Pd) (k : Nat) : psz (l.take k) ≤ psz l := by
  have : psz l = psz (l.take k) + psz (l.drop k) := by unfold psz; rw [← List.sum_append, ← List.map_append, List.take_append_drop]
  omega
noncomputable def pvars (l : List Pd) : List Int := onceI (pvarsAll l)
theorem pvars_take (l : List Pd) {k : Nat} (h : k < l.length) : pvars (l.take (k + 1)) = onceGo (pvars (l.take k)) (onceI (l[k]'h).ty.vars) := by
  unfold pvars
  rw [pvarsAll_take l h]
  unfold onceI
  rw [onceGo_app]
theorem onceGo_snoc (out l : List Int) {j : Nat} (h : j < l.length) : onceGo out (l.take (j + 1)) = if (onceGo out (l.take j)).any (· == l[j]'h) then onceGo out (l.take j) else onceGo out (l.take j) ++ [l[j]'h] := by
  have ha : ∀ (l : List Int) (x : Int), l.any (· == x) = l.contains x := fun l x => by
    rw [Bool.eq_iff_iff, List.any_eq_true, List.contains_iff_mem]
    constructor
    · rintro ⟨y, hy, e⟩; simp at e; subst e; exact hy
    · exact fun h => ⟨x, h, by simp⟩
  rw [List.take_succ_eq_append_getElem h, onceGo_app, ha]
  rfl

set_option maxRecDepth 10000 in
set_option maxHeartbeats 4000000 in
theorem p_varsO (A : Option Addr) (cap : Nat) (l : List Pd) (w : World) (h : PdsIn w A l) (hl : l.length ≤ 50000) (hsz : psz l ≤ 50000) :
    Calls Tryz.prog 55 #[.slice A l.length cap] w fun e w' => (∃ A' cap', e = .returned (.slice A' (pvars l).length cap') ∧ (pvars l).length ≤ cap' ∧ cap' ≤ 9223372036854775807 ∧ Ints w' A' (pvars l) ∧ ∀ c o, A' = some ⟨c, o, none⟩ → w.heap.size ≤ c) ∧ Ext w w' := by
  obtain ⟨i0, hi, hz0, hz1, hz2⟩ := info_parts int64_info
  have HL := hide h
  have HT := hide (fun k (hk : k < l.length) => pvars_take l hk)
  have HLn : Hid (∀ k, (pvars (l.take k)).length ≤ 50000) := hide (fun k => Nat.le_trans (onceI_len _) (Nat.le_trans (pvarsAll_len _) (Nat.le_trans (psz_take l k) hsz)))
  have HSz := hide (fun p (hp : p ∈ l) => Nat.le_trans (psz_mem hp) hsz)
  clear h hsz
  go_enter Tryz.func55, Tryz.ntmps55
  go_wp2
  go_loopw [3, 10] (fun u i wr => ∃ k : Nat, k ≤ l.length ∧ i = .int .i64 k ∧ Hid (Ext w wr) ∧ Hid (wr.ownsRow w.heap.size 3 1 u (pvars (l.take k)).length ((pvars (l.take k)).map (Value.int .i64)))) (fun _ i _ => l.length - (intOf i).toNat)
  case atStart => exact ⟨0, Nat.zero_le _, rfl, hide (Ext.refl _), hide (World.ownsRow_nil _ _ _ _)⟩
  case round =>
    obtain ⟨k, hk, rfl, HX, HO⟩ := hrel
    by_cases hlt : k < l.length
    · have hlt' : (k : Int) < (l.length : Int) := by omega
      have hk0 : (0 : Int) ≤ (k : Int) := by omega
      obtain ⟨b, o, rfl, hb, q0, q1, q2, q3⟩ := (HL.out.ext HX.out).at_ hlt
      have hm := List.getElem_mem hlt
      have HV := hide (fun w' (e : Ext wr w') => hide (t_vars (l[k]'hlt).ty w' ((HL.out.all _ hm).ty.ext (HX.out.trans e)) (by have := HSz.out _ hm; omega)))
      have Htk := hide (HT.out k hlt)
      have Hk1 := hide (HLn.out (k + 1))
      unfold tyV at HV
      generalize l[k]'hlt = x at *
      rw [Htk.out] at Hk1
      generalize pvars (l.take k) = out at *
      generalize onceI x.ty.vars = L at *
      clear hm
      rename World => wA
      go_wp2_with fail
      refine (HV.out _ ((Ext.refl _).alloc _)).out.mono ?_
      rintro e w2 ⟨⟨vL, rfl, hoL⟩, hx2⟩
      have hX2 := (HX.out.trans ((Ext.refl wA).alloc _)).trans hx2
      have X2 := hide hX2
      have O2 := hide (own_extB HO.out (((Ext.refl wA).alloc _).trans hx2))
      have HnL : Hid (vL.ownBlock = none ∨ vL.ownBlock ≠ u3.ownBlock) := hide (by
        cases e1 : vL.ownBlock with
        | none => exact .inl rfl
        | some g =>
          right
          intro e2
          have h1 := (hoL.lt g e1).1
          have h2 := (HO.out.lt g e2.symm).2
          simp at h1
          omega)
      obtain ⟨AL, cL, hvL, l1, l2, -, -⟩ := Ints.own hoL
      subst hvL
      have OL := hide hoL
      have HB2 : Hid (∀ m, (onceGo out (L.take m)).length ≤ 50000) := hide (fun m => by
        refine Nat.le_trans ?_ Hk1.out
        have e1 : onceGo out L = onceGo (onceGo out (L.take m)) (L.drop m) := by rw [← onceGo_app, List.take_append_drop]
        rw [e1]
        have : ∀ (l acc : List Int), acc.length ≤ (onceGo acc l).length := by
          intro l
          induction l with
          | nil => intro acc; exact Nat.le_refl _
          | cons y l ih =>
            intro acc
            unfold onceGo
            split
            · exact ih acc
            · exact Nat.le_trans (by simp) (ih (acc ++ [y]))
        exact this _ _)
      have hlL : L.length ≤ 9223372036854775807 := by omega
      clear hX2 hx2 hoL
      go_wp2
      go_loopw [3, 18] (fun u i wr => ∃ j : Nat, j ≤ L.length ∧ i = .int .i64 j ∧ Hid (Ext w wr) ∧ Hid (wr.ownsRow w.heap.size 3 1 u (onceGo out (L.take j)).length ((onceGo out (L.take j)).map (Value.int .i64))) ∧ Hid (wr.ownsRow (wA.alloc (.cells #[encStr x.cls, encStr x.ty.con, .int .i64 x.ty.var, .slice x.ty.A x.ty.args.length x.ty.cap] 40)).heap.size 3 1 (.slice AL L.length cL) L.length (L.map (Value.int .i64))) ∧ Hid ((Value.slice AL L.length cL).ownBlock = none ∨ (Value.slice AL L.length cL).ownBlock ≠ u.ownBlock)) (fun _ i _ => L.length - (intOf i).toNat)
      case atStart => exact ⟨0, Nat.zero_le _, rfl, X2, hide (by simpa [onceGo] using O2.out), OL, HnL⟩
      case round =>
        obtain ⟨j, hj, rfl, HX, HO, HOL, HN⟩ := hrel
        by_cases hjl : j < L.length
        · have hjl' : (j : Int) < (L.length : Int) := by omega
          have hj0 : (0 : Int) ≤ (j : Int) := by omega
          obtain ⟨A6, c6, hv6, -, -, r6, -⟩ := Ints.own HOL.out
          cases hv6
          obtain ⟨b6, o6, rfl, hb6, h6⟩ := Ints.at_ r6 hjl
          have Htj := hide (onceGo_snoc out L hjl)
          have hn := HB2.out j
          generalize L[j]'hjl = y at *
          generalize onceGo out (L.take j) = S at *
          obtain ⟨A5, c5, rfl, p1, p2, p3, _⟩ := Ints.own HO.out
          have HI := hide (has_i A5 c5 S y wr p3 (by omega))
          cases hb : S.any (· == y)
          · rw [hb] at HI Htj
            clear hb p3 r6
            go_wp2_with fail
            refine HI.out.mono ?_
            rintro e wr ⟨rfl, rfl⟩
            go_wp2_with (at_builtin; refine wpList_append_row _ rfl _ _ 31 rfl w.heap.size 3 i0 _ 1 8 Tryz.underlying31 hi hz0 hz1 hz2 rfl (by decide) (.slice A5 S.length c5) S.length (S.map (Value.int .i64)) rfl (HO.out.alloc _) _ 1 1 [.int .i64 y] rfl ?c2 ?c3 ?c4 ?c5 ?c6 ?_)
            case c2 => exact Row.boxI _ (at_newB _ _ _ (by simp))
            case c3 => first | rfl | (intro y hy; simp at hy; subst hy; rfl)
            case c4 => unfold maxLen; omega
            case c5 => omega
            case c6 => have := HX.out.size; simp; omega
            intro v4 w4 hown4 hg4 hat4
            have X4 := hide (Ext.app (HX.out.alloc _) hg4 (HO.out.alloc _) (Nat.le_refl _))
            have O4 := hide hown4
            have OL4 := hide ((HOL.out.alloc (.cells #[.int .i64 y] 3)).kept hg4 HN.out)
            have N4 : Hid ((Value.slice (some ⟨b6, o6, none⟩) L.length cL).ownBlock = none ∨ (Value.slice (some ⟨b6, o6, none⟩) L.length cL).ownBlock ≠ v4.ownBlock) := hide (by
              rcases HN.out with h | h
              · exact .inl h
              · right
                rcases hat4 with e | e
                · rw [e]; exact h
                · rw [e]
                  intro e2
                  have h9 := (HOL.out.lt _ e2).2
                  try rw [World.size_alloc] at h9
                  omega)
            clear hown4 hg4 hat4
            go_wp2
            go_roundw
            case rel => exact ⟨j + 1, hjl, by go_num, X4, hide (by rw [Htj.out]; simpa using O4.out), OL4, N4⟩
            case measure => simp [intOf]; omega
          · rw [hb] at HI Htj
            clear hb p3 r6
            go_wp2_with fail
            refine HI.out.mono ?_
            rintro e wr ⟨rfl, rfl⟩
            go_wp2
            go_roundw
            case rel => exact ⟨j + 1, hjl, by go_num, HX, hide (by rw [Htj.out]; simpa using HO.out), HOL, HN⟩
            case measure => simp [intOf]; omega
        · have hge : ¬ (j : Int) < (L.length : Int) := by omega
          have HO2 : Hid (wr.ownsRow w.heap.size 3 1 u3 (pvars (l.take (k + 1))).length ((pvars (l.take (k + 1))).map (Value.int .i64))) := hide (by
            have := HO.out
            rw [List.take_of_length_le (by omega)] at this
            rw [Htk.out]
            exact this)
          clear HO HN HOL
          go_wp2
          go_roundw
          case rel => exact ⟨k + 1, hlt, by go_num, HX, HO2⟩
          case measure => simp [intOf]; omega
    · have hge : ¬ (k : Int) < (l.length : Int) := by omega
      rw [List.take_of_length_le (by omega)] at HO
      obtain ⟨A5, c5, rfl, p1, p2, p3, p4⟩ := Ints.own HO.out
      have P3 := hide p3
      have P4 := hide p4
      clear p3 p4
      go_wp2
      go_ret
      exact ⟨⟨A5, c5, rfl, p1, p2, P3.out, fun c o e => (P4.out c o e).1⟩, HX.out⟩
theorem p_vars (A : Option Addr) (cap : Nat) (l : List Pd) (w : World) (h : PdsIn w A l) (hl : l.length ≤ 50000) (hsz : psz l ≤ 50000) :
    Calls Tryz.prog 55 #[.slice A l.length cap] w fun e w' => (∃ A' cap', e = .returned (.slice A' (pvars l).length cap') ∧ (pvars l).length ≤ cap' ∧ cap' ≤ 9223372036854775807 ∧ Ints w' A' (pvars l)) ∧ Ext w w' :=
  (p_varsO A cap l w h hl hsz).mono fun _ _ ⟨⟨A', c', h1, h2, h3, h4, _⟩, h6⟩ => ⟨⟨A', c', h1, h2, h3, h4⟩, h6⟩

end Go.Proofs.YtmjiljhcjfnfpaaGreat

/- A row of predicates, to append to. -/
namespace Go.Proofs.YtmjiljhcjfnfpaaGreat
open Go.RowKit

theorem pred_info : (Tryz.prog.info? 40).map (fun i => (i.zero, i.size, i.bytes)) = some (some (.agg #[.string ⟨#[]⟩, .string ⟨#[]⟩, .int .i64 0, .slice none 0 0]), 4, 64) := by kernel_rfl
theorem one_pds (l : List Pd) : ∀ u ∈ l.flatMap pdC.f, u.oneCell' = true := by
  intro u hu
  obtain ⟨p, -, hp⟩ := List.mem_flatMap.1 hu
  have hp' : u ∈ [encStr p.cls, encStr p.ty.con, .int .i64 p.ty.var, .slice p.ty.A p.ty.args.length p.ty.cap] := hp
  simp at hp'
  rcases hp' with rfl | rfl | rfl | rfl <;> rfl

theorem pd_row1 {w : World} {vb : Nat} {x : Pd} (h : w.heap[vb]? = some (.cells (pdC.f x).toArray 40 (0, 0))) : Row w (some ⟨vb, 0, none⟩) 4 1 (pdC.f x) := by
  have h1 : w.heap[vb]? = some (.cells ([x].flatMap pdC.f).toArray 40 (0, 0)) := by simpa using h
  have := RowOf.block pdC [x] h1
  unfold RowOf at this
  exact (by simpa using this : Row w (some ⟨vb, 0, none⟩) pdC.k 1 (pdC.f x))

end Go.Proofs.YtmjiljhcjfnfpaaGreat

/- Contracts on the reference: whether a number is in a row; each once; all variables of a type. -/
namespace Go.Proofs.YtmjiljhcjfnfpaaGreat
open Go.RowKit

theorem any_has (l : List Int) (x : Int) : l.any (· == x) = l.contains x := by
  rw [Bool.eq_iff_iff, List.any_eq_true, List.contains_iff_mem]
  constructor
  · rintro ⟨y, hy, e⟩
    simp at e
    subst e
    exact hy
  · exact fun h => ⟨x, h, by simp⟩

set_option maxHeartbeats 1000000 in
theorem r_in16 (A : Option Addr) (cap : Nat) (l : List Int) (x : Int) (w : World) (h : Ints w A l) (hle : l.length ≤ 1000000) :
    Calls Tryz.prog 52 #[.slice A l.length cap, .int .i64 x] w fun e w' => e = .returned (.bool (l.any (· == x))) ∧ w' = w := by
  have Hat := hide (fun k => @idxI_at _ _ l x 0 k)
  have Hno := hide (idxI_no l x 0)
  have Hr := hide h
  clear h
  rw [← idxI_ge]
  generalize idxI l x = R at *
  go_enter Tryz.func52, Tryz.ntmps52
  go_wp2
  go_loop [5] (fun i => ∃ j : Nat, j ≤ l.length ∧ i = .int .i64 j ∧ Hid (∀ i, i < j → (l.getD i 0 == x) = false)) (fun i => l.length - (intOf i).toNat)
  case atStart => exact ⟨0, Nat.zero_le _, rfl, hide (fun i hi => absurd hi (by omega))⟩
  case round =>
    obtain ⟨j, hj, rfl, Hj⟩ := hrel
    by_cases hlt : j < l.length
    · obtain ⟨b, o, rfl, hb, hc⟩ := Hr.out.at_ hlt
      have hlt' : (j : Int) < (l.length : Int) := by omega
      have hj0 : (0 : Int) ≤ (j : Int) := by omega
      have Hg : Hid (l.getD j 0 = l[j]'hlt) := hide (by simp [hlt])
      generalize l[j]'hlt = y at *
      cases hs : (y == x)
      · go_wp2
        go_round
        case rel =>
          refine ⟨j + 1, hlt, by go_num, hide (fun i hi => ?_)⟩
          by_cases hij : i = j
          · rw [hij, Hg.out]; exact hs
          · exact Hj.out i (by omega)
        case measure => simp [intOf]; omega
      · have hR := Hat.out j hlt Hj.out (by rw [Hg.out]; exact hs)
        subst hR
        go_wp2
        go_ret
        exact ⟨by simp, rfl⟩
    · have hge : ¬ (j : Int) < (l.length : Int) := by omega
      have hR := Hno.out (fun i hi => Hj.out i (by omega))
      subst hR
      go_wp2
      go_ret
      exact ⟨by simp, rfl⟩

theorem onceI_take (l : List Int) {k : Nat} (h : k < l.length) : onceI (l.take (k + 1)) = if (onceI (l.take k)).any (· == l[k]'h) then onceI (l.take k) else onceI (l.take k) ++ [l[k]'h] := by
  rw [List.take_succ_eq_append_getElem h, onceI_snoc, any_has]

set_option maxRecDepth 10000 in
set_option maxHeartbeats 2000000 in
theorem r_once16 (A : Option Addr) (cap : Nat) (l : List Int) (w : World) (h : Ints w A l) (hle : l.length ≤ 100000) :
    Calls Tryz.prog 83 #[.slice A l.length cap] w fun e w' => (∃ A' cap', e = .returned (.slice A' (onceI l).length cap') ∧ (onceI l).length ≤ cap' ∧ cap' ≤ 9223372036854775807 ∧ Ints w' A' (onceI l)) ∧ Ext w w' := by
  obtain ⟨i0, hi, hz0, hz1, hz2⟩ := info_parts int64_info
  have Hr := hide h
  have HT := hide (fun k (hk : k < l.length) => onceI_take l hk)
  have HLn := hide (fun k => onceI_len (l.take k))
  clear h
  go_enter Tryz.func83, Tryz.ntmps83
  go_wp2
  go_loopw [3, 4] (fun u i wr => ∃ k : Nat, k ≤ l.length ∧ i = .int .i64 k ∧ Hid (Ext w wr) ∧ Hid (wr.ownsRow w.heap.size 3 1 u (onceI (l.take k)).length ((onceI (l.take k)).map (Value.int .i64)))) (fun _ i _ => l.length - (intOf i).toNat)
  case atStart => exact ⟨0, Nat.zero_le _, rfl, hide (Ext.refl _), hide (World.ownsRow_nil _ _ _ _)⟩
  case round =>
    obtain ⟨k, hk, rfl, HX, HO⟩ := hrel
    by_cases hlt : k < l.length
    · have hlt' : (k : Int) < (l.length : Int) := by omega
      have hk0 : (0 : Int) ≤ (k : Int) := by omega
      obtain ⟨b, o, rfl, hb, hc⟩ := Ints.at_ (RowOf.ext intC Hr.out HX.out) hlt
      have Htk := hide (HT.out k hlt)
      have hn := HLn.out k
      rw [List.length_take] at hn
      generalize l[k]'hlt = x at *
      generalize onceI (l.take k) = L at *
      obtain ⟨A5, c5, rfl, p1, p2, p3, _⟩ := Ints.own HO.out
      have HI := hide (r_in16 A5 c5 L x wr p3 (by omega))
      cases hb : L.any (· == x)
      · rw [hb] at HI Htk
        clear hb p3
        go_wp2_with fail
        refine HI.out.mono ?_
        rintro e wr ⟨rfl, rfl⟩
        go_wp2_with (at_builtin; refine wpList_append_row _ rfl _ _ 31 rfl w.heap.size 3 i0 _ 1 8 Tryz.underlying31 hi hz0 hz1 hz2 rfl (by decide) (.slice A5 L.length c5) L.length (L.map (Value.int .i64)) rfl (HO.out.alloc _) _ 1 1 [.int .i64 x] rfl ?c2 ?c3 ?c4 ?c5 ?c6 ?_)
        case c2 => exact Row.boxI _ (at_newB _ _ _ (by simp))
        case c3 => first | rfl | (intro y hy; simp at hy; subst hy; rfl)
        case c4 => unfold maxLen; omega
        case c5 => omega
        case c6 => have := HX.out.size; simp; omega
        intro v4 w4 hown4 hg4 _
        have X4 := hide (Ext.app (HX.out.alloc _) hg4 (HO.out.alloc _) (Nat.le_refl _))
        have O4 := hide hown4
        clear hown4 hg4
        go_wp2
        go_roundw
        case rel => exact ⟨k + 1, hlt, by go_num, X4, hide (by rw [Htk.out]; simpa using O4.out)⟩
        case measure => simp [intOf]; omega
      · rw [hb] at HI Htk
        clear hb p3
        go_wp2_with fail
        refine HI.out.mono ?_
        rintro e wr ⟨rfl, rfl⟩
        go_wp2
        go_roundw
        case rel => exact ⟨k + 1, hlt, by go_num, HX, hide (by rw [Htk.out]; simpa using HO.out)⟩
        case measure => simp [intOf]; omega
    · have hge : ¬ (k : Int) < (l.length : Int) := by omega
      rw [List.take_of_length_le (by omega)] at HO
      obtain ⟨A5, c5, rfl, p1, p2, p3, _⟩ := Ints.own HO.out
      have P3 := hide p3
      clear p3
      go_wp2
      go_ret
      exact ⟨⟨A5, c5, rfl, p1, p2, P3.out⟩, HX.out⟩

end Go.Proofs.YtmjiljhcjfnfpaaGreat

/- Contracts on the reference: all variables of a type. (A program of ours has printed a part.) -/
namespace Go.Proofs.YtmjiljhcjfnfpaaGreat
open Go.RowKit

/-- A type's variables, up to one of its args. -/
noncomputable def varsK (t : Ty) (k : Nat) : List Int := (if t.con = [] then [t.var] else []) ++ ((t.args.take k).map Ty.vars).flatten
theorem varsK_all (t : Ty) : varsK t t.args.length = t.vars := by unfold varsK; rw [List.take_length, vars_eq]
theorem varsK_take (t : Ty) {k : Nat} (h : k < t.args.length) : varsK t (k + 1) = varsK t k ++ (t.args[k]'h).vars := by
  unfold varsK
  rw [List.take_succ_eq_append_getElem h, List.map_append, List.flatten_append, List.append_assoc]
  simp
theorem varsK_len (t : Ty) (k : Nat) : (varsK t k).length ≤ t.size := by
  have h1 := vars_len t
  have h2 : t.vars = varsK t k ++ ((t.args.drop k).map Ty.vars).flatten := by
    unfold varsK
    rw [List.append_assoc, ← List.flatten_append, ← List.map_append, List.take_append_drop, vars_eq]
  rw [h2, List.length_append] at h1
  omega
theorem varsK_room (t : Ty) {k : Nat} (h : k < t.args.length) : (varsK t k).length + (t.args[k]'h).vars.length ≤ t.size := by
  have := varsK_len t (k + 1)
  rwa [varsK_take t h, List.length_append] at this

set_option maxRecDepth 10000 in
set_option maxHeartbeats 2000000 in
theorem r_all16 (t : Ty) : ∀ (w : World), TyIn w t → t.size ≤ 100000 →
    Calls Tryz.prog 115 #[tyV t] w fun e w' => (∃ A' cap', e = .returned (.slice A' t.vars.length cap') ∧ t.vars.length ≤ cap' ∧ cap' ≤ 9223372036854775807 ∧ Ints w' A' t.vars) ∧ Ext w w' := by
  induction t using Ty.ind with
  | h t ih =>
  intro w h hsz
  obtain ⟨i0, hi, hz0, hz1, hz2⟩ := info_parts int64_info
  obtain ⟨W, hW⟩ : ∃ W, W = w.alloc (.cells #[encStr t.con, .int .i64 t.var, .slice t.A t.args.length t.cap] 25) := ⟨_, rfl⟩
  have X0 : Hid (Ext w W) := hide (by rw [hW]; exact (Ext.refl w).alloc _)
  have HB : Hid (TBox W w.heap.size t) := hide (by rw [hW]; exact TBox.new w t)
  have HW := hide hW.symm
  have H := hide h
  have IH := hide ih
  have hle := h.le
  have hmx := h.max
  have hlen := t.args_len
  have c0 := HB.out.c0
  have c1 := HB.out.c1
  clear h hW ih
  unfold tyV at *
  cases hc : (t.con == ([] : Str))
  · have HV0 : Hid (varsK t 0 = []) := hide (by unfold varsK; rw [if_neg (by simpa using hc)]; simp)
    go_enter Tryz.func115, Tryz.ntmps115
    go_upto_region 2 with fail
    rw [HW.out]
    go_wp2
    go_loopw [3, 4] (fun u i wr => ∃ k : Nat, k ≤ t.args.length ∧ i = .int .i64 k ∧ Hid (Ext W wr) ∧ Hid (wr.ownsRow W.heap.size 3 1 u (varsK t k).length ((varsK t k).map (Value.int .i64)))) (fun _ i _ => t.args.length - (intOf i).toNat)
    case atStart => exact ⟨0, Nat.zero_le _, rfl, hide (Ext.refl _), hide (by rw [HV0.out]; exact World.ownsRow_nil _ _ _ _)⟩
    case round =>
      obtain ⟨k, hk, rfl, HX, HO⟩ := hrel
      have hc2 := (HB.out.ext HX.out).c2
      have XR := hide (X0.out.trans HX.out)
      by_cases hlt : k < t.args.length
      · have hlt' : (k : Int) < (t.args.length : Int) := by omega
        have hk0 : (0 : Int) ≤ (k : Int) := by omega
        obtain ⟨b, o, hA, hb, q0, q1, q2⟩ := (H.out.all.ext XR.out).at_ hlt
        have hkm := List.getElem_mem hlt
        have HC := hide (IH.out _ hkm wr ((H.out.all.args _ hkm).ext XR.out) (by have := Ty.size_arg hkm; omega))
        have Htk := hide (varsK_take t hlt)
        have hr := varsK_room t hlt
        rw [hA] at hc2
        clear hA hkm
        generalize t.args[k]'hlt = x at *
        generalize varsK t k = L at *
        obtain ⟨A5, c5, rfl, p1, p2, p3, _⟩ := Ints.own HO.out
        clear p3
        go_wp2_with fail
        refine HC.out.mono ?_
        rintro e w3 ⟨⟨A', c', rfl, r1, r2, r3⟩, hx3⟩
        have X3 := hide (HX.out.trans hx3)
        have O3 := hide (own_extB HO.out hx3)
        have R3 := hide r3.row
        have hs3 := X3.out.size
        clear r3 hx3
        go_wp2_with (at_builtin; refine wpList_append_row _ rfl _ _ 31 rfl W.heap.size 3 i0 _ 1 8 Tryz.underlying31 hi hz0 hz1 hz2 rfl (by decide) (.slice A5 L.length c5) L.length (L.map (Value.int .i64)) rfl O3.out A' x.vars.length c' (x.vars.map (Value.int .i64)) rfl ?c2 ?c3 ?c4 ?c5 ?c6 ?_)
        case c2 => exact R3.out
        case c3 => first | exact one_ints _ | (intro y hy; simp at hy; obtain ⟨z, _, rfl⟩ := hy; rfl)
        case c4 => unfold maxLen; omega
        case c5 => omega
        case c6 => omega
        intro v4 w4 hown4 hg4 _
        have X4 := hide (Ext.app X3.out hg4 O3.out (Nat.le_refl _))
        have O4 := hide hown4
        clear hown4 hg4
        go_wp2
        go_roundw
        case rel => exact ⟨k + 1, hlt, by go_num, X4, hide (by rw [Htk.out, List.length_append, List.map_append]; exact O4.out)⟩
        case measure => simp [intOf]; omega
      · have hge : ¬ (k : Int) < (t.args.length : Int) := by omega
        have hkn : k = t.args.length := by omega
        have HK : Hid (varsK t k = t.vars) := hide (by rw [hkn, varsK_all])
        rw [HK.out] at HO
        obtain ⟨A5, c5, rfl, p1, p2, p3, _⟩ := Ints.own HO.out
        have P3 := hide p3
        clear p3 hkn
        go_wp2
        go_ret
        exact ⟨⟨A5, c5, rfl, p1, p2, P3.out⟩, XR.out⟩
  · have HV0 : Hid (varsK t 0 = [t.var]) := hide (by unfold varsK; rw [if_pos (by simpa using hc)]; simp)
    go_enter Tryz.func115, Tryz.ntmps115
    go_upto_region 2 with fail
    rw [HW.out]
    go_wp2
    go_loopw [3, 4] (fun u i wr => ∃ k : Nat, k ≤ t.args.length ∧ i = .int .i64 k ∧ Hid (Ext W wr) ∧ Hid (wr.ownsRow W.heap.size 3 1 u (varsK t k).length ((varsK t k).map (Value.int .i64)))) (fun _ i _ => t.args.length - (intOf i).toNat)
    case atStart => exact ⟨0, Nat.zero_le _, rfl, hide ((Ext.refl _).alloc _), hide (by rw [HV0.out]; exact World.ownsRow_lit W #[.int .i64 t.var] 1 (Nat.le_refl _) (by decide) rfl)⟩
    case round =>
      obtain ⟨k, hk, rfl, HX, HO⟩ := hrel
      have hc2 := (HB.out.ext HX.out).c2
      have XR := hide (X0.out.trans HX.out)
      by_cases hlt : k < t.args.length
      · have hlt' : (k : Int) < (t.args.length : Int) := by omega
        have hk0 : (0 : Int) ≤ (k : Int) := by omega
        obtain ⟨b, o, hA, hb, q0, q1, q2⟩ := (H.out.all.ext XR.out).at_ hlt
        have hkm := List.getElem_mem hlt
        have HC := hide (IH.out _ hkm wr ((H.out.all.args _ hkm).ext XR.out) (by have := Ty.size_arg hkm; omega))
        have Htk := hide (varsK_take t hlt)
        have hr := varsK_room t hlt
        rw [hA] at hc2
        clear hA hkm
        generalize t.args[k]'hlt = x at *
        generalize varsK t k = L at *
        obtain ⟨A5, c5, rfl, p1, p2, p3, _⟩ := Ints.own HO.out
        clear p3
        go_wp2_with fail
        refine HC.out.mono ?_
        rintro e w3 ⟨⟨A', c', rfl, r1, r2, r3⟩, hx3⟩
        have X3 := hide (HX.out.trans hx3)
        have O3 := hide (own_extB HO.out hx3)
        have R3 := hide r3.row
        have hs3 := X3.out.size
        clear r3 hx3
        go_wp2_with (at_builtin; refine wpList_append_row _ rfl _ _ 31 rfl W.heap.size 3 i0 _ 1 8 Tryz.underlying31 hi hz0 hz1 hz2 rfl (by decide) (.slice A5 L.length c5) L.length (L.map (Value.int .i64)) rfl O3.out A' x.vars.length c' (x.vars.map (Value.int .i64)) rfl ?c2 ?c3 ?c4 ?c5 ?c6 ?_)
        case c2 => exact R3.out
        case c3 => first | exact one_ints _ | (intro y hy; simp at hy; obtain ⟨z, _, rfl⟩ := hy; rfl)
        case c4 => unfold maxLen; omega
        case c5 => omega
        case c6 => omega
        intro v4 w4 hown4 hg4 _
        have X4 := hide (Ext.app X3.out hg4 O3.out (Nat.le_refl _))
        have O4 := hide hown4
        clear hown4 hg4
        go_wp2
        go_roundw
        case rel => exact ⟨k + 1, hlt, by go_num, X4, hide (by rw [Htk.out, List.length_append, List.map_append]; exact O4.out)⟩
        case measure => simp [intOf]; omega
      · have hge : ¬ (k : Int) < (t.args.length : Int) := by omega
        have hkn : k = t.args.length := by omega
        have HK : Hid (varsK t k = t.vars) := hide (by rw [hkn, varsK_all])
        rw [HK.out] at HO
        obtain ⟨A5, c5, rfl, p1, p2, p3, _⟩ := Ints.own HO.out
        have P3 := hide p3
        clear p3 hkn
        go_wp2
        go_ret
        exact ⟨⟨A5, c5, rfl, p1, p2, P3.out⟩, XR.out⟩

theorem r_vars16 (t : Ty) (w : World) (h : TyIn w t) (hsz : t.size ≤ 100000) :
    Calls Tryz.prog 81 #[tyV t] w fun e w' => (∃ A' cap', e = .returned (.slice A' (onceI t.vars).length cap') ∧ (onceI t.vars).length ≤ cap' ∧ cap' ≤ 9223372036854775807 ∧ Ints w' A' (onceI t.vars)) ∧ Ext w w' := by
  have X0 : Hid (Ext w (w.alloc (.cells #[encStr t.con, .int .i64 t.var, .slice t.A t.args.length t.cap] 25))) := hide ((Ext.refl w).alloc _)
  have HC := hide (r_all16 t _ (h.ext X0.out) hsz)
  have hn := vars_len t
  clear h
  unfold tyV at *
  go_enter Tryz.func81, Tryz.ntmps81
  go_wp2_with fail
  refine HC.out.mono ?_
  rintro e w2 ⟨⟨A', c', rfl, r1, r2, r3⟩, hx2⟩
  have X2 := hide (X0.out.trans hx2)
  have HO := hide (r_once16 A' c' _ w2 r3 (by omega))
  clear hx2 r3
  go_wp2_with fail
  refine HO.out.mono ?_
  rintro e w3 ⟨⟨A2, c2, rfl, s1, s2, s3⟩, hx3⟩
  have S3 := hide s3
  have X3 := hide (X2.out.trans hx3)
  clear s3 hx3
  go_wp2
  go_ret
  exact ⟨⟨A2, c2, rfl, s1, s2, S3.out⟩, X3.out⟩

end Go.Proofs.YtmjiljhcjfnfpaaGreat

/- Schemes in memory; contracts: all variables of a type and predicates; whether a scheme may be; of the program, and of the reference. -/
namespace Go.Proofs.YtmjiljhcjfnfpaaGreat
open Go.RowKit

theorem onceGo_twice (l : List Int) : ∀ acc out : List Int, onceGo out (onceGo acc l) = onceGo (onceGo out acc) l := by
  induction l with
  | nil => intro acc out; rfl
  | cons x l ih =>
    intro acc out
    show onceGo out (onceGo (if acc.contains x then acc else acc ++ [x]) l) = onceGo (if (onceGo out acc).contains x then onceGo out acc else onceGo out acc ++ [x]) l
    rw [ih]
    congr 1
    by_cases h : acc.contains x = true
    · have h2 : (onceGo out acc).contains x = true := by rw [List.contains_iff_mem] at h ⊢; exact (onceGo_mem acc out x).2 (.inr h)
      rw [if_pos h, if_pos h2]
    · rw [if_neg h, onceGo_app]
      rfl
theorem onceI_twice (a b : List Int) : onceI (a ++ onceI b) = onceI (a ++ b) := by
  unfold onceI
  rw [onceGo_app, onceGo_app, onceGo_twice]
  rfl
/-- All variables of a type and predicates. -/
noncomputable def sVars (t : Ty) (l : List Pd) : List Int := pvars (⟨[], t⟩ :: l)
theorem sVars_eq (t : Ty) (l : List Pd) : sVars t l = onceI (onceI t.vars ++ pvars l) := by
  unfold sVars pvars
  rw [onceI_twice]
  rfl
theorem sVars_nodup (t : Ty) (l : List Pd) : (sVars t l).Nodup := onceI_nodup _
theorem psz_cons (t : Ty) (l : List Pd) : psz (⟨[], t⟩ :: l) = t.size + psz l := by unfold psz; rfl
theorem sVars_len (t : Ty) (l : List Pd) : (sVars t l).length ≤ t.size + psz l := Nat.le_trans (onceI_len _) (Nat.le_trans (pvarsAll_len _) (Nat.le_of_eq (psz_cons t l)))
theorem pvars_len (l : List Pd) : (pvars l).length ≤ psz l := Nat.le_trans (onceI_len _) (pvarsAll_len _)
set_option maxRecDepth 10000 in
set_option maxHeartbeats 2000000 in
theorem s_varsO (t : Ty) (A : Option Addr) (cap : Nat) (l : List Pd) (w : World) (ht : TyIn w t) (h : PdsIn w A l) (hl : l.length ≤ 40000) (hsz : t.size + psz l ≤ 50000) :
    Calls Tryz.prog 34 #[tyV t, .slice A l.length cap] w fun e w' => (∃ A' cap', e = .returned (.slice A' (sVars t l).length cap') ∧ (sVars t l).length ≤ cap' ∧ cap' ≤ 9223372036854775807 ∧ Ints w' A' (sVars t l) ∧ ∀ c o, A' = some ⟨c, o, none⟩ → w.heap.size ≤ c) ∧ Ext w w' := by
  obtain ⟨i0, hi, hz0, hz1, hz2⟩ := info_parts pred_info
  have E2 : Ext w ((w.alloc (.cells #[encStr t.con, .int .i64 t.var, .slice t.A t.args.length t.cap] 25)).alloc (.cells #[.string ⟨#[]⟩, encStr t.con, .int .i64 t.var, .slice t.A t.args.length t.cap] 40)) := ((Ext.refl w).alloc _).alloc _
  have X2 := hide E2
  have HL := hide h
  have Ht := hide ht
  have Hown : Hid (((w.alloc (.cells #[encStr t.con, .int .i64 t.var, .slice t.A t.args.length t.cap] 25)).alloc (.cells #[.string ⟨#[]⟩, encStr t.con, .int .i64 t.var, .slice t.A t.args.length t.cap] 40)).ownsRow w.heap.size 40 4 (.slice (some ⟨w.heap.size + 1, 0, none⟩) 1 1) 1 [.string ⟨#[]⟩, encStr t.con, .int .i64 t.var, .slice t.A t.args.length t.cap]) := hide (by
    have := World.ownsRow_lit (base := w.heap.size) (e := 40) (size := 4) (w.alloc (.cells #[encStr t.con, .int .i64 t.var, .slice t.A t.args.length t.cap] 25)) #[.string ⟨#[]⟩, encStr t.con, .int .i64 t.var, .slice t.A t.args.length t.cap] 1 (by simp) (by decide) rfl
    rwa [World.size_alloc] at this)
  have hS : sVars t l = pvars (⟨[], t⟩ :: l) := rfl
  have HS := hide hS
  clear h ht hS E2
  generalize sVars t l = S at *
  unfold tyV at *
  go_enter Tryz.func34, Tryz.ntmps34
  go_wp2_with (at_builtin; refine wpList_append_row _ rfl _ _ 22 rfl w.heap.size 40 i0 _ 4 64 Tryz.underlying22 hi hz0 hz1 hz2 rfl (by decide) _ 1 [.string ⟨#[]⟩, encStr t.con, .int .i64 t.var, .slice t.A t.args.length t.cap] rfl Hown.out A l.length cap (l.flatMap pdC.f) rfl ?c2 ?c3 ?c4 ?c5 ?c6 ?_)
  case c2 => exact (HL.out.ext X2.out).row
  case c3 => exact one_pds l
  case c4 => unfold maxLen; omega
  case c5 => omega
  case c6 => exact X2.out.size
  intro v4 w4 hown4 hg4 _
  have X4 := hide (Ext.app X2.out hg4 Hown.out (Nat.le_refl _))
  have O4 : Hid (w4.ownsRow w.heap.size 40 4 v4 (Pd.mk [] t :: l).length ((Pd.mk [] t :: l).flatMap pdC.f)) := hide (by rw [List.length_cons, Nat.add_comm, List.flatMap_cons]; exact hown4)
  obtain ⟨A4, c4, rfl, -, -, p3, -⟩ := RowOf.own pdC O4.out
  have HV := hide (p_varsO A4 c4 _ w4 ⟨p3, fun p hp => by
    rcases List.mem_cons.1 hp with rfl | hp
    · exact ⟨by simp, Ht.out.ext X4.out⟩
    · exact (HL.out.all p hp).ext X4.out⟩ (by rw [List.length_cons]; omega) (by rw [psz_cons]; exact hsz))
  rw [← HS.out] at HV
  clear hown4 hg4 p3 O4
  go_wp2_with fail
  refine HV.out.mono ?_
  rintro e w5 ⟨⟨A5, c5, rfl, r1, r2, r3, r4⟩, hx5⟩
  have R3 := hide r3
  have R4 := hide r4
  have X5 := hide (X4.out.trans hx5)
  clear r3 r4 hx5
  go_wp2
  go_ret
  exact ⟨⟨A5, c5, rfl, r1, r2, R3.out, fun c o e => Nat.le_trans X4.out.size (R4.out c o e)⟩, X5.out⟩
theorem s_vars (t : Ty) (A : Option Addr) (cap : Nat) (l : List Pd) (w : World) (ht : TyIn w t) (h : PdsIn w A l) (hl : l.length ≤ 40000) (hsz : t.size + psz l ≤ 50000) :
    Calls Tryz.prog 34 #[tyV t, .slice A l.length cap] w fun e w' => (∃ A' cap', e = .returned (.slice A' (sVars t l).length cap') ∧ (sVars t l).length ≤ cap' ∧ cap' ≤ 9223372036854775807 ∧ Ints w' A' (sVars t l)) ∧ Ext w w' :=
  (s_varsO t A cap l w ht h hl hsz).mono fun _ _ ⟨⟨A', c', h1, h2, h3, h4, _⟩, h6⟩ => ⟨⟨A', c', h1, h2, h3, h4⟩, h6⟩

set_option maxRecDepth 10000 in
set_option maxHeartbeats 2000000 in
theorem r_vars20 (A : Option Addr) (cap : Nat) (l : List Pd) (w : World) (h : PdsIn w A l) (hl : l.length ≤ 50000) (hsz : psz l ≤ 50000) :
    Calls Tryz.prog 82 #[.slice A l.length cap] w fun e w' => (∃ A' cap', e = .returned (.slice A' (pvars l).length cap') ∧ (pvars l).length ≤ cap' ∧ cap' ≤ 9223372036854775807 ∧ Ints w' A' (pvars l)) ∧ Ext w w' := by
  obtain ⟨i0, hi, hz0, hz1, hz2⟩ := info_parts int64_info
  have HL := hide h
  have HT := hide (fun k (hk : k < l.length) => pvarsAll_take l hk)
  have HLn : Hid (∀ k, (pvarsAll (l.take k)).length ≤ 50000) := hide (fun k => Nat.le_trans (pvarsAll_len _) (Nat.le_trans (psz_take l k) hsz))
  have HSz := hide (fun p (hp : p ∈ l) => Nat.le_trans (psz_mem hp) hsz)
  have HP : Hid (pvars l = onceI (pvarsAll l)) := hide rfl
  clear h hsz
  generalize pvars l = S at *
  go_enter Tryz.func82, Tryz.ntmps82
  go_wp2
  go_loopw [3, 4] (fun u i wr => ∃ k : Nat, k ≤ l.length ∧ i = .int .i64 k ∧ Hid (Ext w wr) ∧ Hid (wr.ownsRow w.heap.size 3 1 u (pvarsAll (l.take k)).length ((pvarsAll (l.take k)).map (Value.int .i64)))) (fun _ i _ => l.length - (intOf i).toNat)
  case atStart => exact ⟨0, Nat.zero_le _, rfl, hide (Ext.refl _), hide (World.ownsRow_nil _ _ _ _)⟩
  case round =>
    obtain ⟨k, hk, rfl, HX, HO⟩ := hrel
    by_cases hlt : k < l.length
    · have hlt' : (k : Int) < (l.length : Int) := by omega
      have hk0 : (0 : Int) ≤ (k : Int) := by omega
      obtain ⟨b, o, rfl, hb, q0, q1, q2, q3⟩ := (HL.out.ext HX.out).at_ hlt
      have hm := List.getElem_mem hlt
      have HV := hide (r_vars16 (l[k]'hlt).ty wr ((HL.out.all _ hm).ty.ext HX.out) (by have := HSz.out _ hm; omega))
      have Htk := hide (HT.out k hlt)
      have hn := HLn.out k
      have hx1 : (onceI (l[k]'hlt).ty.vars).length ≤ 50000 := Nat.le_trans (onceI_len _) (Nat.le_trans (vars_len _) (HSz.out _ hm))
      unfold tyV at HV
      generalize l[k]'hlt = x at *
      generalize pvarsAll (l.take k) = out at *
      generalize onceI x.ty.vars = L at *
      clear hm
      obtain ⟨A5, c5, rfl, p1, p2, p3, _⟩ := Ints.own HO.out
      clear p3
      go_wp2_with fail
      refine HV.out.mono ?_
      rintro e w3 ⟨⟨A', c', rfl, r1, r2, r3⟩, hx3⟩
      have X3 := hide (HX.out.trans hx3)
      have O3 := hide (own_extB HO.out hx3)
      have R3 := hide r3.row
      have hs3 := X3.out.size
      clear r3 hx3
      go_wp2_with (at_builtin; refine wpList_append_row _ rfl _ _ 31 rfl w.heap.size 3 i0 _ 1 8 Tryz.underlying31 hi hz0 hz1 hz2 rfl (by decide) (.slice A5 out.length c5) out.length (out.map (Value.int .i64)) rfl O3.out A' L.length c' (L.map (Value.int .i64)) rfl ?c2 ?c3 ?c4 ?c5 ?c6 ?_)
      case c2 => exact R3.out
      case c3 => first | exact one_ints _ | (intro y hy; simp at hy; obtain ⟨z, _, rfl⟩ := hy; rfl)
      case c4 => unfold maxLen; omega
      case c5 => omega
      case c6 => omega
      intro v4 w4 hown4 hg4 _
      have X4 := hide (Ext.app X3.out hg4 O3.out (Nat.le_refl _))
      have O4 := hide hown4
      clear hown4 hg4
      go_wp2
      go_roundw
      case rel => exact ⟨k + 1, hlt, by go_num, X4, hide (by rw [Htk.out, List.length_append, List.map_append]; exact O4.out)⟩
      case measure => simp [intOf]; omega
    · have hge : ¬ (k : Int) < (l.length : Int) := by omega
      have HLk : Hid (l.take k = l) := hide (List.take_of_length_le (by omega))
      rw [HLk.out] at HO
      have hn := HLn.out k
      rw [HLk.out] at hn
      obtain ⟨A5, c5, rfl, p1, p2, p3, _⟩ := Ints.own HO.out
      have HOn := hide (r_once16 A5 c5 _ wr p3 (by omega))
      rw [← HP.out] at HOn
      clear p3
      go_wp2_with fail
      refine HOn.out.mono ?_
      rintro e w3 ⟨⟨A2, c2, rfl, s1, s2, s3⟩, hx3⟩
      have S3 := hide s3
      have X3 := hide (HX.out.trans hx3)
      clear s3 hx3
      go_wp2
      go_ret
      exact ⟨⟨A2, c2, rfl, s1, s2, S3.out⟩, X3.out⟩

set_option maxRecDepth 10000 in
set_option maxHeartbeats 2000000 in
theorem r_all21 (t : Ty) (A : Option Addr) (cap : Nat) (l : List Pd) (w : World) (ht : TyIn w t) (h : PdsIn w A l) (hl : l.length ≤ 40000) (hsz : t.size + psz l ≤ 50000) :
    Calls Tryz.prog 51 #[tyV t, .slice A l.length cap] w fun e w' => (∃ A' cap', e = .returned (.slice A' (sVars t l).length cap') ∧ (sVars t l).length ≤ cap' ∧ cap' ≤ 9223372036854775807 ∧ Ints w' A' (sVars t l)) ∧ Ext w w' := by
  obtain ⟨i0, hi, hz0, hz1, hz2⟩ := info_parts int64_info
  have X0 : Hid (Ext w (w.alloc (.cells #[encStr t.con, .int .i64 t.var, .slice t.A t.args.length t.cap] 25))) := hide ((Ext.refl w).alloc _)
  have HV := hide (r_vars16 t _ (ht.ext X0.out) (by omega))
  have HP := hide (fun w' (e : Ext w w') => hide (r_vars20 A cap l w' (h.ext e) (by omega) (by omega)))
  have HS : Hid (sVars t l = onceI (onceI t.vars ++ pvars l)) := hide (sVars_eq t l)
  have hn1 : (onceI t.vars).length ≤ 50000 := Nat.le_trans (onceI_len _) (Nat.le_trans (vars_len _) (by omega))
  have hn2 : (pvars l).length ≤ 50000 := Nat.le_trans (pvars_len l) (by omega)
  clear h ht
  generalize sVars t l = S at *
  generalize onceI t.vars = L at *
  generalize pvars l = M at *
  unfold tyV at *
  go_enter Tryz.func51, Tryz.ntmps51
  go_wp2_with fail
  refine HV.out.mono ?_
  rintro e w2 ⟨⟨A1, c1, rfl, r1, r2, r3⟩, hx2⟩
  have X2 := hide (X0.out.trans hx2)
  have R3 := hide r3.row
  have hs2 := X2.out.size
  clear r3 hx2
  go_wp2_with (at_builtin; refine wpList_append_row _ rfl _ _ 31 rfl w.heap.size 3 i0 _ 1 8 Tryz.underlying31 hi hz0 hz1 hz2 rfl (by decide) (.slice none 0 0) 0 [] rfl (World.ownsRow_nil _ _ _ _) A1 L.length c1 (L.map (Value.int .i64)) rfl ?c2 ?c3 ?c4 ?c5 ?c6 ?_)
  case c2 => exact R3.out
  case c3 => exact one_ints _
  case c4 => unfold maxLen; omega
  case c5 => omega
  case c6 => omega
  intro v4 w4 hown4 hg4 _
  have X4 := hide (Ext.app X2.out hg4 (World.ownsRow_nil w2 w.heap.size 3 1) (Nat.le_refl _))
  have O4 := hide hown4
  obtain ⟨A5, c5, rfl, p1, p2, -, -⟩ := Ints.own hown4
  clear hown4 hg4
  go_wp2_with fail
  refine (HP.out _ X4.out).out.mono ?_
  rintro e w5 ⟨⟨A6, c6, rfl, s1, s2, s3⟩, hx5⟩
  have X5 := hide (X4.out.trans hx5)
  have O5 := hide (own_extB O4.out hx5)
  have S3 := hide s3.row
  have hs5 := X5.out.size
  clear s3 hx5
  go_wp2_with (at_builtin; refine wpList_append_row _ rfl _ _ 31 rfl w.heap.size 3 i0 _ 1 8 Tryz.underlying31 hi hz0 hz1 hz2 rfl (by decide) (.slice A5 L.length c5) L.length (L.map (Value.int .i64)) rfl O5.out A6 M.length c6 (M.map (Value.int .i64)) rfl ?c2 ?c3 ?c4 ?c5 ?c6 ?_)
  case c2 => exact S3.out
  case c3 => first | exact one_ints _ | (intro y hy; simp at hy; obtain ⟨z, _, rfl⟩ := hy; rfl)
  case c4 => unfold maxLen; omega
  case c5 => omega
  case c6 => omega
  intro v7 w7 hown7 hg7 _
  have X7 := hide (Ext.app X5.out hg7 O5.out (Nat.le_refl _))
  have hown8 : w7.ownsRow w.heap.size 3 1 v7 (L ++ M).length ((L ++ M).map (Value.int .i64)) := by rw [List.length_append, List.map_append]; exact hown7
  obtain ⟨A8, c8, hv8, q1, q2, q3, -⟩ := Ints.own hown8
  have HOn := hide (r_once16 A8 c8 _ w7 q3 (by rw [List.length_append]; omega))
  rw [← HS.out, List.length_append] at HOn
  rw [List.length_append] at hv8
  subst hv8
  clear hown7 hown8 hg7 q1 q3
  go_wp2_with fail
  refine HOn.out.mono ?_
  rintro e w9 ⟨⟨A2, c2, rfl, t1, t2, t3⟩, hx9⟩
  have T3 := hide t3
  have X9 := hide (X7.out.trans hx9)
  clear t3 hx9
  go_wp2
  go_ret
  exact ⟨⟨A2, c2, rfl, t1, t2, T3.out⟩, X9.out⟩

end Go.Proofs.YtmjiljhcjfnfpaaGreat
