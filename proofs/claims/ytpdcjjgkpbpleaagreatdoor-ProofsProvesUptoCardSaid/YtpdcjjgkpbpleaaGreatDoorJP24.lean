/- Contracts of Go's package slices on rows of numbers: what is deleted, whether one is there, sorted, runs made one. -/
import Derived.Test.YtpdcjjgkpbpleaaGreatDoorJP23
import Derived.Test.YtpdcjjgkpbpleaaGreatDoorSrtI
import Derived.Test.YtpdcjjgkpbpleaaGreatDoorCmpI
import Derived.Shelf.GgSortFunc.Insertion
import Derived.Lib.SlicesCompact
import Derived.Laws.OwnMore
import Derived.Lib.SliceRun
/- Contracts of Go's package slices on rows of numbers: what is deleted, whether one is there, sorted, runs made one. -/
namespace Go.Proofs.YtpdcjjgkpbpleaaGreatDoor
open Go.RowKit Go.Sort Go.Shelf

section
variable {α : Type} [Inhabited α] (enc : α → Value) (w : World) (blk off m : Nat) (dk : Array α) (os : Array Obj)
theorem so_heap {k : Nat} (h1 : k ≠ blk) (h2 : k < w.heap.size) : (sortWorld enc w blk off m dk os).heap[k]? = w.heap[k]? := by
  have e1 : (sortWorld enc w blk off m dk os).heap = w.heap.modify blk (onCells (putCells enc off dk)) ++ os := rfl
  rw [e1, Array.getElem?_append_left (by simpa using h2), Array.getElem?_modify, if_neg (fun e => h1 e.symm)]
theorem so_size : w.heap.size ≤ (sortWorld enc w blk off m dk os).heap.size := by
  have e1 : (sortWorld enc w blk off m dk os).heap = w.heap.modify blk (onCells (putCells enc off dk)) ++ os := rfl
  rw [e1, Array.size_append, Array.size_modify]
  omega
theorem so_grown : w.grownBy (sortWorld enc w blk off m dk os) (some blk) :=
  ⟨rfl, rfl, rfl, so_size enc w blk off m dk os, fun _ hk hn => so_heap enc w blk off m dk os (fun e => hn (by rw [e])) hk⟩
theorem so_cell {d0 : Array α} (h0 : Holds enc w blk off d0) (hs : dk.size = d0.size) (hb : blk < w.heap.size) {j : Nat} (hj : j < dk.size) : (sortWorld enc w blk off m dk os).cell? ⟨blk, off + j, none⟩ = some (enc dk[j]!) ∧ (sortWorld enc w blk off m dk os).frozen? ⟨blk, off + j, none⟩ = false := by
  have h1 : (sortWorld enc w blk off m dk os).heap[blk]? = (putRow enc w blk off dk).heap[blk]? := by
    have e1 : (sortWorld enc w blk off m dk os).heap = (putRow enc w blk off dk).heap ++ os := rfl
    rw [e1, Array.getElem?_append_left (by simpa using hb)]
  exact ⟨(World.cell?_of_block (a := ⟨blk, off + j, none⟩) h1).trans (cell?_putRow enc w blk off d0 dk h0 hs j hj),
    (World.frozen?_of_block (a := ⟨blk, off + j, none⟩) h1).trans ((frozen?_putRow _ _ _ _ _ _).trans (h0 j (by omega)).2)⟩
end
/-- An own row holds what it says. -/
theorem own_holds {w : World} {base g cap : Nat} {l : List Int} (h : w.ownsRow base 3 1 (.slice (some ⟨g, 0, none⟩) l.length cap) l.length (l.map (Value.int .i64))) : Holds (Value.int .i64) w g 0 l.toArray := by
  intro j hj
  have hj' : j < l.length := by simpa using hj
  rw [Nat.zero_add]
  refine ⟨?_, h.frozenAt j⟩
  rw [h.cellAt j (by omega), List.getElem?_map, List.getElem?_eq_getElem hj', getElem!_pos l.toArray j hj]
  simp
theorem own_some {w : World} {base : Nat} {v : Value} {l : List Int} (h : w.ownsRow base 3 1 v l.length (l.map (Value.int .i64))) :
    (v = .slice none 0 0 ∧ l = []) ∨ ∃ g cap, v = .slice (some ⟨g, 0, none⟩) l.length cap ∧ base ≤ g ∧ g < w.heap.size ∧ l.length ≤ cap ∧ cap ≤ 9223372036854775807 := by
  rcases h.2 with ⟨h1, h2⟩ | ⟨g, cap, cur, rfl, hb, hg, hle, hmax, -⟩
  · exact .inl ⟨h1, List.eq_nil_of_length_eq_zero h2⟩
  · exact .inr ⟨g, cap, rfl, hb, (Array.getElem?_eq_some_iff.1 hg).1, hle, by unfold maxLen at hmax; omega⟩
theorem ints_of {w : World} {g : Nat} {l : List Int} (hg : g < w.heap.size) (h : ∀ j, j < l.length → w.cell? ⟨g, j, none⟩ = some (.int .i64 (l.getD j 0))) : Ints w (some ⟨g, 0, none⟩) l := by
  refine ⟨flat_len _ _ intC.hf _, fun _ => ⟨g, 0, rfl, hg, fun j u hu => ?_⟩⟩
  rw [show l.flatMap intC.f = l.map (Value.int .i64) from flat_one _ _] at hu
  have hj : j < l.length := by simpa using (List.getElem?_eq_some_iff.1 hu).1
  rw [Nat.zero_add, h j hj, ← hu]
  simp [hj]

/-- What a function value tells of a number, whatever lies in one block. -/
def Tells (g : Nat) (w : World) (f : FuncId) (lb : Array Value) (p : Int → Bool) : Prop :=
  ∀ (W : World) (x : Int), w.heap.size ≤ W.heap.size → (∀ k, k < w.heap.size → k ≠ g → W.heap[k]? = w.heap[k]?) → Calls Tryz.prog f (#[.int .i64 x] ++ lb) W fun e w' => e = .returned (.bool (p x)) ∧ w' = W



theorem sort_i (base : Nat) (v : Value) (l : List Int) (w : World) (h : w.ownsRow base 3 1 v l.length (l.map (Value.int .i64))) (hl : l.length ≤ 1000000) :
    Calls Tryz.prog 38 #[v] w fun e w' => e = .returned (.tuple #[]) ∧ w.grownBy w' v.ownBlock ∧ ∀ g cap, v = .slice (some ⟨g, 0, none⟩) l.length cap → Holds (Value.int .i64) w' g 0 (l.mergeSort fun x y => decide (x ≤ y)).toArray := by
  rcases own_some h with ⟨rfl, rfl⟩ | ⟨g, cap, rfl, hb, hg, hle, hmx⟩
  · refine Calls.mono (show Calls Tryz.prog 38 _ _ _ from AnyM.slices_Sort_int_none (P := Tryz.prog) (ρ := Tryz.lSort_ren) Tryz.lSort none 0 w) ?_
    rintro e w' ⟨rfl, rfl⟩
    exact ⟨rfl, World.grownBy.refl _ _, fun g cap e => by cases e⟩
  · have hH := own_holds h
    refine Calls.mono (show Calls Tryz.prog 38 _ _ _ from AnyM.slices_Sort_int (P := Tryz.prog) (ρ := Tryz.lSort_ren) Tryz.lSort g 0 cap l w hH hg (by omega)) ?_
    rintro e w' ⟨rfl, n, os, rfl⟩
    refine ⟨rfl, so_grown (Value.int .i64) w g 0 n _ os, fun g' cap' e => ?_⟩
    injection e with e _ _
    injection e with e
    injection e with e
    subst e
    intro j hj
    exact so_cell (Value.int .i64) w g 0 n _ os hH (by simp) hg hj

/-- Runs made one: are no two neighbours the same? -/
theorem compact_len (l : List Int) : ((Go.Lib.compactUpTo (l.mergeSort fun x y => decide (x ≤ y)).toArray l.length).length = l.length) ↔ l.Nodup := by
  have hp : (l.mergeSort fun x y => decide (x ≤ y)).Perm l := List.mergeSort_perm _ _
  have hs : (l.mergeSort fun x y => decide (x ≤ y)).Pairwise fun x y => decide (x ≤ y) = true := List.pairwise_mergeSort (fun a b c h1 h2 => by simp at *; omega) (fun a b => by simp; omega) l
  rw [← hp.nodup_iff, ← hp.length_eq]
  generalize (l.mergeSort fun x y => decide (x ≤ y)) = s at *
  unfold Go.Lib.compactUpTo
  rw [List.length_map]
  have hle := List.length_filter_le (Go.Lib.keeps s.toArray) (List.range s.length)
  rw [List.length_range] at hle
  constructor
  · intro h
    have hall : ∀ j, j < s.length → Go.Lib.keeps s.toArray j = true := by
      have := List.length_filter_eq_length_iff.1 (h.trans (List.length_range (n := s.length)).symm)
      exact fun j hj => this j (List.mem_range.2 hj)
    rw [List.nodup_iff_pairwise_ne]
    have hlt : ∀ d i (h1 : i + d + 1 < s.length) (h0 : i < s.length), s[i] < s[i + d + 1] := by
      intro d
      induction d with
      | zero =>
        intro i hi h0
        have h1 := hall (i + 1) (by omega)
        have h2 := (List.pairwise_iff_getElem.1 hs) i (i + 1) (by omega) (by omega) (by omega)
        simp only [Go.Lib.keeps, decide_eq_true_eq] at h1 h2
        rcases h1 with h1 | h1
        · omega
        · rw [getElem!_pos s.toArray (i + 1) (by simp; omega), getElem!_pos s.toArray (i + 1 - 1) (by simp; omega)] at h1
          simp only [List.getElem_toArray, Nat.add_sub_cancel] at h1
          show s[i] < s[i + 1]
          omega
      | succ d ih =>
        intro i hi h0
        have h1 := ih i (by omega) h0
        have h2 := hall (i + d + 1 + 1) (by omega)
        have h3 := (List.pairwise_iff_getElem.1 hs) (i + d + 1) (i + d + 1 + 1) (by omega) (by omega) (by omega)
        simp only [Go.Lib.keeps, decide_eq_true_eq] at h2 h3
        rcases h2 with h2 | h2
        · omega
        · rw [getElem!_pos s.toArray (i + d + 1 + 1) (by simp; omega), getElem!_pos s.toArray (i + d + 1 + 1 - 1) (by simp; omega)] at h2
          simp only [List.getElem_toArray, Nat.add_sub_cancel] at h2
          show s[i] < s[i + d + 1 + 1]
          omega
    rw [List.pairwise_iff_getElem]
    intro i j hi hj hij
    have := hlt (j - i - 1) i (by omega) hi
    simp only [show i + (j - i - 1) + 1 = j by omega] at this
    omega
  · intro h
    rw [List.filter_eq_self.2, List.length_range]
    intro j hj
    rw [List.mem_range] at hj
    simp only [Go.Lib.keeps, decide_eq_true_eq]
    by_cases h0 : j = 0
    · exact .inl h0
    · right
      rw [getElem!_pos s.toArray j (by simp; omega), getElem!_pos s.toArray (j - 1) (by simp; omega)]
      simp only [List.getElem_toArray]
      exact ((List.pairwise_iff_getElem.1 (List.nodup_iff_pairwise_ne.1 h)) (j - 1) j (by omega) hj (by omega)).symm

theorem compact_i (g cap n : Nat) (s : List Int) (w : World) (hs : s.length = n) (h : Holds (Value.int .i64) w g 0 s.toArray) (hle : n ≤ cap) (hmx : cap ≤ 9223372036854775807) :
    Calls Tryz.prog 39 #[.slice (some ⟨g, 0, none⟩) n cap] w fun e w' => e = .returned (.slice (some ⟨g, 0, none⟩) (Go.Lib.compactUpTo s.toArray n).length cap) ∧ w.grownBy w' (some g) := by
  subst hs
  have hd := AnyE.slices_Compact (P := Tryz.prog) (ρ := Tryz.lCompact_ren) Tryz.lCompact (Value.int .i64) (fun _ => rfl) (EqlAt.intD _ _ _) (NeqAt.intD _ _ _) 0 Tryz.zeroValue3 g 0 cap s.toArray w h (by simp; omega) (by simpa using hle)
  change Calls Tryz.prog 39 _ _ _ at hd
  simp only [List.size_toArray] at hd
  refine hd.mono ?_
  rintro e w' ⟨rfl, q, rfl⟩
  exact ⟨rfl, so_grown (Value.int .i64) w g 0 q _ #[]⟩

end Go.Proofs.YtpdcjjgkpbpleaaGreatDoor

/- Contracts: all variables of predicates, and of a type and predicates; of the program. -/
namespace Go.Proofs.YtpdcjjgkpbpleaaGreatDoor
open Go.RowKit

noncomputable def psz (l : List Pd) : Nat := (l.map fun p => p.ty.size).sum
theorem psz_mem {l : List Pd} {p : Pd} (h : p ∈ l) : p.ty.size ≤ psz l := Tree.mem_sum (fun p : Pd => p.ty.size) h
/-- The variables of all, as they stand, those of each once. -/
noncomputable def pvarsAll (l : List Pd) : List Int := (l.map fun p => onceI p.ty.vars).flatten
theorem pvarsAll_take (l : List Pd) {k : Nat} (h : k < l.length) : pvarsAll (l.take (k + 1)) = pvarsAll (l.take k) ++ onceI (l[k]'h).ty.vars := by
  unfold pvarsAll
  rw [List.take_succ_eq_append_getElem h, List.map_append, List.flatten_append]
  congr 1
  simp
theorem pvarsAll_len (l : List Pd) : (pvarsAll l).length ≤ psz l := by
  unfold pvarsAll psz
  rw [List.length_flatten, List.map_map]
  induction l with
  | nil => simp
  | cons x l ih =>
    have h1 : (onceI x.ty.vars).length ≤ x.ty.size := Nat.le_trans (onceI_len _) (vars_len _)
    simp only [List.map_cons, List.sum_cons, Function.comp] at *
    omega
theorem psz_take (l : List Pd) (k : Nat) : psz (l.take k) ≤ psz l := by
  have : psz l = psz (l.take k) + psz (l.drop k) := by unfold psz; rw [← List.sum_append, ← List.map_append, List.take_append_drop]
  omega
noncomputable def pvars (l : List Pd) : List Int := onceI (pvarsAll l)
theorem pvars_take (l : List Pd) {k : Nat} (h : k < l.length) : pvars (l.take (k + 1)) = onceGo (pvars (l.take k)) (onceI (l[k]'h).ty.vars) := by
  unfold pvars
  rw [pvarsAll_take l h]
  unfold onceI
  rw [onceGo_app]
theorem onceGo_snoc (out l : List Int) {j : Nat} (h : j < l.length) : onceGo out (l.take (j + 1)) = if (onceGo out (l.take j)).any (· == l[j]'h) then onceGo out (l.take j) else onceGo out (l.take j) ++ [l[j]'h] := by
  have ha : ∀ (l : List Int) (x : Int), l.any (· == x) = l.contains x := fun l x => by
    rw [Bool.eq_iff_iff, List.any_eq_true, List.contains_iff_mem]
    constructor
    · rintro ⟨y, hy, e⟩; simp at e; subst e; exact hy
    · exact fun h => ⟨x, h, by simp⟩
  rw [List.take_succ_eq_append_getElem h, onceGo_app, ha]
  rfl



end Go.Proofs.YtpdcjjgkpbpleaaGreatDoor

/- A row of predicates, to append to. -/
namespace Go.Proofs.YtpdcjjgkpbpleaaGreatDoor
open Go.RowKit

theorem pred_info : (Tryz.prog.info? 39).map (fun i => (i.zero, i.size, i.bytes)) = some (some (.agg #[.string ⟨#[]⟩, .string ⟨#[]⟩, .int .i64 0, .slice none 0 0]), 4, 64) := by kernel_rfl
theorem one_pds (l : List Pd) : ∀ u ∈ l.flatMap pdC.f, u.oneCell' = true := by
  intro u hu
  obtain ⟨p, -, hp⟩ := List.mem_flatMap.1 hu
  have hp' : u ∈ [encStr p.cls, encStr p.ty.con, .int .i64 p.ty.var, .slice p.ty.A p.ty.args.length p.ty.cap] := hp
  simp at hp'
  rcases hp' with rfl | rfl | rfl | rfl <;> rfl

theorem pd_row1 {w : World} {vb : Nat} {x : Pd} (h : w.heap[vb]? = some (.cells (pdC.f x).toArray 39 (0, 0))) : Row w (some ⟨vb, 0, none⟩) 4 1 (pdC.f x) := by
  have h1 : w.heap[vb]? = some (.cells ([x].flatMap pdC.f).toArray 39 (0, 0)) := by simpa using h
  have := RowOf.block pdC [x] h1
  unfold RowOf at this
  exact (by simpa using this : Row w (some ⟨vb, 0, none⟩) pdC.k 1 (pdC.f x))

end Go.Proofs.YtpdcjjgkpbpleaaGreatDoor

/- Contracts on the reference: whether a number is in a row; each once; all variables of a type. -/
namespace Go.Proofs.YtpdcjjgkpbpleaaGreatDoor
open Go.RowKit

theorem any_has (l : List Int) (x : Int) : l.any (· == x) = l.contains x := by
  rw [Bool.eq_iff_iff, List.any_eq_true, List.contains_iff_mem]
  constructor
  · rintro ⟨y, hy, e⟩
    simp at e
    subst e
    exact hy
  · exact fun h => ⟨x, h, by simp⟩


theorem onceI_take (l : List Int) {k : Nat} (h : k < l.length) : onceI (l.take (k + 1)) = if (onceI (l.take k)).any (· == l[k]'h) then onceI (l.take k) else onceI (l.take k) ++ [l[k]'h] := by
  rw [List.take_succ_eq_append_getElem h, onceI_snoc, any_has]


end Go.Proofs.YtpdcjjgkpbpleaaGreatDoor

/- Contracts on the reference: all variables of a type. (A program of ours has printed a part.) -/
namespace Go.Proofs.YtpdcjjgkpbpleaaGreatDoor
open Go.RowKit

/-- A type's variables, up to one of its args. -/
noncomputable def varsK (t : Ty) (k : Nat) : List Int := (if t.con = [] then [t.var] else []) ++ ((t.args.take k).map Ty.vars).flatten
theorem varsK_all (t : Ty) : varsK t t.args.length = t.vars := by unfold varsK; rw [List.take_length, vars_eq]
theorem varsK_take (t : Ty) {k : Nat} (h : k < t.args.length) : varsK t (k + 1) = varsK t k ++ (t.args[k]'h).vars := by
  unfold varsK
  rw [List.take_succ_eq_append_getElem h, List.map_append, List.flatten_append, List.append_assoc]
  simp
theorem varsK_len (t : Ty) (k : Nat) : (varsK t k).length ≤ t.size := by
  have h1 := vars_len t
  have h2 : t.vars = varsK t k ++ ((t.args.drop k).map Ty.vars).flatten := by
    unfold varsK
    rw [List.append_assoc, ← List.flatten_append, ← List.map_append, List.take_append_drop, vars_eq]
  rw [h2, List.length_append] at h1
  omega
theorem varsK_room (t : Ty) {k : Nat} (h : k < t.args.length) : (varsK t k).length + (t.args[k]'h).vars.length ≤ t.size := by
  have := varsK_len t (k + 1)
  rwa [varsK_take t h, List.length_append] at this



end Go.Proofs.YtpdcjjgkpbpleaaGreatDoor

/- Schemes in memory; contracts: all variables of a type and predicates; whether a scheme may be; of the program, and of the reference. -/
namespace Go.Proofs.YtpdcjjgkpbpleaaGreatDoor
open Go.RowKit

theorem onceGo_twice (l : List Int) : ∀ acc out : List Int, onceGo out (onceGo acc l) = onceGo (onceGo out acc) l := by
  induction l with
  | nil => intro acc out; rfl
  | cons x l ih =>
    intro acc out
    show onceGo out (onceGo (if acc.contains x then acc else acc ++ [x]) l) = onceGo (if (onceGo out acc).contains x then onceGo out acc else onceGo out acc ++ [x]) l
    rw [ih]
    congr 1
    by_cases h : acc.contains x = true
    · have h2 : (onceGo out acc).contains x = true := by rw [List.contains_iff_mem] at h ⊢; exact (onceGo_mem acc out x).2 (.inr h)
      rw [if_pos h, if_pos h2]
    · rw [if_neg h, onceGo_app]
      rfl
theorem onceI_twice (a b : List Int) : onceI (a ++ onceI b) = onceI (a ++ b) := by
  unfold onceI
  rw [onceGo_app, onceGo_app, onceGo_twice]
  rfl
/-- All variables of a type and predicates. -/
noncomputable def sVars (t : Ty) (l : List Pd) : List Int := pvars (⟨[], t⟩ :: l)
theorem sVars_eq (t : Ty) (l : List Pd) : sVars t l = onceI (onceI t.vars ++ pvars l) := by
  unfold sVars pvars
  rw [onceI_twice]
  rfl
theorem sVars_nodup (t : Ty) (l : List Pd) : (sVars t l).Nodup := onceI_nodup _
theorem psz_cons (t : Ty) (l : List Pd) : psz (⟨[], t⟩ :: l) = t.size + psz l := by unfold psz; rfl
theorem sVars_len (t : Ty) (l : List Pd) : (sVars t l).length ≤ t.size + psz l := Nat.le_trans (onceI_len _) (Nat.le_trans (pvarsAll_len _) (Nat.le_of_eq (psz_cons t l)))
theorem pvars_len (l : List Pd) : (pvars l).length ≤ psz l := Nat.le_trans (onceI_len _) (pvarsAll_len _)




end Go.Proofs.YtpdcjjgkpbpleaaGreatDoor

/- Substitutions at work: predicates with all variables replaced. -/
namespace Go.Proofs.YtpdcjjgkpbpleaaGreatDoor
open Go.RowKit

/-- Some predicates that have been made, away from their own row. -/
structure DpsOk (N : Nat) (w' : World) (row : Option Nat) (s : List Pr) (l ds : List Pd) : Prop where
  away : ∀ d ∈ ds, ∀ c, c < N → (∀ x ∈ l, awayB c x.ty = true) → awayB c d.ty = true
  ty : ∀ d ∈ ds, TyIn w' d.ty
  off : ∀ d ∈ ds, ∀ c, row = some c → awayB c d.ty = true
  is : ds.map (fun d => (d.cls, d.ty.pure)) = l.map fun x => (x.cls, putP (vsP s) (tsP s) x.ty)
theorem DpsOk.len {N : Nat} {w' : World} {row : Option Nat} {s : List Pr} {l ds : List Pd} (h : DpsOk N w' row s l ds) : ds.length = l.length := by simpa using congrArg List.length h.is
/-- May all be put? -/
def putsOk (s : List Pr) (l : List Pd) : Prop := ∀ x ∈ l, legalT x.ty = true ∧ szS (vsP s) (tsP s) x.ty ≤ 4096 ∧ dpS (vsP s) (tsP s) x.ty ≤ 100


end Go.Proofs.YtpdcjjgkpbpleaaGreatDoor

/- Contracts: what a proof is of; the same, told in new memory. -/
namespace Go.Proofs.YtpdcjjgkpbpleaaGreatDoor
open Go.RowKit

/-- What a proof is of, whatever it is. -/
theorem p_prove (x : EnD) (G : Option Addr) (gc : Nat) (given : List Pd) (p : Pf) : PrvC x G gc given 22 (prv x.classes x.insts given p) p := by
  induction p using Pf.ind with
  | h p ih =>
  cases h1 : (p.kind == 1)
  · cases h2 : (p.kind == 2)
    · cases h3 : (p.kind == 3)
      · exact p_none x G gc given p h1 h2 h3
      · exact p_instK x G gc given p h1 h2 h3 (p_inst x G gc given p ih)
    · exact p_super x G gc given p h1 h2 (p_above x G gc given p ih)
  · exact p_given x G gc given p h1

theorem setPd_grown (W : World) (b : Nat) (a : Pd) : W.grownBy (setPd W b a) (some b) := by
  refine ⟨rfl, rfl, rfl, by rw [setPd_size]; exact Nat.le_refl _, fun k _ hk => setPd_other a (fun e => hk (by rw [e]))⟩
theorem sub_none {w : World} {B p : Nat} (h : SubOwn w B p (.slice none 0 0) []) : SubIn w p none 0 [] := by
  obtain ⟨A, cap, e, hs⟩ := h.sub
  injection e with e1 _ e3
  subst e1 e3
  exact hs
/-- What Proves tells. -/
structure PvsOk (w w' : World) (o : Option Pd) (b : Pd) (n : Int) : Prop where
  yes : ∀ a, o = some a → n = 0 ∧ PdEq b a
  no : o = none → n = 1 ∧ b = ⟨[], Ty.zero⟩
  inn : PdIn w' b
  away : ∀ c, c < w.heap.size → (∀ a, o = some a → awayB c a.ty = true) → awayB c b.ty = true
theorem cell3 {y : World} {B b i : Nat} (h : b ≠ B) (v0 v1 v2 : Value) {u : Value} (k : y.cell? ⟨b, i, none⟩ = some u) : (((y.setCell ⟨B, 0, none⟩ v0).setCell ⟨B, 1, none⟩ v1).setCell ⟨B, 2, none⟩ v2).cell? ⟨b, i, none⟩ = some u := by
  refine (World.cell?_of_block (a := ⟨b, i, none⟩) ?_).trans k
  show (((y.setCell ⟨B, 0, none⟩ v0).setCell ⟨B, 1, none⟩ v1).setCell ⟨B, 2, none⟩ v2).heap[b]? = y.heap[b]?
  rw [Below.heap_setCell _ _ _ _ h, Below.heap_setCell _ _ _ _ h, Below.heap_setCell _ _ _ _ h]
theorem putP_none (t : Ty) : putP [] [] t = t.pure := by
  induction t using Ty.ind with
  | h t ih =>
  have e : putAt [] [] t.var = none := rfl
  have el : t.args.map (putP [] []) = t.args.map Ty.pure := List.map_congr_left fun k hk => ih k hk
  rw [putP_eq, e, el]
  conv => rhs; rw [Ty.pure_eq]
  split
  · rw [Option.getD_none, Ty.pure_eq]
  · rfl
theorem app_nil {w w' : World} {t u : Ty} {n : Int} (hl : legalT t = true) (hu : ApplyOk w w' [] t u n) : n = 0 ∧ u.pure = t.pure := by
  have h := legal_put (vars := []) (types := []) (by simp) hl (putP_none t).symm
  rw [hl] at h
  have h := h.symm
  rw [Bool.and_eq_true, decide_eq_true_eq, decide_eq_true_eq] at h
  obtain ⟨h1, h2⟩ := hu.yes hl h
  exact ⟨h1, h2.trans (putP_none t)⟩
/-- A type, told in new memory, and its box. -/
structure AppAt (w W wx : World) (b : Nat) (t u : Ty) : Prop where
  x : Ext W wx
  le : W.heap.size ≤ b
  box : TBox wx b u
  ty : TyIn wx u
  is : u.pure = t.pure
  away : ∀ c, c < W.heap.size → awayB c t = true → awayB c u = true
theorem AppAt.behind {w W wc y : World} {t u : Ty} (hW : Ext W wc) (hx : Ext wc y) (hu : TyIn y u) (hp : u.pure = t.pure) (ha : ∀ c, c < wc.heap.size → awayB c t = true → awayB c u = true) : AppAt w W (y.alloc (.cells #[encStr u.con, .int .i64 u.var, .slice u.A u.args.length u.cap] 37)) y.heap.size t u :=
  ⟨(hW.trans hx).alloc _, (hW.trans hx).size, TBox.new y u, hu.ext ((Ext.refl _).alloc _), hp, fun c hc => ha c (by have := hW.size; omega)⟩
theorem AppAt.ahead {w W wc y : World} {t u : Ty} {B : Nat} (hW : Ext W wc) (hx : Ext wc y) (hB : W.heap.size ≤ B) (hz : wc.heap[B]? = some (.cells #[.string ⟨#[]⟩, .int .i64 0, .slice none 0 0] 37 (0, 0))) (ht : TyIn W t) (hu : TyIn y u) (hp : u.pure = t.pure)
    (ha : ∀ c, c < wc.heap.size → awayB c t = true → awayB c u = true) :
    AppAt w W (((y.setCell ⟨B, 0, none⟩ (encStr u.con)).setCell ⟨B, 1, none⟩ (.int .i64 u.var)).setCell ⟨B, 2, none⟩ (.slice u.A u.args.length u.cap)) B t u := by
  obtain ⟨h1, h2⟩ := zt2 hW hx hB hz u
  exact ⟨h1, hB, h2, hu.grown (put3_grown _ B 0 1 2 _ _ _) (fun c e => by injection e with e; subst e; exact ha _ (lt_of_obj hz) (away_new ht hB)), hp, fun c hc => ha c (by have := hW.size; omega)⟩

set_option maxRecDepth 10000 in
set_option maxHeartbeats 8000000 in
theorem p_proves (x : EnD) (G : Option Addr) (gc : Nat) (given : List Pd) (p : Pf) (w : World) (he : EnIn w x) (hg : PdsIn w G given) (hp : PfIn w p)
    (hgl : w.cell? ⟨0, 0, none⟩ = some (.iface 143 (.agg #[.pointer (some ⟨2, 67, none⟩)]))) :
    Calls Tryz.prog 8 #[enV x, .slice G given.length gc, pfV p] w fun e w' => (∃ b n, e = .returned (.tuple #[pdV b, .int .i64 n]) ∧ PvsOk w w' (prv x.classes x.insts given p) b n) ∧ Ext w w' := by
  obtain ⟨W, hW⟩ : ∃ W, W = ((w.alloc (.cells #[.slice x.D x.datas.length x.dc, .slice x.C x.classes.length x.cc, .slice x.I x.insts.length x.ic] 26)).alloc (.cells #[.int .i64 p.kind, .int .i64 p.n, .slice p.T p.types.length p.tc, .slice p.A p.kids.length p.cap] 31)).alloc (.cells #[.string ⟨#[]⟩, .string ⟨#[]⟩, .int .i64 0, .slice none 0 0] 39) := ⟨_, rfl⟩
  have HW := hide hW.symm
  have X0 : Hid (Ext w W) := hide (by rw [hW]; exact (((Ext.refl _).alloc _).alloc _).alloc _)
  have B1 : Hid (EnBox W w.heap.size x) := hide (by rw [hW]; exact (EnBox.new w x).ext (((Ext.refl _).alloc _).alloc _))
  have B2 : Hid (FBox W (w.heap.size + 1) p) := hide (by rw [hW]; exact FBox.ext (at_newB _ _ _ (by simp)) ((Ext.refl _).alloc _))
  have B3 : Hid (W.heap[w.heap.size + 1 + 1]? = some (.cells #[.string ⟨#[]⟩, .string ⟨#[]⟩, .int .i64 0, .slice none 0 0] 39)) := hide (by rw [hW]; exact at_newB _ _ _ (by simp))
  have HsW : Hid (W.heap.size = w.heap.size + 3) := hide (by rw [hW]; simp)
  have HG := hide hgl
  have HP := hide (p_prove x G gc given p W (he.ext X0.out) (hg.ext X0.out) (hp.ext X0.out))
  have HIn := hide (fun a (ha : prv x.classes x.insts given p = some a) => (And.intro (prv_in he hg p hp a ha) (prv_legal ha)))
  obtain ⟨c0, c1, c2, c3⟩ := B2.out.cells
  obtain ⟨e0, e1, e2⟩ := B1.out.cells
  clear hW he hg hp hgl
  unfold enV pfV pdV at *
  generalize prv x.classes x.insts given p = O at *
  go_enter Tryz.func8, Tryz.ntmps8
  go_upto_region 1 with fail
  rw [HW.out]
  clear HW
  go_wp2_with fail
  refine HP.out.mono ?_
  rintro e w2 ⟨⟨q, er, rfl, hok⟩, hx2⟩
  have X2 := hide (X0.out.trans hx2)
  have B3 := hide ((hx2.heap (lt_of_obj B3.out)).trans B3.out)
  have HB2 := hide (lt_of_obj B3.out)
  clear hx2 c0 c1 c2 c3 e0 e1 e2 HP B1 B2
  go_upto_region 3 with fail
  refine wp_name ?_
  intro W3 hW3
  have E3 : Hid (Ext w2 W3) := hide (by rw [hW3]; exact ((Ext.refl _).alloc _).alloc _)
  have D1 : Hid (PdBox W3 w2.heap.size q) := hide (by rw [hW3]; exact (PdBox.new w2 q).ext ((Ext.refl _).alloc _))
  have D2 : Hid (W3.heap[w2.heap.size + 1]? = some (.cells #[.int .i64 0] 71 (0, 0))) := hide (by rw [hW3]; exact at_newB _ _ _ (by simp))
  have X3 := hide (X2.out.trans E3.out)
  have B3 := hide ((E3.out.heap (lt_of_obj B3.out)).trans B3.out)
  cases O with
  | none =>
    obtain rfl := hok.none
    clear hok
    have k0 := bytes_block D2.out 0
    simp only [List.getElem?_toArray, List.getElem?_cons_zero] at k0
    have kf := free_block D2.out 0
    have HA := hide (as_hit 1 (w2.heap.size + 1) _ W3 (X3.out.cell HG.out) k0 kf)
    clear hW3
    go_wp2_with fail
    refine HA.out.mono ?_
    rintro e y ⟨rfl, hy⟩
    have hs2 := X2.out.size
    have X4 : Hid (Ext w y) := hide (by rw [hy]; exact ((((X3.out.setCell (by show _ ≤ w2.heap.size + 1; omega) _).alloc _).alloc _).alloc _).alloc _)
    have D3 : Hid (y.heap[w2.heap.size + 1]? = some (.cells #[.int .i64 1] 71 (0, 0))) := hide (by
      rw [hy]
      refine (((((Ext.refl _).alloc _).alloc _).alloc _).alloc _ |>.heap ?_).trans ?_
      · simp [World.setCell]; exact lt_of_obj D2.out
      · have := blk_setCell D2.out 0 (.int .i64 1); simpa using this)
    have B4 : Hid (y.heap[w.heap.size + 1 + 1]? = some (.cells #[.string ⟨#[]⟩, .string ⟨#[]⟩, .int .i64 0, .slice none 0 0] 39)) := hide (by
      rw [hy]
      refine (((((Ext.refl _).alloc _).alloc _).alloc _).alloc _ |>.heap ?_).trans ?_
      · simp [World.setCell]; exact lt_of_obj B3.out
      · rw [Below.heap_setCell _ _ _ _ (by show _ ≠ w2.heap.size + 1; have := HsW.out; have := X0.out.size; have hx : w.heap.size + 1 + 1 < w2.heap.size := HB2.out; omega)]; exact B3.out)
    clear hy HA k0 kf
    have k0 := bytes_block D3.out 0
    simp only [List.getElem?_toArray, List.getElem?_cons_zero] at k0
    obtain ⟨y0, y1, y2, y3, yf0, yf1, yf2, yf3⟩ := p0_cells B4.out
    have hy3 := lt_of_obj B4.out
    have hk3 := lt_of_obj D3.out
    have hne : w.heap.size + 1 + 1 ≠ w2.heap.size + 1 := by have := HB2.out; omega
    have hne2 : w2.heap.size + 1 ≠ w.heap.size + 1 + 1 := by omega
    go_wp2
    go_region
    go_wp2
    refine bodyPost_ret (v := .tuple #[.agg #[.string ⟨#[]⟩, .string ⟨#[]⟩, .int .i64 0, .slice none 0 0], .int .i64 1]) ?_ rfl ⟨⟨⟨[], Ty.zero⟩, 1, rfl, ⟨fun a h => by (cases h), fun _ => ⟨rfl, rfl⟩, ⟨Nat.zero_le _, TyIn.zero _⟩, fun c _ _ => zeroT_away c⟩⟩, ?_⟩
    · simp [results, Tryz.f8, go_sem, y0, y1, y2, y3]
    · exact (ext_set4 X4.out (by omega) _ _ _ _).drew
  | some a =>
    obtain ⟨rfl, rfl⟩ := hok.some
    clear hok hW3
    rename Pd => a
    obtain ⟨Ha, hleg⟩ := HIn.out a rfl
    have Ha := hide Ha
    have hsz : a.ty.size ≤ 900000 := by
      unfold pdB at hleg
      rw [Bool.and_eq_true] at hleg
      have := (legal_parts hleg.2).1
      omega
    have HLg : Hid (legalT a.ty = true) := hide (by unfold pdB at hleg; rw [Bool.and_eq_true] at hleg; exact hleg.2)
    have HN := hide (fun t w' => as_nil t w')
    have HT3 := hide (Ha.out.ty.ext X3.out)
    clear hleg
    obtain ⟨a0, a1, a2, a3⟩ := D1.out.cells
    have ha4 := D1.out.lt
    go_wp2_with fail
    refine (HN.out _ _).mono ?_
    rintro e w4 ⟨rfl, hw⟩
    rw [hw]
    clear hw w4
    go_upto_region 5 with fail
    have HSS := hide (fun w' (e : Ext W3 w') => And.intro (e.cell a1) (And.intro (e.cell a2) (e.cell a3)))
    have hne0 : w2.heap.size ≠ W3.heap.size := by omega
    go_cut [11, 12] (fun s11 s12 wx => ∃ (b11 : Nat) (u : Ty), s11 = .pointer (some ⟨b11, 0, none⟩) ∧ Hid (AppAt w W3 wx b11 a.ty u))
    case first =>
      go_region_held3 (fun w' => w'.cell? ⟨w2.heap.size, 1, none⟩ = some (encStr a.ty.con) ∧ w'.cell? ⟨w2.heap.size, 2, none⟩ = some (.int .i64 a.ty.var) ∧ w'.cell? ⟨w2.heap.size, 3, none⟩ = some (.slice a.ty.A a.ty.args.length a.ty.cap)) (first | with_reducible assumption | (obtain ⟨g1, g2, g3⟩ := kS; with_reducible exact ⟨cell3 hnk _ _ _ g1, cell3 hnk _ _ _ g2, cell3 hnk _ _ _ g3⟩) | go_keep) (first
        | (go_at_call 24
           refine Calls.mono (s_new _) ?_
           rintro e y1 ⟨rfl, hsub, hx1⟩
           have HSub := hide (sub_none hsub)
           first
             | (have HSub : Hid (SubIn y1 (W3.heap.size + 1) none 0 []) := hide (by have h := HSub.out; have e : ∀ o, (W3.alloc o).drew.heap.size = W3.heap.size + 1 := fun o => World.size_alloc W3 o; rw [e] at h; exact h))
             | skip
           have E1 : Hid (Ext W3 y1) := hide (by refine Ext.trans ?_ hx1; exact (by repeat (first | exact Ext.refl _ | exact Ext.pre (by simp) | exact Ext.alloc (by assumption) _ | refine Ext.alloc ?_ _ |  refine Ext.more ?_ _ _ | refine Ext.drew ?_ | refine Ext.drewN ?_ _)))
           have kS := HSS.out y1 E1.out
           (try (have hz1 := hide ((hx1.heap (lt_of_obj (at_newD W3 _))).trans (at_newD W3 _))))
           clear hsub hx1)
        | (go_at_call 25
           refine Calls.mono (s_apply _ none 0 [] a.ty _ (HSub.out.ext (by repeat (first | exact Ext.refl _ | exact Ext.pre (by simp) | exact Ext.alloc (by assumption) _ | refine Ext.alloc ?_ _ |  refine Ext.more ?_ _ _ | refine Ext.drew ?_ | refine Ext.drewN ?_ _))) (by simp) (HT3.out.ext (E1.out.trans (by repeat (first | exact Ext.refl _ | exact Ext.pre (by simp) | exact Ext.alloc (by assumption) _ | refine Ext.alloc ?_ _ |  refine Ext.more ?_ _ _ | refine Ext.drew ?_ | refine Ext.drewN ?_ _)))) hsz) ?_
           rintro e y2 ⟨⟨u, n, rfl, hu⟩, hx2⟩
           have Ec : Hid (Ext y1 y2) := hide (by refine Ext.trans ?_ hx2; exact (by repeat (first | exact Ext.refl _ | exact Ext.pre (by simp) | exact Ext.alloc (by assumption) _ | refine Ext.alloc ?_ _ |  refine Ext.more ?_ _ _ | refine Ext.drew ?_ | refine Ext.drewN ?_ _)))
           have kS := HSS.out y2 (E1.out.trans Ec.out)
           first
             | (have hz : Hid (y2.heap[y1.heap.size]? = some (.cells #[.string ⟨#[]⟩, .int .i64 0, .slice none 0 0] 37 (0, 0))) := hide (by with_reducible exact (hx2.heap (lt_of_obj (at_newB y1 _ _ rfl))).trans (at_newB y1 _ _ rfl)); have hnk : w2.heap.size ≠ y1.heap.size := by have := E1.out.size; omega)
             | (have hz := hide ((Ec.out.heap (lt_of_obj hz1.out)).trans hz1.out); have hnk := hne0)
             | skip
           try (have z0 := bytes_block hz.out 0; have z1 := bytes_block hz.out 1; have z2 := bytes_block hz.out 2; have z3 := free_block hz.out 0; have z4 := free_block hz.out 1; have z5 := free_block hz.out 2; simp only [List.getElem?_toArray, List.getElem?_cons_zero, List.getElem?_cons_succ] at z0 z1 z2)))
      all_goals (go_wp2_with fail; go_meet; first
        | exact ⟨y2.heap.size, u, rfl, hide (AppAt.behind E1.out hx2 hu.ty (app_nil HLg.out hu).2 hu.away)⟩
        | exact ⟨y1.heap.size, u, rfl, hide (AppAt.ahead (E1.out.trans ((Ext.refl _).alloc _)) hx2 E1.out.size (at_newB y1 _ _ rfl) HT3.out hu.ty (app_nil HLg.out hu).2 hu.away)⟩
        | exact ⟨W3.heap.size, u, rfl, hide (AppAt.ahead E1.out hx2 (Nat.le_refl _) hz1.out HT3.out hu.ty (app_nil HLg.out hu).2 hu.away)⟩)
    case rest =>
      obtain ⟨b11, u, rfl, HA⟩ := hcut
      have XA := hide (X3.out.trans HA.out.x)
      have B4 := hide ((HA.out.x.heap (lt_of_obj B3.out)).trans B3.out)
      have D4 := hide (D1.out.ext HA.out.x)
      have hyW := lt_of_obj B3.out
      clear a0 a1 a2 a3 HSS
      obtain ⟨y0, y1, y2, y3, yf0, yf1, yf2, yf3⟩ := p0_cells B4.out
      obtain ⟨a0, -, -, -⟩ := D4.out.cells
      have t0 := HA.out.box.c0
      have t1 := HA.out.box.c1
      have t2 := HA.out.box.c2
      have Haw := hide (HA.out.away _ hyW (away_new Ha.out.ty (by omega)))
      have Htg := hide (HA.out.ty.grown (setPd_grown _ (w.heap.size + 1 + 1) ⟨a.cls, u⟩) (fun c e => by injection e with e; subst e; exact Haw.out))
      have hcl := Ha.out.cls
      have Hpw : Hid (∀ c, c < w.heap.size → awayB c a.ty = true → awayB c u = true) := hide (fun c hc h => HA.out.away c (by have := X3.out.size; omega) h)
      have His := hide HA.out.is
      go_wp2
      refine bodyPost_ret (v := .tuple #[.agg #[encStr a.cls, encStr u.con, .int .i64 u.var, .slice u.A u.args.length u.cap], .int .i64 0]) ?_ rfl ⟨⟨⟨a.cls, u⟩, 0, rfl, ⟨fun a' h => (by cases h; exact ⟨rfl, rfl, His.out⟩), fun h => (by cases h), ⟨hcl, Htg.out⟩, fun c hc h => Hpw.out c hc (h a rfl)⟩⟩, ext_set4 XA.out (by omega) _ _ _ _⟩
      simp [results, Tryz.f8, go_sem, y0, y1, y2, y3]

end Go.Proofs.YtpdcjjgkpbpleaaGreatDoor

/- What Proves tells, in a box; the predicates that have been made. No walk. -/
namespace Go.Proofs.YtpdcjjgkpbpleaaGreatDoor
open Go.RowKit

/-- What Proves told, in a box of its own. -/
structure PvAt (W wx : World) (B : Nat) (O : Option Pd) (b : Pd) (n : Int) : Prop where
  x : Ext W wx
  le : W.heap.size ≤ B
  box : PdBox wx B b
  inn : PdIn wx b
  yes : ∀ a, O = some a → n = 0 ∧ PdEq b a
  no : O = none → n = 1
  away : ∀ c, c < W.heap.size → (∀ a, O = some a → awayB c a.ty = true) → awayB c b.ty = true
theorem PvAt.behind {W wc y : World} {O : Option Pd} {b : Pd} {n : Int} (hW : Ext W wc) (hx : Ext wc y) (h : PvsOk wc y O b n) : PvAt W (y.alloc (.cells #[encStr b.cls, encStr b.ty.con, .int .i64 b.ty.var, .slice b.ty.A b.ty.args.length b.ty.cap] 39)) y.heap.size O b n :=
  ⟨(hW.trans hx).alloc _, (hW.trans hx).size, PdBox.new y b, h.inn.ext ((Ext.refl _).alloc _), h.yes, fun e => (h.no e).1, fun c hc => h.away c (by have := hW.size; omega)⟩
theorem setPd_in {y : World} {B : Nat} {b : Pd} (h : PdIn y b) (ha : awayB B b.ty = true) : PdIn (setPd y B b) b :=
  ⟨h.cls, h.ty.grown (setPd_grown y B b) (fun c e => by injection e with e; subst e; exact ha)⟩
theorem PvAt.ahead {W wc y : World} {B : Nat} {O : Option Pd} {b : Pd} {n : Int} (hW : Ext W wc) (hx : Ext wc y) (hB : W.heap.size ≤ B) (hz : wc.heap[B]? = some (.cells #[.string ⟨#[]⟩, .string ⟨#[]⟩, .int .i64 0, .slice none 0 0] 39)) (hO : ∀ a, O = some a → PdIn W a) (h : PvsOk wc y O b n) :
    PvAt W (setPd y B b) B O b n :=
  ⟨(zp2 hW hx hB hz b).1, hB, (zp2 hW hx hB hz b).2, setPd_in h.inn (h.away B (lt_of_obj hz) fun a e => away_new (hO a e).ty hB), h.yes, fun e => (h.no e).1, fun c hc => h.away c (by have := hW.size; omega)⟩
/-- The predicates that have been made: of the first of the proofs, in order. -/
structure MidOk (cs : List KlD) (ins : List InD) (given : List Pd) (w' : World) (row : Option Nat) (l : List Pf) (mid : List Pd) : Prop where
  inn : ∀ d ∈ mid, PdIn w' d
  off : ∀ d ∈ mid, ∀ c, row = some c → awayB c d.ty = true
  len : l.length = mid.length
  is : ∀ i (h1 : i < l.length) (h2 : i < mid.length), ∃ x, prv cs ins given (l[i]'h1) = some x ∧ PdEq x (mid[i]'h2)
theorem MidOk.nil (cs : List KlD) (ins : List InD) (given : List Pd) (w' : World) : MidOk cs ins given w' none [] [] := ⟨by simp, by simp, rfl, by intro i h1; simp at h1⟩
theorem MidOk.ext {cs : List KlD} {ins : List InD} {given : List Pd} {w w' : World} {row : Option Nat} {l : List Pf} {mid : List Pd} (h : MidOk cs ins given w row l mid) (e : Ext w w') : MidOk cs ins given w' row l mid :=
  ⟨fun d hd => (h.inn d hd).ext e, h.off, h.len, h.is⟩
/-- One more. -/
theorem MidOk.snoc {cs : List KlD} {ins : List InD} {given : List Pd} {w0 wx w1 w2 : World} {v v2 : Value} {l : List Pf} {mid : List Pd} {base n B : Nat} {xs : List Value} {p : Pf} {O : Option Pd} {b a : Pd} {m : Int}
    (h : MidOk cs ins given w0 v.ownBlock l mid) (ho : w0.ownsRow base 39 4 v n xs) (hp : PvAt w0 wx B O b m) (hO : O = some a) (hpr : prv cs ins given p = some a) (ha : ∀ c, base ≤ c → awayB c a.ty = true)
    (hx : Ext wx w1) (hg : w1.grownBy w2 v.ownBlock) (hor : v2.ownBlock = v.ownBlock ∨ ∃ g, v2.ownBlock = some g ∧ w1.heap.size ≤ g) : MidOk cs ins given w2 v2.ownBlock (l ++ [p]) (mid ++ [b]) := by
  have hoff : ∀ c, v.ownBlock = some c → awayB c b.ty = true := fun c hc => hp.away c (ho.lt c hc).2 (fun a' e => by rw [hO] at e; injection e with e; subst e; exact ha c (ho.lt c hc).1)
  have hin1 : ∀ d ∈ mid ++ [b], PdIn w1 d ∧ ∀ c, v.ownBlock = some c → awayB c d.ty = true := by
    intro d hd
    rcases List.mem_append.1 hd with hd | hd
    · exact ⟨(h.inn d hd).ext (hp.x.trans hx), fun c hc => h.off d hd c hc⟩
    · rw [List.mem_singleton] at hd
      subst hd
      exact ⟨hp.inn.ext hx, hoff⟩
  refine ⟨fun d hd => ⟨(hin1 d hd).1.cls, (hin1 d hd).1.ty.grown hg (hin1 d hd).2⟩, fun d hd c hc => ?_, by simp [h.len], fun i h1 h2 => ?_⟩
  · rcases hor with e | ⟨g, e, hge⟩
    · exact (hin1 d hd).2 c (e ▸ hc)
    · rw [e] at hc; injection hc with hc; subst hc; exact away_new (hin1 d hd).1.ty hge
  · by_cases hi : i < l.length
    · rw [List.getElem_append_left hi, List.getElem_append_left (by have := h.len; omega)]
      exact h.is i hi _
    · have e1 : i = l.length := by simp at h1; omega
      subst e1
      rw [List.getElem_append_right (Nat.le_refl _), List.getElem_append_right (by have := h.len; omega)]
      have : (0 : Nat) < 1 := by omega
      refine ⟨a, ?_, ?_⟩
      · simpa using hpr
      · have e2 := (hp.yes a hO).2.symm
        simpa [h.len] using e2

end Go.Proofs.YtpdcjjgkpbpleaaGreatDoor

/- Contracts: a number's letter; of the program, and of the reference. -/
namespace Go.Proofs.YtpdcjjgkpbpleaaGreatDoor
open Go.RowKit

theorem letter_neg {n : Int} (h : n < 0) : letter n = [] := by unfold letter; rw [if_pos h]
theorem letter_lo {m : Nat} (h : m < 26) : letter (m : Int) = [chr (97 + m % 26)] := by
  unfold letter
  rw [if_neg (by omega), if_pos (by omega)]
  rfl
theorem letter_hi {m : Nat} (h : ¬ m < 26) : letter (m : Int) = [chr (97 + m % 26)] ++ digs (m / 26) := by
  unfold letter
  rw [if_neg (by omega), if_neg (by omega)]
  rfl
theorem digs_20 {n : Nat} (h : n ≤ 9223372036854775807) : (digs n).length ≤ 20 := digs_len 19 n (Nat.lt_of_le_of_lt h (by decide))

set_option maxRecDepth 10000 in
set_option maxHeartbeats 1000000 in
theorem n_letter (n : Int) (h1 : n ≤ 9223372036854775807) (w : World) : Calls Tryz.prog 86 #[.int .i64 n] w fun e w' => e = .returned (encStr (letter n)) ∧ Ext w w' := by
  by_cases h0 : n < 0
  · rw [letter_neg h0]
    go_enter Tryz.func86, Tryz.ntmps86
    go_wp2
    go_ret
    exact ⟨rfl, Ext.refl _⟩
  · obtain ⟨m, rfl⟩ : ∃ m : Nat, n = m := ⟨n.toNat, by omega⟩
    have hcv := conv_one w (97 + m % 26) (97 + (m : Int) % 26) (by omega) (by omega)
    have hcv2 : IntKind.u8.wrap (97 + (m : Int) % 26) = 97 + (m : Int) % 26 := by simp [IntKind.wrap, IntKind.bits, IntKind.signed]; omega
    by_cases hlo : m < 26
    · have hlo' : decide ((m : Int) < 26) = true := by simp; omega
      rw [letter_lo hlo]
      go_enter Tryz.func86, Tryz.ntmps86
      go_wp2
      go_ret
      exact ⟨rfl, (Ext.refl _).alloc _⟩
    · have hlo' : decide ((m : Int) < 26) = false := by simp; omega
      have HT := hide (fun w' => i_text (m / 26) (by omega) w')
      have hq : (m : Int) / 26 = ((m / 26 : Nat) : Int) := by omega
      have H20 := hide (digs_20 (show m / 26 ≤ 9223372036854775807 by omega))
      rw [letter_hi hlo]
      generalize chr (97 + m % 26) = c at *
      generalize m / 26 = q at *
      go_enter Tryz.func86, Tryz.ntmps86
      go_wp2_with fail
      refine (HT.out _).mono ?_
      rintro e w2 ⟨rfl, hx⟩
      have hsz : ¬ ((⟨[c].toArray⟩ : ByteArray).size + (⟨(digs q).toArray⟩ : ByteArray).size > 9223372036854775807) := by have := H20.out; rw [ba_size, ba_size]; simp; omega
      go_wp2
      go_ret
      refine ⟨?_, ((Ext.refl _).alloc _).trans hx⟩
      exact congrArg (fun b => Ending.returned (Value.string b)) (ByteArray.mk_append_mk [c] (digs q))


end Go.Proofs.YtpdcjjgkpbpleaaGreatDoor
