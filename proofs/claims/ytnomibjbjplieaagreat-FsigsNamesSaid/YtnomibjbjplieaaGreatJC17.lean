/- Types, the blocks that they lie in, and types with others in the place of variables. No program in sight. -/
import Derived.Test.YtnomibjbjplieaaGreatJC16
/- Types, the blocks that they lie in, and types with others in the place of variables. No program in sight. -/
namespace Go.Proofs.YtnomibjbjplieaaGreat
open Go.RowKit

/-- Does no part of a type lie in block c? -/
noncomputable def awayB (c : Nat) : Ty → Bool := Ty.allB fun t => t.args.isEmpty || !(t.A.any fun a => a.block == c)
theorem awayB_eq (c : Nat) (t : Ty) : awayB c t = ((t.args.isEmpty || !(t.A.any fun a => a.block == c)) && t.args.all (awayB c)) := allB_eq _ t
theorem awayB_mk {c : Nat} {s : Str} {v : Int} {A : Option Addr} {cap : Nat} {l : List Ty} (h1 : l ≠ [] → ∀ a, A = some a → a.block ≠ c) (h2 : ∀ k ∈ l, awayB c k = true) : awayB c (.mk s v A cap l) = true := by
  rw [awayB_eq, Bool.and_eq_true, List.all_eq_true]
  refine ⟨?_, h2⟩
  show (l.isEmpty || !(A.any fun a => a.block == c)) = true
  cases l with
  | nil => rfl
  | cons x l =>
    cases A with
    | none => rfl
    | some a => have := h1 (by simp) a rfl; simp [this]
theorem awayB_arg {c : Nat} {t k : Ty} (h : awayB c t = true) (hk : k ∈ t.args) : awayB c k = true := by
  rw [awayB_eq, Bool.and_eq_true, List.all_eq_true] at h
  exact h.2 k hk
theorem awayB_own {c : Nat} {t : Ty} (h : awayB c t = true) (hn : t.args ≠ []) {a : Addr} (ha : t.A = some a) : a.block ≠ c := by
  rw [awayB_eq, Bool.and_eq_true] at h
  have h1 := h.1
  rw [ha] at h1
  cases e : t.args with
  | nil => exact absurd e hn
  | cons x l => rw [e] at h1; simpa using h1
section
variable {w w' : World} {t : Ty}
/-- What is behind all that there was it does not lie in. -/
theorem away_new (h : TyIn w t) {c : Nat} (hc : w.heap.size ≤ c) : awayB c t = true := by
  induction h with
  | mk h1 h2 h3 h4 h5 ih =>
    rename_i t
    cases t with
    | mk s v A cap l =>
    refine awayB_mk (fun hn a ha => ?_) ih
    obtain ⟨b, o, e, hb, -⟩ := h4.2 (List.length_pos_iff.2 hn)
    subst ha
    injection e with e
    subst e
    show b ≠ c
    omega
theorem row_grown {A : Option Addr} {k n : Nat} {l : List Value} {row : Option Nat} (h : Row w A k n l) (hg : w.grownBy w' row) (hr : n ≠ 0 → ∀ a, A = some a → row ≠ some a.block) : Row w' A k n l := by
  refine ⟨h.1, fun hn => ?_⟩
  obtain ⟨b, o, e, hb, hc⟩ := h.2 hn
  have hx := hg.block b hb (fun e2 => hr (by omega) _ e e2.symm)
  exact ⟨b, o, e, Nat.lt_of_lt_of_le hb hg.size, fun j u hu => (World.cell?_of_block hx).trans (hc j u hu)⟩
/-- What lies away from what is written lies still. -/
theorem TyIn.grown {row : Option Nat} (h : TyIn w t) (hg : w.grownBy w' row) (ha : ∀ c, row = some c → awayB c t = true) : TyIn w' t := by
  induction h with
  | mk h1 h2 h3 h4 h5 ih =>
    rename_i t
    refine .mk h1 h2 h3 (row_grown h4 hg (fun hn a hA e => ?_)) (fun k hk => ih k hk (fun c e => awayB_arg (ha c e) hk))
    exact awayB_own (ha _ e) (fun e2 => hn (by rw [e2]; rfl)) hA rfl
end

/-! ### Others in the place of variables -/
/-- What stands in a variable's place, or what stood there. -/
def putAt (vars : List Int) (types : List Ty) (v : Int) : Option Ty :=
  if 0 ≤ idxI vars v then types[(idxI vars v).toNat]? else none
noncomputable def putP (vars : List Int) (types : List Ty) : Ty → Ty.Pure :=
  Ty.fold fun t l => if t.con = [] then ((putAt vars types t.var).getD t).pure else .mk t.con t.var l
theorem putP_eq (vars : List Int) (types : List Ty) (t : Ty) :
    putP vars types t = if t.con = [] then ((putAt vars types t.var).getD t).pure else .mk t.con t.var (t.args.map (putP vars types)) := by
  unfold putP; rw [Ty.fold_eq]
theorem putAt_mem {vars : List Int} {types : List Ty} {v : Int} {u : Ty} (h : putAt vars types v = some u) : u ∈ types := by
  unfold putAt at h
  split at h
  · exact List.mem_of_getElem? h
  · cases h
/-- Is this type that with others in the place of variables, in memory, away from where those are not? -/
structure PutOk (w w' : World) (vars : List Int) (types : List Ty) (t u : Ty) : Prop where
  ty : TyIn w' u
  is : u.pure = putP vars types t
  away : ∀ c, c < w.heap.size → awayB c t = true → (∀ k ∈ types, awayB c k = true) → awayB c u = true
theorem PutOk.old {w w1 w' : World} {vars : List Int} {types : List Ty} {t u : Ty} (h : PutOk w1 w' vars types t u) (hs : w.heap.size ≤ w1.heap.size) : PutOk w w' vars types t u := ⟨h.ty, h.is, fun c hc => h.away c (by omega)⟩
theorem PutOk.var {w : World} {vars : List Int} {types : List Ty} {t : Ty} (hc : t.con = []) (ht : TyIn w t) (hts : ∀ k ∈ types, TyIn w k) : PutOk w w vars types t ((putAt vars types t.var).getD t) := by
  cases e : putAt vars types t.var with
  | none => exact ⟨ht, by rw [putP_eq, if_pos hc, e], fun c _ h _ => h⟩
  | some u => exact ⟨hts u (putAt_mem e), by rw [putP_eq, if_pos hc, e, Option.getD_some], fun c _ _ h => h u (putAt_mem e)⟩
theorem grown_cell (w : World) (b i : Nat) (v : Value) : w.grownBy (w.setCell ⟨b, i, none⟩ v) (some b) :=
  ⟨rfl, rfl, rfl, by simp [World.setCell], fun k _ hk => Below.heap_setCell w ⟨b, i, none⟩ v k (fun e => hk (by rw [e]))⟩
theorem PutOk.ext {w w' w2 : World} {vars : List Int} {types : List Ty} {t u : Ty} (h : PutOk w w' vars types t u) (e : Ext w' w2) : PutOk w w2 vars types t u := ⟨h.ty.ext e, h.is, h.away⟩
/-- Some args that have been made, away from the blocks that are written meanwhile. -/
structure PutsOk (w w' : World) (R : Nat → Prop) (vars : List Int) (types l us : List Ty) : Prop where
  len : us.length = l.length
  ty : ∀ u ∈ us, TyIn w' u
  is : us.map Ty.pure = l.map (putP vars types)
  row : ∀ u ∈ us, ∀ c, R c → awayB c u = true
  away : ∀ u ∈ us, ∀ c, c < w.heap.size → (∀ k ∈ l, awayB c k = true) → (∀ k ∈ types, awayB c k = true) → awayB c u = true
section
variable {w w1 w2 w3 w' : World} {R R' : Nat → Prop} {vars : List Int} {types l us : List Ty} {t u : Ty}
theorem PutsOk.nil (w w' : World) (R : Nat → Prop) (vars : List Int) (types : List Ty) : PutsOk w w' R vars types [] [] := ⟨rfl, by simp, rfl, by simp, by simp⟩
theorem PutsOk.ext (h : PutsOk w w1 R vars types l us) (e : Ext w1 w2) : PutsOk w w2 R vars types l us := ⟨h.len, fun u hu => (h.ty u hu).ext e, h.is, h.row, h.away⟩
/-- One of those blocks has been written. -/
theorem PutsOk.grown (h : PutsOk w w1 R vars types l us) {row : Option Nat} (hg : w1.grownBy w2 row) (hr : ∀ c, row = some c → R c) : PutsOk w w2 R vars types l us :=
  ⟨h.len, fun u hu => (h.ty u hu).grown hg (fun c e => h.row u hu c (hr c e)), h.is, h.row, h.away⟩
/-- Other blocks: what is new is away. -/
theorem PutsOk.rows (h : PutsOk w w1 R vars types l us) (hr : ∀ c, R' c → R c ∨ w1.heap.size ≤ c) : PutsOk w w1 R' vars types l us :=
  ⟨h.len, h.ty, h.is, fun u hu c hc => (hr c hc).elim (h.row u hu c) (fun hc => away_new (h.ty u hu) hc), h.away⟩
/-- One more has been made (w1: the world ahead of it). -/
theorem PutsOk.snoc (h : PutsOk w w1 R vars types l us) (k : PutOk w1 w2 vars types t u) (he : Ext w1 w2)
    (ht : TyIn w t) (hts : ∀ k ∈ types, TyIn w k) (hs : w.heap.size ≤ w1.heap.size) (hr : ∀ c, R c → w.heap.size ≤ c ∧ c < w1.heap.size) :
    PutsOk w w2 R vars types (l ++ [t]) (us ++ [u]) := by
  refine ⟨by simp [h.len], fun x hx => ?_, by rw [List.map_append, List.map_append, h.is]; simp [k.is], fun x hx c hc => ?_, fun x hx c hc h1 h2 => ?_⟩
  · rcases List.mem_append.1 hx with hx | hx
    · exact (h.ty x hx).ext he
    · rw [List.mem_singleton] at hx; subst hx; exact k.ty
  · rcases List.mem_append.1 hx with hx | hx
    · exact h.row x hx c hc
    · rw [List.mem_singleton] at hx; subst hx
      exact k.away c (hr c hc).2 (away_new ht (hr c hc).1) (fun x hx => away_new (hts x hx) (hr c hc).1)
  · rcases List.mem_append.1 hx with hx | hx
    · exact h.away x hx c hc (fun k hk => h1 k (List.mem_append.2 (.inl hk))) h2
    · rw [List.mem_singleton] at hx; subst hx
      exact k.away c (by omega) (h1 t (by simp)) h2
/-- All args have been made: the type. -/
theorem PutsOk.done {A : Option Addr} {cap : Nat} (h : PutsOk w w' R vars types t.args us) (hc : t.con ≠ []) (htx : t.con.length ≤ 9223372036854775807)
    (h1 : us.length ≤ cap) (h2 : cap ≤ 9223372036854775807) (h3 : RowOf tyC w' A us) (hA : us ≠ [] → ∀ a, A = some a → w.heap.size ≤ a.block) : PutOk w w' vars types t (.mk t.con t.var A cap us) where
  ty := TyIn.of h1 h2 htx h3 h.ty
  is := by rw [Ty.pure_eq, putP_eq, if_neg hc]; show Ty.Pure.mk _ _ (us.map Ty.pure) = _; rw [h.is]; rfl
  away c hlt k1 k2 := awayB_mk (fun hn a ha => by have := hA hn a ha; omega) (fun u hu => h.away u hu c hlt (fun k hk => awayB_arg k1 hk) k2)
end

end Go.Proofs.YtnomibjbjplieaaGreat
