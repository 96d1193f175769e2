/- Contracts on looking for a text in a row. -/
import Derived.Test.YtcnkfkjgpdmebaaGreatDoorJN2
import Derived.Test.YtcnkfkjgpdmebaaGreatDoorProg
import Derived.WalkSpells
import Derived.WalkLawsBesides
import Derived.Deep.QuietTactic
import Derived.BigQuiet
/- Contracts on looking for a text in a row. -/
namespace Go.Proofs.YtcnkfkjgpdmebaaGreatDoor
open Go.RowKit

/-- Where a thing stands first; -1: nowhere. -/
def idxI {α : Type} [BEq α] (l : List α) (x : α) : Int := if l.any (· == x) then (l.findIdx (· == x) : Nat) else -1
section
variable {α : Type} [BEq α] (l : List α) (x d : α)
theorem idxI_at {k : Nat} (hk : k < l.length) (h : ∀ j, j < k → (l.getD j d == x) = false) (hx : (l.getD k d == x) = true) : idxI l x = k := by
  have h1 : l.any (· == x) = true := List.any_eq_true.2 ⟨l.getD k d, by simp [hk], hx⟩
  unfold idxI
  rw [if_pos h1]
  congr 1
  have h2 : l.findIdx (· == x) ≤ k := by
    rcases Nat.lt_or_ge k (l.findIdx (· == x)) with h3 | h3
    · have := List.not_of_lt_findIdx h3
      simp [hk] at hx
      simp [hx] at this
    · exact h3
  rcases Nat.lt_or_ge (l.findIdx (· == x)) k with h3 | h3
  · have h4 := h _ h3
    have h5 : l.findIdx (· == x) < l.length := by omega
    have h6 := List.findIdx_getElem (w := h5)
    simp [h5] at h4
    simp [h4] at h6
  · omega
theorem idxI_no (h : ∀ j, j < l.length → (l.getD j d == x) = false) : idxI l x = -1 := by
  unfold idxI
  rw [if_neg]
  intro h1
  obtain ⟨y, hy, e⟩ := List.any_eq_true.1 h1
  obtain ⟨j, hj, rfl⟩ := List.getElem_of_mem hy
  have := h j hj
  simp [hj, e] at this
theorem idxI_ge : decide ((0 : Int) ≤ idxI l x) = l.any (· == x) := by
  unfold idxI
  split
  · rename_i h; simp [h]
  · rename_i h; simp only [Bool.not_eq_true] at h; rw [h]; decide
end

set_option maxHeartbeats 1000000 in
theorem index_s (A : Option Addr) (cap : Nat) (l : List Str) (x : Str) (w : World) (h : Strs w A l) (hle : l.length ≤ 9223372036854775807) :
    Calls Tryz.prog 222 #[.slice A l.length cap, encStr x] w fun e w' => e = .returned (.int .i64 (idxI l x)) ∧ w' = w := by
  have Hat := hide (fun k => @idxI_at _ _ l x [] k)
  have Hno := hide (idxI_no l x [])
  have Hr := hide h
  clear h
  generalize idxI l x = R at *
  go_enter Tryz.func222, Tryz.ntmps222
  go_wp2
  go_loop [8] (fun i => ∃ j : Nat, j ≤ l.length ∧ i = .int .i64 j ∧ Hid (∀ i, i < j → (l.getD i [] == x) = false)) (fun i => l.length - (intOf i).toNat)
  case atStart => exact ⟨0, Nat.zero_le _, rfl, hide (fun i hi => absurd hi (by omega))⟩
  case round =>
    obtain ⟨j, hj, rfl, Hj⟩ := hrel
    by_cases hlt : j < l.length
    · obtain ⟨b, o, rfl, hb, hc⟩ := Hr.out.at_ hlt
      have hlt' : (j : Int) < (l.length : Int) := by omega
      generalize hy : l.getD j [] = y at hc
      have Hy := hide hy
      clear hy
      cases hs : (x == y)
      · go_wp2
        go_round
        case rel =>
          refine ⟨j + 1, hlt, by go_num, hide (fun i hi => ?_)⟩
          by_cases hij : i = j
          · rw [hij, Hy.out]; rw [Bool.eq_false_iff] at hs ⊢; simp at hs ⊢; exact fun e => hs e.symm
          · exact Hj.out i (by omega)
        case measure => simp [intOf]; omega
      · have hR := Hat.out j hlt Hj.out (by rw [Hy.out]; simp at hs ⊢; exact hs.symm)
        subst hR
        go_wp2
        go_ret
        exact ⟨rfl, rfl⟩
    · have hge : (l.length : Int) ≤ (j : Int) := by omega
      have hR := Hno.out (fun i hi => Hj.out i (by omega))
      subst hR
      go_wp2
      go_ret
      exact ⟨rfl, rfl⟩

set_option maxHeartbeats 1000000 in
theorem has_s (A : Option Addr) (cap : Nat) (l : List Str) (x : Str) (w : World) (h : Strs w A l) (hle : l.length ≤ 9223372036854775807) :
    Calls Tryz.prog 190 #[.slice A l.length cap, encStr x] w fun e w' => e = .returned (.bool (l.any (· == x))) ∧ w' = w := by
  have Hi := hide (index_s A cap l x w h hle)
  rw [← idxI_ge]
  clear h
  generalize idxI l x = R at *
  go_enter Tryz.func190, Tryz.ntmps190
  go_wp2_with fail
  refine Hi.out.mono ?_
  rintro e w1 ⟨rfl, rfl⟩
  go_wp2
  go_ret
  exact ⟨rfl, rfl⟩

end Go.Proofs.YtcnkfkjgpdmebaaGreatDoor

/- Types, the blocks that they lie in, and types with others in the place of variables. No program in sight. -/
namespace Go.Proofs.YtcnkfkjgpdmebaaGreatDoor
open Go.RowKit

/-- Does no part of a type lie in block c? -/
noncomputable def awayB (c : Nat) : Ty → Bool := Ty.allB fun t => t.args.isEmpty || !(t.A.any fun a => a.block == c)
theorem awayB_eq (c : Nat) (t : Ty) : awayB c t = ((t.args.isEmpty || !(t.A.any fun a => a.block == c)) && t.args.all (awayB c)) := allB_eq _ t
theorem awayB_mk {c : Nat} {s : Str} {v : Int} {A : Option Addr} {cap : Nat} {l : List Ty} (h1 : l ≠ [] → ∀ a, A = some a → a.block ≠ c) (h2 : ∀ k ∈ l, awayB c k = true) : awayB c (.mk s v A cap l) = true := by
  rw [awayB_eq, Bool.and_eq_true, List.all_eq_true]
  refine ⟨?_, h2⟩
  show (l.isEmpty || !(A.any fun a => a.block == c)) = true
  cases l with
  | nil => rfl
  | cons x l =>
    cases A with
    | none => rfl
    | some a => have := h1 (by simp) a rfl; simp [this]
theorem awayB_arg {c : Nat} {t k : Ty} (h : awayB c t = true) (hk : k ∈ t.args) : awayB c k = true := by
  rw [awayB_eq, Bool.and_eq_true, List.all_eq_true] at h
  exact h.2 k hk
theorem awayB_own {c : Nat} {t : Ty} (h : awayB c t = true) (hn : t.args ≠ []) {a : Addr} (ha : t.A = some a) : a.block ≠ c := by
  rw [awayB_eq, Bool.and_eq_true] at h
  have h1 := h.1
  rw [ha] at h1
  cases e : t.args with
  | nil => exact absurd e hn
  | cons x l => rw [e] at h1; simpa using h1
section
variable {w w' : World} {t : Ty}
/-- What is behind all that there was it does not lie in. -/
theorem away_new (h : TyIn w t) {c : Nat} (hc : w.heap.size ≤ c) : awayB c t = true := by
  induction h with
  | mk h1 h2 h3 h4 h5 ih =>
    rename_i t
    cases t with
    | mk s v A cap l =>
    refine awayB_mk (fun hn a ha => ?_) ih
    obtain ⟨b, o, e, hb, -⟩ := h4.2 (List.length_pos_iff.2 hn)
    subst ha
    injection e with e
    subst e
    show b ≠ c
    omega
theorem row_grown {A : Option Addr} {k n : Nat} {l : List Value} {row : Option Nat} (h : Row w A k n l) (hg : w.grownBy w' row) (hr : n ≠ 0 → ∀ a, A = some a → row ≠ some a.block) : Row w' A k n l := by
  refine ⟨h.1, fun hn => ?_⟩
  obtain ⟨b, o, e, hb, hc⟩ := h.2 hn
  have hx := hg.block b hb (fun e2 => hr (by omega) _ e e2.symm)
  exact ⟨b, o, e, Nat.lt_of_lt_of_le hb hg.size, fun j u hu => (World.cell?_of_block hx).trans (hc j u hu)⟩
/-- What lies away from what is written lies still. -/
theorem TyIn.grown {row : Option Nat} (h : TyIn w t) (hg : w.grownBy w' row) (ha : ∀ c, row = some c → awayB c t = true) : TyIn w' t := by
  induction h with
  | mk h1 h2 h3 h4 h5 ih =>
    rename_i t
    refine .mk h1 h2 h3 (row_grown h4 hg (fun hn a hA e => ?_)) (fun k hk => ih k hk (fun c e => awayB_arg (ha c e) hk))
    exact awayB_own (ha _ e) (fun e2 => hn (by rw [e2]; rfl)) hA rfl
end

/-! ### Others in the place of variables -/
/-- What stands in a variable's place, or what stood there. -/
def putAt (vars : List Int) (types : List Ty) (v : Int) : Option Ty :=
  if 0 ≤ idxI vars v then types[(idxI vars v).toNat]? else none
noncomputable def putP (vars : List Int) (types : List Ty) : Ty → Ty.Pure :=
  Ty.fold fun t l => if t.con = [] then ((putAt vars types t.var).getD t).pure else .mk t.con t.var l
theorem putP_eq (vars : List Int) (types : List Ty) (t : Ty) :
    putP vars types t = if t.con = [] then ((putAt vars types t.var).getD t).pure else .mk t.con t.var (t.args.map (putP vars types)) := by
  unfold putP; rw [Ty.fold_eq]
theorem putAt_mem {vars : List Int} {types : List Ty} {v : Int} {u : Ty} (h : putAt vars types v = some u) : u ∈ types := by
  unfold putAt at h
  split at h
  · exact List.mem_of_getElem? h
  · cases h
/-- Is this type that with others in the place of variables, in memory, away from where those are not? -/
structure PutOk (w w' : World) (vars : List Int) (types : List Ty) (t u : Ty) : Prop where
  ty : TyIn w' u
  is : u.pure = putP vars types t
  away : ∀ c, c < w.heap.size → awayB c t = true → (∀ k ∈ types, awayB c k = true) → awayB c u = true
theorem PutOk.old {w w1 w' : World} {vars : List Int} {types : List Ty} {t u : Ty} (h : PutOk w1 w' vars types t u) (hs : w.heap.size ≤ w1.heap.size) : PutOk w w' vars types t u := ⟨h.ty, h.is, fun c hc => h.away c (by omega)⟩
theorem PutOk.var {w : World} {vars : List Int} {types : List Ty} {t : Ty} (hc : t.con = []) (ht : TyIn w t) (hts : ∀ k ∈ types, TyIn w k) : PutOk w w vars types t ((putAt vars types t.var).getD t) := by
  cases e : putAt vars types t.var with
  | none => exact ⟨ht, by rw [putP_eq, if_pos hc, e], fun c _ h _ => h⟩
  | some u => exact ⟨hts u (putAt_mem e), by rw [putP_eq, if_pos hc, e, Option.getD_some], fun c _ _ h => h u (putAt_mem e)⟩
theorem grown_cell (w : World) (b i : Nat) (v : Value) : w.grownBy (w.setCell ⟨b, i, none⟩ v) (some b) :=
  ⟨rfl, rfl, rfl, by simp [World.setCell], fun k _ hk => Below.heap_setCell w ⟨b, i, none⟩ v k (fun e => hk (by rw [e]))⟩
theorem PutOk.ext {w w' w2 : World} {vars : List Int} {types : List Ty} {t u : Ty} (h : PutOk w w' vars types t u) (e : Ext w' w2) : PutOk w w2 vars types t u := ⟨h.ty.ext e, h.is, h.away⟩
/-- Some args that have been made, away from the blocks that are written meanwhile. -/
structure PutsOk (w w' : World) (R : Nat → Prop) (vars : List Int) (types l us : List Ty) : Prop where
  len : us.length = l.length
  ty : ∀ u ∈ us, TyIn w' u
  is : us.map Ty.pure = l.map (putP vars types)
  row : ∀ u ∈ us, ∀ c, R c → awayB c u = true
  away : ∀ u ∈ us, ∀ c, c < w.heap.size → (∀ k ∈ l, awayB c k = true) → (∀ k ∈ types, awayB c k = true) → awayB c u = true
section
variable {w w1 w2 w3 w' : World} {R R' : Nat → Prop} {vars : List Int} {types l us : List Ty} {t u : Ty}
theorem PutsOk.nil (w w' : World) (R : Nat → Prop) (vars : List Int) (types : List Ty) : PutsOk w w' R vars types [] [] := ⟨rfl, by simp, rfl, by simp, by simp⟩
theorem PutsOk.ext (h : PutsOk w w1 R vars types l us) (e : Ext w1 w2) : PutsOk w w2 R vars types l us := ⟨h.len, fun u hu => (h.ty u hu).ext e, h.is, h.row, h.away⟩
/-- One of those blocks has been written. -/
theorem PutsOk.grown (h : PutsOk w w1 R vars types l us) {row : Option Nat} (hg : w1.grownBy w2 row) (hr : ∀ c, row = some c → R c) : PutsOk w w2 R vars types l us :=
  ⟨h.len, fun u hu => (h.ty u hu).grown hg (fun c e => h.row u hu c (hr c e)), h.is, h.row, h.away⟩
/-- Other blocks: what is new is away. -/
theorem PutsOk.rows (h : PutsOk w w1 R vars types l us) (hr : ∀ c, R' c → R c ∨ w1.heap.size ≤ c) : PutsOk w w1 R' vars types l us :=
  ⟨h.len, h.ty, h.is, fun u hu c hc => (hr c hc).elim (h.row u hu c) (fun hc => away_new (h.ty u hu) hc), h.away⟩
/-- One more has been made (w1: the world ahead of it). -/
theorem PutsOk.snoc (h : PutsOk w w1 R vars types l us) (k : PutOk w1 w2 vars types t u) (he : Ext w1 w2)
    (ht : TyIn w t) (hts : ∀ k ∈ types, TyIn w k) (hs : w.heap.size ≤ w1.heap.size) (hr : ∀ c, R c → w.heap.size ≤ c ∧ c < w1.heap.size) :
    PutsOk w w2 R vars types (l ++ [t]) (us ++ [u]) := by
  refine ⟨by simp [h.len], fun x hx => ?_, by rw [List.map_append, List.map_append, h.is]; simp [k.is], fun x hx c hc => ?_, fun x hx c hc h1 h2 => ?_⟩
  · rcases List.mem_append.1 hx with hx | hx
    · exact (h.ty x hx).ext he
    · rw [List.mem_singleton] at hx; subst hx; exact k.ty
  · rcases List.mem_append.1 hx with hx | hx
    · exact h.row x hx c hc
    · rw [List.mem_singleton] at hx; subst hx
      exact k.away c (hr c hc).2 (away_new ht (hr c hc).1) (fun x hx => away_new (hts x hx) (hr c hc).1)
  · rcases List.mem_append.1 hx with hx | hx
    · exact h.away x hx c hc (fun k hk => h1 k (List.mem_append.2 (.inl hk))) h2
    · rw [List.mem_singleton] at hx; subst hx
      exact k.away c (by omega) (h1 t (by simp)) h2
/-- All args have been made: the type. -/
theorem PutsOk.done {A : Option Addr} {cap : Nat} (h : PutsOk w w' R vars types t.args us) (hc : t.con ≠ []) (htx : t.con.length ≤ 9223372036854775807)
    (h1 : us.length ≤ cap) (h2 : cap ≤ 9223372036854775807) (h3 : RowOf tyC w' A us) (hA : us ≠ [] → ∀ a, A = some a → w.heap.size ≤ a.block) : PutOk w w' vars types t (.mk t.con t.var A cap us) where
  ty := TyIn.of h1 h2 htx h3 h.ty
  is := by rw [Ty.pure_eq, putP_eq, if_neg hc]; show Ty.Pure.mk _ _ (us.map Ty.pure) = _; rw [h.is]; rfl
  away c hlt k1 k2 := awayB_mk (fun hn a ha => by have := hA hn a ha; omega) (fun u hu => h.away u hu c hlt (fun k hk => awayB_arg k1 hk) k2)
end

end Go.Proofs.YtcnkfkjgpdmebaaGreatDoor

/- Proofs in memory: four cells each, with slices of types, and of proofs. No program in sight. (A program of ours has printed this.) -/
namespace Go.Proofs.YtcnkfkjgpdmebaaGreatDoor
open Go.RowKit

inductive Pf where
  | mk (kind n : Int) (T : Option Addr) (tc : Nat) (types : List Ty) (A : Option Addr) (cap : Nat) (kids : List Pf) : Pf
namespace Pf
def kind : Pf → Int | .mk x _ _ _ _ _ _ _ => x
def n : Pf → Int | .mk _ x _ _ _ _ _ _ => x
def T : Pf → Option Addr | .mk _ _ x _ _ _ _ _ => x
def tc : Pf → Nat | .mk _ _ _ x _ _ _ _ => x
def types : Pf → List Ty | .mk _ _ _ _ x _ _ _ => x
def A : Pf → Option Addr | .mk _ _ _ _ _ x _ _ => x
def cap : Pf → Nat | .mk _ _ _ _ _ _ x _ => x
def kids : Pf → List Pf | .mk _ _ _ _ _ _ _ x => x
/-- Induction on a term: what holds of all kids holds of it. -/
theorem ind {p : Pf → Prop} (h : ∀ t, (∀ k ∈ t.kids, p k) → p t) (t : Pf) : p t :=
  Pf.rec (motive_1 := p) (motive_2 := fun l => ∀ k ∈ l, p k) (fun _ _ _ _ _ _ _ _ hl => h _ hl) (fun _ hk => by cases hk)
    (fun _ _ hh ht k hk => by rcases List.mem_cons.1 hk with rfl | hk; exact hh; exact ht k hk) t
/-- What is reckoned of a term out of what is reckoned of its kids. -/
noncomputable def fold {β : Type} (f : Pf → List β → β) (t : Pf) : β :=
  Pf.rec (motive_1 := fun _ => β) (motive_2 := fun _ => List β) (fun k n T tc ts a c l r => f (.mk k n T tc ts a c l) r) [] (fun _ _ h t => h :: t) t
theorem fold_eq {β : Type} (f : Pf → List β → β) (t : Pf) : t.fold f = f t (t.kids.map (fold f)) := by
  cases t with
  | mk k n T tc ts a c l =>
    show f _ _ = f _ _
    congr 1
    show Pf.rec_1 (motive_1 := fun _ => β) (motive_2 := fun _ => List β) _ _ _ l = l.map (fold f)
    induction l with
    | nil => rfl
    | cons x l ih => exact congrArg (x.fold f :: ·) ih
noncomputable def size : Pf → Nat := fold fun _ l => l.sum + 1
theorem size_eq (t : Pf) : t.size = (t.kids.map size).sum + 1 := fold_eq _ t
theorem size_pos (t : Pf) : 0 < t.size := by rw [size_eq]; omega
noncomputable def depth : Pf → Nat := fold fun _ l => l.foldr max 0 + 1
theorem depth_eq (t : Pf) : t.depth = (t.kids.map depth).foldr max 0 + 1 := fold_eq _ t
theorem size_kid {t k : Pf} (h : k ∈ t.kids) : k.size < t.size := by rw [size_eq t]; have := Tree.mem_sum size h; omega
/-- A term without its memory: what it says. -/
inductive Pure where
  | mk (kind n : Int) (types : List Ty.Pure) (kids : List Pure) : Pure
noncomputable def pure : Pf → Pure := fold fun t l => .mk t.kind t.n (t.types.map Ty.pure) l
theorem pure_eq (t : Pf) : t.pure = .mk t.kind t.n (t.types.map Ty.pure) (t.kids.map pure) := fold_eq _ t
def zero : Pf := .mk 0 0 none 0 [] none 0 []
end Pf

def Pf.cells (t : Pf) : List Value := [.int .i64 t.kind, .int .i64 t.n, .slice t.T t.types.length t.tc, .slice t.A t.kids.length t.cap]
def pfC : Coder Pf := ⟨4, Pf.cells, fun _ => rfl, by omega⟩
@[go_sem] def pfV (t : Pf) : Value := .agg #[.int .i64 t.kind, .int .i64 t.n, .slice t.T t.types.length t.tc, .slice t.A t.kids.length t.cap]

/-- What a term says of itself stands in memory. -/
structure PfHd (w : World) (t : Pf) : Prop where
  tle : t.types.length ≤ t.tc
  tmax : t.tc ≤ 9223372036854775807
  le : t.kids.length ≤ t.cap
  max : t.cap ≤ 9223372036854775807
  types : TysIn w t.T t.types
  row : RowOf pfC w t.A t.kids
/-- A term that stands in memory. -/
inductive PfIn (w : World) : Pf → Prop
  | mk {t : Pf} (hd : PfHd w t) (kids : ∀ k ∈ t.kids, PfIn w k) : PfIn w t
/-- Terms that stand in memory, in a row. -/
structure PfsIn (w : World) (A : Option Addr) (l : List Pf) : Prop where
  row : RowOf pfC w A l
  kids : ∀ k ∈ l, PfIn w k

section
variable {w w' : World} {t : Pf}
theorem PfHd.old (h : PfHd w t) (k : Below w.heap.size w w') : PfHd w' t :=
  ⟨h.tle, h.tmax, h.le, h.max, h.types.old k, Row.old h.row k.block k.size⟩
theorem PfHd.ext (h : PfHd w t) (k : Ext w w') : PfHd w' t := h.old k.below
theorem PfIn.hd (h : PfIn w t) : PfHd w t := by cases h; assumption
theorem PfIn.all (h : PfIn w t) : PfsIn w t.A t.kids := by cases h with | mk h k => exact ⟨h.row, k⟩
theorem PfIn.old (h : PfIn w t) (k : Below w.heap.size w w') : PfIn w' t := by
  induction h with
  | mk h1 _ ih => exact .mk (h1.old k) ih
theorem PfIn.ext (h : PfIn w t) (k : Ext w w') : PfIn w' t := h.old k.below
theorem PfsIn.old {A : Option Addr} {l : List Pf} (h : PfsIn w A l) (k : Below w.heap.size w w') : PfsIn w' A l := ⟨Row.old h.row k.block k.size, fun x hx => (h.kids x hx).old k⟩
theorem PfsIn.ext {A : Option Addr} {l : List Pf} (h : PfsIn w A l) (k : Ext w w') : PfsIn w' A l := h.old k.below
theorem PfsIn.nil (w : World) (A : Option Addr) : PfsIn w A [] := ⟨RowOf.nil _ _ _, by simp⟩
theorem PfIn.zero (w : World) : PfIn w Pf.zero := .mk ⟨Nat.zero_le _, by decide, Nat.zero_le _, by decide, TysIn.nil _ _, RowOf.nil _ _ _⟩ (by intro k hk; cases hk)
theorem PfsIn.at_ {A : Option Addr} {l : List Pf} (h : PfsIn w A l) {i : Nat} (hi : i < l.length) :
    ∃ b o, A = some ⟨b, o, none⟩ ∧ b < w.heap.size ∧ w.cell? ⟨b, o + i * 4, none⟩ = some (.int .i64 (l[i]'hi).kind) ∧ w.cell? ⟨b, o + i * 4 + 1, none⟩ = some (.int .i64 (l[i]'hi).n) ∧
      w.cell? ⟨b, o + i * 4 + 2, none⟩ = some (.slice (l[i]'hi).T (l[i]'hi).types.length (l[i]'hi).tc) ∧ w.cell? ⟨b, o + i * 4 + 3, none⟩ = some (.slice (l[i]'hi).A (l[i]'hi).kids.length (l[i]'hi).cap) := by
  obtain ⟨b, o, e, hb, hc⟩ := RowOf.at_ pfC h.row hi
  refine ⟨b, o, e, hb, ?_, ?_, ?_, ?_⟩
  · have := hc 0 (by decide); simpa [pfC, Pf.cells] using this
  · have := hc 1 (by decide); simpa [pfC, Pf.cells] using this
  · have := hc 2 (by decide); simpa [pfC, Pf.cells] using this
  · have := hc 3 (by decide); simpa [pfC, Pf.cells] using this
theorem PfsIn.cut {A : Option Addr} {l : List Pf} (h : PfsIn w A l) {k cap : Nat} (hk : k ≤ l.length) (hc : l.length ≤ cap) : PfsIn w (if cap = k then A else A.map (·.add (k * 4))) (l.drop k) :=
  ⟨RowOf.cut pfC h.row hk hc, fun x hx => h.kids x (List.mem_of_mem_drop hx)⟩
theorem PfsIn.take {A : Option Addr} {l : List Pf} (h : PfsIn w A l) {k : Nat} (hk : k ≤ l.length) : PfsIn w A (l.take k) :=
  ⟨RowOf.take pfC h.row hk, fun x hx => h.kids x (List.mem_of_mem_take hx)⟩
end

noncomputable def psizes (l : List Pf) : Nat := (l.map Pf.size).sum
theorem psizes_snoc (l : List Pf) (t : Pf) : psizes (l ++ [t]) = psizes l + t.size := by simp [psizes]
theorem psizes_take (l : List Pf) {k : Nat} (h : k < l.length) : psizes (l.take (k + 1)) = psizes (l.take k) + (l[k]'h).size := by rw [List.take_succ_eq_append_getElem h, psizes_snoc]
theorem psizes_le (l : List Pf) (k : Nat) : psizes (l.take k) ≤ psizes l := by
  have : psizes l = psizes (l.take k) + psizes (l.drop k) := by unfold psizes; rw [← List.sum_append, ← List.map_append, List.take_append_drop]
  omega

/-! ### The same -/
end Go.Proofs.YtcnkfkjgpdmebaaGreatDoor

/- Numbers as digits, letters, texts of types: the plain laws. No program in sight. -/
namespace Go.Proofs.YtcnkfkjgpdmebaaGreatDoor
open Go.RowKit

/-- A byte of a number. -/
def chr (n : Nat) : UInt8 := UInt8.ofNat n
/-- A number's digits. -/
def digs (n : Nat) : Str := if n < 10 then [chr (48 + n)] else digs (n / 10) ++ [chr (48 + n % 10)]
termination_by n
theorem digs_lo {n : Nat} (h : n < 10) : digs n = [chr (48 + n)] := by rw [digs, if_pos h]
theorem digs_hi {n : Nat} (h : ¬ n < 10) : digs n = digs (n / 10) ++ [chr (48 + n % 10)] := by rw [digs, if_neg h]
theorem digs_len : ∀ (k n : Nat), n < 10 ^ (k + 1) → (digs n).length ≤ k + 1 := by
  intro k
  induction k with
  | zero => intro n h; rw [digs_lo (by omega)]; simp
  | succ k ih =>
    intro n h
    by_cases h1 : n < 10
    · rw [digs_lo h1]; simp
    · rw [digs_hi h1, List.length_append]
      have := ih (n / 10) (by rw [Nat.pow_succ] at h; omega)
      simp
      omega
theorem digs_pos (n : Nat) : 0 < (digs n).length := by
  by_cases h : n < 10
  · rw [digs_lo h]; simp
  · rw [digs_hi h]; simp
/-- A number's letter. -/
def letter (n : Int) : Str := if n < 0 then [] else chr (97 + n.toNat % 26) :: (if n < 26 then [] else digs (n.toNat / 26))
/-- A variable's text. -/
def varS (v : Int) : Str := if 0 ≤ v then letter v else 63 :: digs (-1 - v).toNat
/-- A digit? -/
def digB (b : UInt8) : Bool := decide (48 ≤ ((b.toNat : Nat) : Int)) && decide (((b.toNat : Nat) : Int) ≤ 57)
/-- The number of digits behind a number; none: it is too great. -/
def readGo : Nat → Str → Option Nat
  | n, [] => some n
  | n, b :: l => if n > (9223372036854775807 - (b.toNat - 48)) / 10 then none else readGo (10 * n + (b.toNat - 48)) l
theorem readGo_cons (n : Nat) (b : UInt8) (l : Str) : readGo n (b :: l) = if n > (9223372036854775807 - (b.toNat - 48)) / 10 then none else readGo (10 * n + (b.toNat - 48)) l := rfl
theorem readGo_nil (n : Nat) : readGo n [] = some n := rfl
/-- The number of digits, and the error. -/
def readI (s : Str) : Int × Int :=
  if s = [] ∨ s.all digB = false then (0, 5) else match readGo 0 s with
    | some n => ((n : Int), 0)
    | none => (0, 4)
theorem readI_bad {s : Str} (h : s.all digB = false) : readI s = (0, 5) := by unfold readI; rw [if_pos (.inr h)]
theorem readI_some {s : Str} {n : Nat} (h0 : s ≠ []) (h : s.all digB = true) (k : readGo 0 s = some n) : readI s = ((n : Int), 0) := by
  unfold readI
  rw [if_neg (by simp [h0, h]), k]
theorem readI_none {s : Str} (h0 : s ≠ []) (h : s.all digB = true) (k : readGo 0 s = none) : readI s = (0, 4) := by
  unfold readI
  rw [if_neg (by simp [h0, h]), k]
theorem readGo_le : ∀ (l : Str) (n m : Nat), l.all digB = true → n ≤ 9223372036854775807 → readGo n l = some m → m ≤ 9223372036854775807 := by
  intro l
  induction l with
  | nil => intro n m _ hn h; simp [readGo] at h; omega
  | cons b l ih =>
    intro n m hd hn h
    rw [List.all_cons, Bool.and_eq_true] at hd
    have h1 : 48 ≤ b.toNat ∧ b.toNat ≤ 57 := by have := hd.1; unfold digB at this; simp at this; omega
    unfold readGo at h
    split at h
    · cases h
    · exact ih _ m hd.2 (by omega) h
theorem readI_ok (s : Str) : 0 ≤ (readI s).1 ∧ (readI s).1 ≤ 9223372036854775807 := by
  unfold readI
  split
  · exact ⟨Int.le_refl _, by decide⟩
  · rename_i h
    simp only [not_or, Bool.not_eq_false] at h
    cases hg : readGo 0 s with
    | none => exact ⟨Int.le_refl _, by decide⟩
    | some n => exact ⟨by show (0 : Int) ≤ (n : Int); omega, by have := readGo_le s 0 n h.2 (by omega) hg; show (n : Int) ≤ _; omega⟩
/-- A fixed type's name? -/
def fixedB (s : Str) : Bool := !(s == []) && (s.headD 0 == 33) && ((readI (s.drop 1)).2 == 0) && (digs (readI (s.drop 1)).1.toNat == s.drop 1)
/-- In brackets, or not. -/
def brack (b : Bool) (s : Str) : Str := if b then [40] ++ s ++ [41] else s
/-- A type's text. -/
noncomputable def textT : Ty → Str := Ty.fold fun t (l : List Str) =>
  if t.con = [45, 62] ∧ t.args.length = 2 then brack (decide ((t.args.getD 0 Ty.zero).con = [45, 62])) (l.getD 0 []) ++ ([32, 45, 62, 32] : Str) ++ l.getD 1 []
  else (if t.con = [] then varS t.var else t.con) ++ ((t.args.zip l).map fun p => ([32] : Str) ++ brack (decide (0 < p.1.args.length)) p.2).flatten
theorem textT_fun {t : Ty} (h : t.con = [45, 62]) (h0 : 0 < t.args.length) (h1 : 1 < t.args.length) (h2 : t.args.length = 2) :
    textT t = brack (decide ((t.args[0]'h0).con = [45, 62])) (textT (t.args[0]'h0)) ++ ([32, 45, 62, 32] : Str) ++ textT (t.args[1]'h1) := by
  unfold textT
  rw [Ty.fold_eq, if_pos ⟨h, h2⟩]
  simp only [List.getD_eq_getElem?_getD, List.getElem?_map, List.getElem?_eq_getElem h0, List.getElem?_eq_getElem h1, Option.map_some, Option.getD_some]
noncomputable def restT (l : List Ty) : Str := (l.map fun a => ([32] : Str) ++ brack (decide (0 < a.args.length)) (textT a)).flatten
theorem zip_map_self {α β : Type} (l : List α) (f : α → β) : l.zip (l.map f) = l.map fun a => (a, f a) := by
  induction l with
  | nil => rfl
  | cons x l ih => simp [ih]
theorem textT_else {t : Ty} (h : ¬ (t.con = [45, 62] ∧ t.args.length = 2)) : textT t = (if t.con = [] then varS t.var else t.con) ++ restT t.args := by
  unfold textT
  rw [Ty.fold_eq, if_neg h]
  unfold restT
  congr 2
  rw [zip_map_self, List.map_map]
  rfl
theorem restT_take (l : List Ty) {k : Nat} (h : k < l.length) : restT (l.take (k + 1)) = restT (l.take k) ++ (([32] : Str) ++ brack (decide (0 < (l[k]'h).args.length)) (textT (l[k]'h))) := by
  unfold restT
  rw [List.take_succ_eq_append_getElem h, List.map_append, List.flatten_append]
  simp

end Go.Proofs.YtcnkfkjgpdmebaaGreatDoor
