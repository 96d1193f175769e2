/- What a proof is of; a proof with others in the place of what is given: the plain law. -/
import Derived.Test.YtpdcjjgkpbpleaaGreatDoorJP12
import Derived.Shelf.Abstract
import Derived.WalkSpells
import Derived.WalkLawsBesides
/- What a proof is of; a proof with others in the place of what is given: the plain law. -/
namespace Go.Proofs.YtpdcjjgkpbpleaaGreatDoor
open Go.RowKit

theorem legal_pure {t u : Ty} (h : t.pure = u.pure) : legalT t = legalT u := by
  obtain ⟨h1, h2⟩ := ty_sd t u h
  have h3 : shapeT t = shapeT u := by
    rw [Bool.eq_iff_iff]
    exact ⟨shape_pu t u h.symm, shape_pu u t h⟩
  unfold legalT
  rw [h1, h2, h3]
def PdEq (a b : Pd) : Prop := a.cls = b.cls ∧ a.ty.pure = b.ty.pure
theorem PdEq.legal {a b : Pd} (h : PdEq a b) : pdB a = pdB b := by unfold pdB; rw [h.1, legal_pure h.2]
theorem PdEq.refl (a : Pd) : PdEq a a := ⟨rfl, rfl⟩
theorem PdEq.trans {a b c : Pd} (h : PdEq a b) (k : PdEq b c) : PdEq a c := ⟨h.1.trans k.1, h.2.trans k.2⟩
theorem PdEq.symm {a b : Pd} (h : PdEq a b) : PdEq b a := ⟨h.1.symm, h.2.symm⟩

/-- The one at a number. -/
def atZ {α : Type} (l : List α) (n : Int) : Option α := if 0 ≤ n then l[n.toNat]? else none
theorem atZ_some {α : Type} {l : List α} {n : Int} {x : α} (h : atZ l n = some x) : 0 ≤ n ∧ n.toNat < l.length ∧ ∃ h : n.toNat < l.length, l[n.toNat]'h = x := by
  unfold atZ at h
  split at h
  · rename_i h0
    obtain ⟨h1, h2⟩ := List.getElem?_eq_some_iff.1 h
    exact ⟨h0, h1, h1, h2⟩
  · cases h
theorem atZ_mem {α : Type} {l : List α} {n : Int} {x : α} (h : atZ l n = some x) : x ∈ l := by
  obtain ⟨-, -, h1, h2⟩ := atZ_some h
  rw [← h2]
  exact List.getElem_mem h1
theorem atZ_nat {α : Type} (l : List α) (k : Nat) (h : k < l.length) : atZ l (k : Int) = some (l[k]'h) := by
  unfold atZ
  rw [if_pos (by omega)]
  simp [h]
theorem atZ_none {α : Type} {l : List α} {n : Int} (h : ¬ (0 ≤ n ∧ n < l.length)) : atZ l n = none := by
  unfold atZ
  split
  · rw [List.getElem?_eq_none (by omega)]
  · rfl

/-- Is a kid's predicate the one that an instance asks for? -/
noncomputable def wantB (types : List Ty) (x : Pd) (o : Option Pd) : Bool := match o with
  | some q => (q.cls == x.cls) && sameB q.ty (types.getD x.ty.var.toNat Ty.zero)
  | none => false
noncomputable def wantsB (types : List Ty) (ps : List Pd) (l : List (Option Pd)) : Bool := (ps.zip l).all fun p => wantB types p.1 p.2
noncomputable def instOkB (x : InD) (p : Pf) : Bool := instB x && decide ((p.types.length : Int) = x.n) && decide (p.kids.length = x.preds.length) && p.types.all legalT
noncomputable def instR (ins : List InD) (p : Pf) (l : List (Option Pd)) : Option Pd := (atZ ins p.n).bind fun x =>
  if (instOkB x p && wantsB p.types x.preds l) = true then some ⟨x.cls, .mk x.con 0 p.T p.tc p.types⟩ else none
def aboveR (cs : List KlD) (p : Pf) (l : List (Option Pd)) : Option Pd :=
  if p.kids.length = 1 ∧ p.types.length = 0 then (l.getD 0 none).bind fun q => (clF cs q.cls).bind fun c => (atZ c.sups p.n).map fun s => ⟨s, q.ty⟩ else none
def givenR (given : List Pd) (p : Pf) : Option Pd := if p.kids.length = 0 ∧ p.types.length = 0 then atZ given p.n else none
noncomputable def prv0 (cs : List KlD) (ins : List InD) (given : List Pd) (p : Pf) (l : List (Option Pd)) : Option Pd :=
  if p.kind = 1 then givenR given p else if p.kind = 2 then aboveR cs p l else if p.kind = 3 then instR ins p l else none
/-- What a proof is of. -/
noncomputable def prv (cs : List KlD) (ins : List InD) (given : List Pd) : Pf → Option Pd := Pf.fold fun p l => (prv0 cs ins given p l).filter pdB
theorem prv_eq (cs : List KlD) (ins : List InD) (given : List Pd) (p : Pf) : prv cs ins given p = (prv0 cs ins given p (p.kids.map (prv cs ins given))).filter pdB := by
  unfold prv; rw [Pf.fold_eq]
theorem prv_legal {cs : List KlD} {ins : List InD} {given : List Pd} {p : Pf} {q : Pd} (h : prv cs ins given p = some q) : pdB q = true := by
  rw [prv_eq] at h
  exact (Option.filter_eq_some_iff.1 h).2

/-! ### The same, in other memory -/
theorem pf_parts {p q : Pf} (h : p.pure = q.pure) : p.kind = q.kind ∧ p.n = q.n ∧ p.types.map Ty.pure = q.types.map Ty.pure ∧ p.kids.map Pf.pure = q.kids.map Pf.pure := by
  rw [Pf.pure_eq p, Pf.pure_eq q] at h
  injection h with h1 h2 h3 h4
  exact ⟨h1, h2, h3, h4⟩
theorem map_get {α β γ : Type} {f : α → γ} {g : β → γ} {l : List α} {m : List β} (h : l.map f = m.map g) {i : Nat} (h1 : i < l.length) (h2 : i < m.length) : f (l[i]'h1) = g (m[i]'h2) := by
  have : (l.map f)[i]? = (m.map g)[i]? := by rw [h]
  rw [List.getElem?_map, List.getElem?_map, List.getElem?_eq_getElem h1, List.getElem?_eq_getElem h2] at this
  simpa using this
theorem map_len {α β γ : Type} {f : α → γ} {g : β → γ} {l : List α} {m : List β} (h : l.map f = m.map g) : l.length = m.length := by simpa using congrArg List.length h
theorem legals_pure {l m : List Ty} (h : l.map Ty.pure = m.map Ty.pure) : l.all legalT = m.all legalT := by
  have hl := map_len h
  rw [Bool.eq_iff_iff, List.all_eq_true, List.all_eq_true]
  constructor
  · intro k x hx
    obtain ⟨i, h1, rfl⟩ := List.mem_iff_getElem.1 hx
    have h2 : i < l.length := by omega
    rw [← legal_pure (map_get h h2 h1)]
    exact k _ (List.getElem_mem h2)
  · intro k x hx
    obtain ⟨i, h1, rfl⟩ := List.mem_iff_getElem.1 hx
    have h2 : i < m.length := by omega
    rw [legal_pure (map_get h h1 h2)]
    exact k _ (List.getElem_mem h2)
/-- What is asked of a list of kids is told of another one that tells the same. -/
def OptLe (a b : Option Pd) : Prop := ∀ x, a = some x → ∃ y, b = some y ∧ PdEq x y
theorem want_le {types types' : List Ty} (ht : types.map Ty.pure = types'.map Ty.pure) {x : Pd} {a b : Option Pd} (h : OptLe a b) (hw : wantB types x a = true) : wantB types' x b = true := by
  cases a with
  | none => cases hw
  | some q =>
    obtain ⟨y, rfl, e1, e2⟩ := h q rfl
    unfold wantB at hw ⊢
    simp only [Bool.and_eq_true] at hw ⊢
    refine ⟨by rw [← e1]; exact hw.1, ?_⟩
    rw [sameB_iff] at hw ⊢
    rw [← e2, hw.2]
    have hl := map_len ht
    by_cases hi : x.ty.var.toNat < types.length
    · have hi' : x.ty.var.toNat < types'.length := by omega
      have := map_get ht hi hi'
      simpa [List.getD, hi, hi'] using this
    · have hi' : ¬ x.ty.var.toNat < types'.length := by omega
      simp [List.getD, List.getElem?_eq_none (Nat.le_of_not_lt hi), List.getElem?_eq_none (Nat.le_of_not_lt hi')]
theorem wants_le {types types' : List Ty} (ht : types.map Ty.pure = types'.map Ty.pure) {ps : List Pd} {l m : List (Option Pd)} (hl : l.length = m.length) (h : ∀ i (h1 : i < l.length) (h2 : i < m.length), OptLe (l[i]'h1) (m[i]'h2))
    (hw : wantsB types ps l = true) : wantsB types' ps m = true := by
  unfold wantsB at hw ⊢
  rw [List.all_eq_true] at hw ⊢
  intro p hp
  obtain ⟨i, h1, rfl⟩ := List.mem_iff_getElem.1 hp
  rw [List.length_zip] at h1
  have h2 : i < l.length := by omega
  have h3 : i < m.length := by omega
  have h4 : i < ps.length := by omega
  rw [List.getElem_zip]
  refine want_le ht (h i h2 h3) (hw (ps[i]'h4, l[i]'h2) ?_)
  rw [List.mem_iff_getElem]
  exact ⟨i, by rw [List.length_zip]; omega, List.getElem_zip⟩
/-- What is proved of a proof's parts is proved of another one's, that says the same. -/
theorem prv0_le {cs : List KlD} {ins : List InD} {given given' : List Pd} {p q : Pf} (hk : p.kind = q.kind) (hn : p.n = q.n) (ht : p.types.map Ty.pure = q.types.map Ty.pure) (hl : p.kids.length = q.kids.length)
    {l m : List (Option Pd)} (hlp : l.length = p.kids.length) (hml : m.length = q.kids.length) (h : ∀ i (h1 : i < l.length) (h2 : i < m.length), OptLe (l[i]'h1) (m[i]'h2)) (h1 : p.kind ≠ 1) :
    OptLe (prv0 cs ins given p l) (prv0 cs ins given' q m) := by
  intro a ha
  have htl := map_len ht
  unfold prv0 at ha ⊢
  rw [if_neg h1] at ha
  rw [if_neg (hk ▸ h1), ← hk]
  by_cases h2 : p.kind = 2
  · rw [if_pos h2] at ha ⊢
    unfold aboveR at ha ⊢
    split at ha
    · rename_i hc
      rw [if_pos ⟨by omega, by omega⟩]
      have e1 : 0 < l.length := by omega
      have e2 : 0 < m.length := by omega
      have eg : l.getD 0 none = l[0]'e1 := by simp [List.getD, e1]
      have em : m.getD 0 none = m[0]'e2 := by simp [List.getD, e2]
      rw [eg] at ha
      rw [em, ← hn]
      obtain ⟨x, hx, ha⟩ := Option.bind_eq_some_iff.1 ha
      obtain ⟨c, hc, ha⟩ := Option.bind_eq_some_iff.1 ha
      obtain ⟨s, hs, rfl⟩ := Option.map_eq_some_iff.1 ha
      obtain ⟨y, hy, e3, e4⟩ := h 0 e1 e2 x hx
      rw [e3] at hc
      refine ⟨⟨s, y.ty⟩, ?_, rfl, e4⟩
      rw [hy, Option.bind_some, hc, Option.bind_some, hs]
      rfl
    · cases ha
  · rw [if_neg h2] at ha ⊢
    split at ha
    · rename_i h3
      rw [if_pos h3]
      unfold instR at ha ⊢
      rw [← hn]
      obtain ⟨x, hx, ha⟩ := Option.bind_eq_some_iff.1 ha
      split at ha
      · rename_i hb
        rw [Bool.and_eq_true] at hb
        injection ha with ha
        subst ha
        refine ⟨⟨x.cls, .mk x.con 0 q.T q.tc q.types⟩, ?_, rfl, ?_⟩
        · rw [hx, Option.bind_some, if_pos]
          rw [Bool.and_eq_true]
          refine ⟨?_, wants_le ht (by omega) h hb.2⟩
          have := hb.1
          unfold instOkB at this ⊢
          rw [← htl, ← hl, ← legals_pure ht]
          exact this
        · rw [Ty.pure_eq, Ty.pure_eq]
          show Ty.Pure.mk _ _ (p.types.map Ty.pure) = Ty.Pure.mk _ _ (q.types.map Ty.pure)
          rw [ht]
          rfl
      · cases ha
    · cases ha
theorem filter_le {a b : Option Pd} (h : OptLe a b) : OptLe (a.filter pdB) (b.filter pdB) := by
  intro x hx
  obtain ⟨h1, h2⟩ := Option.filter_eq_some_iff.1 hx
  obtain ⟨y, rfl, e⟩ := h x h1
  exact ⟨y, by rw [Option.filter_some, if_pos (by rw [← e.legal]; exact h2)], e⟩
/-- A proof that says the same proves the same. -/
theorem prv_le (cs : List KlD) (ins : List InD) (given : List Pd) (p : Pf) : ∀ q : Pf, p.pure = q.pure → OptLe (prv cs ins given p) (prv cs ins given q) := by
  induction p using Pf.ind with
  | h p ih =>
  intro q hq
  obtain ⟨h1, h2, h3, h4⟩ := pf_parts hq
  rw [prv_eq, prv_eq]
  refine filter_le ?_
  have hl := map_len h4
  by_cases hk : p.kind = 1
  · intro a ha
    refine ⟨a, ?_, PdEq.refl a⟩
    unfold prv0 at ha ⊢
    rw [if_pos hk] at ha
    rw [if_pos (h1 ▸ hk)]
    unfold givenR at ha ⊢
    rw [← h2, ← hl, ← map_len h3]
    exact ha
  · refine prv0_le h1 h2 h3 hl (by simp) (by simp) (fun i k1 k2 => ?_) hk
    rw [List.getElem_map, List.getElem_map]
    exact ih _ (List.getElem_mem _) _ (map_get h4 _ _)

/-! ### Others in the place of what is given -/
/-- All that are told; none, if one is not. -/
def allSome {α : Type} : List (Option α) → Option (List α)
  | [] => some []
  | o :: l => o.bind fun x => (allSome l).map (x :: ·)
theorem allSome_snoc {α : Type} (l : List (Option α)) (o : Option α) : allSome (l ++ [o]) = (allSome l).bind fun m => o.map fun x => m ++ [x] := by
  induction l with
  | nil => cases o <;> rfl
  | cons x l ih =>
    cases x with
    | none => rfl
    | some x =>
      show (allSome (l ++ [o])).map _ = ((allSome l).map _).bind _
      rw [ih]
      cases allSome l with
      | none => rfl
      | some m => cases o <;> rfl
theorem allSome_len {α : Type} {l : List (Option α)} {m : List α} (h : allSome l = some m) : m.length = l.length := by
  induction l generalizing m with
  | nil => injection h with h; subst h; rfl
  | cons x l ih =>
    obtain ⟨y, -, h⟩ := Option.bind_eq_some_iff.1 h
    obtain ⟨k, hk, rfl⟩ := Option.map_eq_some_iff.1 h
    simp [ih hk]
theorem allSome_get {α : Type} {l : List (Option α)} {m : List α} (h : allSome l = some m) {i : Nat} (h1 : i < l.length) (h2 : i < m.length) : l[i]'h1 = some (m[i]'h2) := by
  induction l generalizing m i with
  | nil => cases h1
  | cons x l ih =>
    obtain ⟨y, rfl, h⟩ := Option.bind_eq_some_iff.1 h
    obtain ⟨k, hk, rfl⟩ := Option.map_eq_some_iff.1 h
    cases i with
    | zero => rfl
    | succ i => exact ih hk (by simpa using h1) (by simpa using h2)
theorem allSome_take_none {α : Type} {l : List (Option α)} (k : Nat) (h : allSome (l.take k) = none) : allSome l = none := by
  induction l generalizing k with
  | nil => rw [List.take_nil] at h; cases h
  | cons x l ih =>
    cases k with
    | zero => cases h
    | succ k =>
      cases x with
      | none => rfl
      | some x =>
        have h' : (allSome (l.take k)).map (x :: ·) = none := h
        show (allSome l).map _ = none
        rw [ih k (by simpa using h')]
        rfl
noncomputable def putK (l : List Pf) : Pf → Option Pf.Pure := Pf.fold fun p r =>
  if p.kind = 1 then (atZ l p.n).map Pf.pure else (allSome r).map fun ks => .mk p.kind p.n (p.types.map Ty.pure) ks
theorem putK_eq (l : List Pf) (p : Pf) : putK l p = if p.kind = 1 then (atZ l p.n).map Pf.pure else (allSome (p.kids.map (putK l))).map fun ks => .mk p.kind p.n (p.types.map Ty.pure) ks := by
  unfold putK; rw [Pf.fold_eq]
/-- How great it becomes. -/
noncomputable def putZ (l : List Pf) : Pf → Nat := Pf.fold fun p r => if p.kind = 1 then (match atZ l p.n with | some x => x.size | none => 0) else r.sum + 1
theorem putZ_eq (l : List Pf) (p : Pf) : putZ l p = if p.kind = 1 then (match atZ l p.n with | some x => x.size | none => 0) else (p.kids.map (putZ l)).sum + 1 := by
  unfold putZ; rw [Pf.fold_eq]
theorem size_pu (p : Pf) : ∀ q : Pf, p.pure = q.pure → p.size = q.size := by
  induction p using Pf.ind with
  | h p ih =>
  intro q h
  obtain ⟨-, -, -, h4⟩ := pf_parts h
  have hl := map_len h4
  rw [Pf.size_eq, Pf.size_eq]
  have e : p.kids.map Pf.size = q.kids.map Pf.size := List.ext_getElem (by simp [hl]) (fun i k1 k2 => by
    rw [List.getElem_map, List.getElem_map]
    exact ih _ (List.getElem_mem _) _ (map_get h4 _ _))
  rw [e]
/-- How great what is put is. -/
theorem put_is (l : List Pf) (p : Pf) : ∀ q : Pf, putK l p = some q.pure → q.size = putZ l p := by
  induction p using Pf.ind with
  | h p ih =>
  intro q h
  rw [putK_eq] at h
  rw [putZ_eq]
  by_cases hk : p.kind = 1
  · rw [if_pos hk] at h ⊢
    obtain ⟨x, hx, h⟩ := Option.map_eq_some_iff.1 h
    rw [hx]
    exact (size_pu x q h).symm
  · rw [if_neg hk] at h ⊢
    obtain ⟨ks, hks, h⟩ := Option.map_eq_some_iff.1 h
    rw [Pf.pure_eq q] at h
    injection h with e1 e2 e3 e4
    subst e4
    have hl := allSome_len hks
    rw [List.length_map, List.length_map] at hl
    rw [Pf.size_eq]
    have e : q.kids.map Pf.size = p.kids.map (putZ l) := List.ext_getElem (by simp [hl]) (fun i k1 k2 => by
      rw [List.getElem_map, List.getElem_map]
      rw [List.length_map] at k1 k2
      refine ih _ (List.getElem_mem _) _ ?_
      have := allSome_get hks (i := i) (by simpa using k2) (by simpa using k1)
      rwa [List.getElem_map, List.getElem_map] at this)
    rw [e]
/-- With proofs of what is given in its place it proves the same. -/
theorem cut_plain (cs : List KlD) (ins : List InD) (given mid : List Pd) (l : List Pf) (_hl : l.length = mid.length)
    (hm : ∀ i (h1 : i < l.length) (h2 : i < mid.length), ∃ x, prv cs ins given (l[i]'h1) = some x ∧ PdEq x (mid[i]'h2)) (p : Pf) :
    ∀ q : Pf, putK l p = some q.pure → OptLe (prv cs ins mid p) (prv cs ins given q) := by
  induction p using Pf.ind with
  | h p ih =>
  intro q hq
  rw [putK_eq] at hq
  by_cases hk : p.kind = 1
  · rw [if_pos hk] at hq
    obtain ⟨k, hx, hq⟩ := Option.map_eq_some_iff.1 hq
    intro a ha
    rw [prv_eq] at ha
    obtain ⟨ha, -⟩ := Option.filter_eq_some_iff.1 ha
    unfold prv0 givenR at ha
    rw [if_pos hk] at ha
    split at ha
    · obtain ⟨h0, -, h1, rfl⟩ := atZ_some hx
      obtain ⟨-, -, h2, rfl⟩ := atZ_some ha
      obtain ⟨x, e1, e2⟩ := hm _ h1 h2
      obtain ⟨y, e3, e4⟩ := prv_le cs ins given _ q hq x e1
      exact ⟨y, e3, e2.symm.trans e4⟩
    · cases ha
  · rw [if_neg hk] at hq
    obtain ⟨ks, hks, hq⟩ := Option.map_eq_some_iff.1 hq
    rw [Pf.pure_eq q] at hq
    injection hq with e1 e2 e3 e4
    subst e4
    have hl := allSome_len hks
    rw [List.length_map, List.length_map] at hl
    rw [prv_eq, prv_eq]
    refine filter_le (prv0_le e1 e2 e3 hl.symm (by simp) (by simp) (fun i k1 k2 => ?_) hk)
    rw [List.length_map] at k1 k2
    rw [List.getElem_map, List.getElem_map]
    refine ih _ (List.getElem_mem _) _ ?_
    have := allSome_get hks (i := i) (by simpa using k1) (by simpa using k2)
    rwa [List.getElem_map, List.getElem_map] at this
/-- What has a proof has all that it is put for. -/
theorem put_some (cs : List KlD) (ins : List InD) (mid : List Pd) (l : List Pf) (hl : l.length = mid.length) (p : Pf) : (prv cs ins mid p).isSome = true → (putK l p).isSome = true := by
  induction p using Pf.ind with
  | h p ih =>
  intro h
  obtain ⟨a, ha⟩ := Option.isSome_iff_exists.1 h
  rw [prv_eq] at ha
  obtain ⟨ha, -⟩ := Option.filter_eq_some_iff.1 ha
  rw [putK_eq]
  unfold prv0 at ha
  by_cases h1 : p.kind = 1
  · rw [if_pos h1] at ha ⊢
    unfold givenR at ha
    split at ha
    · obtain ⟨h0, h2, -⟩ := atZ_some ha
      have e : p.n = ((p.n.toNat : Nat) : Int) := by omega
      rw [e, atZ_nat l _ (by omega)]
      rfl
    · cases ha
  · rw [if_neg h1] at ha ⊢
    have hall : ∀ k ∈ p.kids, (prv cs ins mid k).isSome = true := by
      by_cases h2 : p.kind = 2
      · rw [if_pos h2] at ha
        unfold aboveR at ha
        split at ha
        · rename_i hc
          intro k hk
          obtain ⟨x, hx, -⟩ := Option.bind_eq_some_iff.1 ha
          obtain ⟨i, h3, rfl⟩ := List.mem_iff_getElem.1 hk
          obtain rfl : i = 0 := by omega
          have : (p.kids.map (prv cs ins mid)).getD 0 none = prv cs ins mid (p.kids[0]'h3) := by simp [List.getD, h3]
          rw [this] at hx
          rw [hx]
          rfl
        · cases ha
      · rw [if_neg h2] at ha
        split at ha
        · unfold instR at ha
          obtain ⟨x, -, ha⟩ := Option.bind_eq_some_iff.1 ha
          split at ha
          · rename_i hb
            rw [Bool.and_eq_true] at hb
            obtain ⟨hb1, hb2⟩ := hb
            unfold instOkB at hb1
            simp only [Bool.and_eq_true, decide_eq_true_eq] at hb1
            obtain ⟨⟨⟨-, -⟩, hlen⟩, -⟩ := hb1
            unfold wantsB at hb2
            rw [List.all_eq_true] at hb2
            intro k hk
            obtain ⟨i, h3, rfl⟩ := List.mem_iff_getElem.1 hk
            have h4 : i < x.preds.length := by omega
            have := hb2 (x.preds[i]'h4, prv cs ins mid (p.kids[i]'h3)) (by
              rw [List.mem_iff_getElem]
              exact ⟨i, by rw [List.length_zip, List.length_map]; omega, by rw [List.getElem_zip, List.getElem_map]⟩)
            cases e : prv cs ins mid (p.kids[i]'h3) with
            | none => simp only [] at this; rw [e] at this; cases this
            | some y => rfl
          · cases ha
        · cases ha
    have : ∀ ks : List Pf, (∀ k ∈ ks, (putK l k).isSome = true) → (allSome (ks.map (putK l))).isSome = true := by
      intro ks
      induction ks with
      | nil => intro _; rfl
      | cons x ks ih2 =>
        intro h
        obtain ⟨y, hy⟩ := Option.isSome_iff_exists.1 (h x (by simp))
        obtain ⟨z, hz⟩ := Option.isSome_iff_exists.1 (ih2 (fun k hk => h k (List.mem_cons_of_mem _ hk)))
        show ((putK l x).bind fun x => (allSome (ks.map (putK l))).map (x :: ·)).isSome = true
        rw [hy, hz]
        rfl
    rw [Option.isSome_map]
    exact this p.kids (fun k hk => ih k hk (hall k hk))

end Go.Proofs.YtpdcjjgkpbpleaaGreatDoor

/- Proofs in boxes; contracts: how great one is, whether they are not too great. (A program of ours has printed a part.) -/
namespace Go.Proofs.YtpdcjjgkpbpleaaGreatDoor
open Go.RowKit

/-- A proof in a box. -/
def FBox (w : World) (b : Nat) (t : Pf) : Prop := w.heap[b]? = some (.cells #[.int .i64 t.kind, .int .i64 t.n, .slice t.T t.types.length t.tc, .slice t.A t.kids.length t.cap] 31 (0, 0))
section
variable {w w' : World} {b : Nat} {t : Pf}
theorem FBox.new (w : World) (t : Pf) : FBox (w.alloc (.cells #[.int .i64 t.kind, .int .i64 t.n, .slice t.T t.types.length t.tc, .slice t.A t.kids.length t.cap] 31)) w.heap.size t := at_newB _ _ _ rfl
theorem FBox.lt (h : FBox w b t) : b < w.heap.size := lt_of_obj h
theorem FBox.ext (h : FBox w b t) (e : Ext w w') : FBox w' b t := (e.heap h.lt).trans h
theorem FBox.c0 (h : FBox w b t) : w.cell? ⟨b, 0, none⟩ = some (.int .i64 t.kind) := by unfold FBox at h; simp [World.cell?, h]
theorem FBox.c1 (h : FBox w b t) : w.cell? ⟨b, 1, none⟩ = some (.int .i64 t.n) := by unfold FBox at h; simp [World.cell?, h]
theorem FBox.c2 (h : FBox w b t) : w.cell? ⟨b, 2, none⟩ = some (.slice t.T t.types.length t.tc) := by unfold FBox at h; simp [World.cell?, h]
theorem FBox.c3 (h : FBox w b t) : w.cell? ⟨b, 3, none⟩ = some (.slice t.A t.kids.length t.cap) := by unfold FBox at h; simp [World.cell?, h]
theorem FBox.cells (h : FBox w b t) : w.cell? ⟨b, 0, none⟩ = some (.int .i64 t.kind) ∧ w.cell? ⟨b, 1, none⟩ = some (.int .i64 t.n) ∧ w.cell? ⟨b, 2, none⟩ = some (.slice t.T t.types.length t.tc) ∧ w.cell? ⟨b, 3, none⟩ = some (.slice t.A t.kids.length t.cap) := ⟨h.c0, h.c1, h.c2, h.c3⟩
theorem FBox.free (h : FBox w b t) (i : Nat) : w.frozen? ⟨b, i, none⟩ = false := by unfold FBox at h; simp [World.frozen?, h]
end

theorem dmaxF_take {l : List Pf} {k : Nat} (h : k < l.length) : ((l.take (k + 1)).map Pf.depth).foldr max 0 = max (((l.take k).map Pf.depth).foldr max 0) (l[k]'h).depth := by
  have ms : ∀ (l : List Nat) (x : Nat), (l ++ [x]).foldr max 0 = max (l.foldr max 0) x := by
    intro l x
    induction l with
    | nil => simp
    | cons y l ih => simp only [List.cons_append, List.foldr_cons, ih]; omega
  rw [List.take_succ_eq_append_getElem h, List.map_append, List.map_singleton, ms]

set_option maxRecDepth 10000 in
set_option maxHeartbeats 2000000 in
theorem l_count24 (t : Pf) : ∀ (L D : Int) (w : World), PfIn w t → -1000000 ≤ L → L ≤ 1000000 → -1000000 ≤ D → D ≤ 1000000 →
    Calls Tryz.prog 14 #[pfV t, .int .i64 L, .int .i64 D] w fun e w' => (∃ v : Int, e = .returned (.int .i64 v) ∧ LeftOk t.size t.depth L D v) ∧ Ext w w' := by
  induction t using Pf.ind with
  | h t ih =>
  intro L D w h h0 hL hD0 hD
  have IH := hide ih
  have Hk := hide h.all
  have hle := h.hd.le
  have hmx := h.hd.max
  have HB0 := hide (FBox.new w t)
  have X0 : Hid (Ext w (w.alloc (.cells #[.int .i64 t.kind, .int .i64 t.n, .slice t.T t.types.length t.tc, .slice t.A t.kids.length t.cap] 31))) := hide ((Ext.refl w).alloc _)
  have HS : Hid (t.size = psizes t.kids + 1) := hide (Pf.size_eq t)
  have HD : Hid (t.depth = (t.kids.map Pf.depth).foldr max 0 + 1) := hide (Pf.depth_eq t)
  have HSt := hide (fun k (hk : k < t.kids.length) => psizes_take t.kids hk)
  have HDt := hide (fun k (hk : k < t.kids.length) => dmaxF_take (l := t.kids) hk)
  clear ih h
  unfold pfV
  by_cases hd : D < 1
  · go_enter Tryz.func14, Tryz.ntmps14
    go_wp2
    go_ret
    exact ⟨⟨-1, rfl, .inr (by omega), .inl (by omega), fun h => by omega⟩, X0.out⟩
  go_enter Tryz.func14, Tryz.ntmps14
  go_wp2
  generalize (w.alloc (.cells #[.int .i64 t.kind, .int .i64 t.n, .slice t.T t.types.length t.tc, .slice t.A t.kids.length t.cap] 31)) = w0 at *
  go_loopw [1, 7] (fun v i wr => ∃ (k : Nat) (V : Int), k ≤ t.kids.length ∧ i = .int .i64 k ∧ v = .int .i64 V ∧ (V ≤ L - 1 ∨ V ≤ -1) ∧ (-1 ≤ V ∨ L - 1 ≤ V) ∧ Hid (0 ≤ V → V = L - 1 - psizes (t.kids.take k) ∧ ((((t.kids.take k).map Pf.depth).foldr max 0 : Nat) : Int) + 1 ≤ D) ∧ Hid (Ext w0 wr)) (fun _ i _ => t.kids.length - (intOf i).toNat)
  case atStart => exact ⟨0, L - 1, Nat.zero_le _, rfl, rfl, by omega, by omega, hide (fun _ => by simp [psizes]; omega), hide (Ext.refl _)⟩
  case round =>
    obtain ⟨k, V, hk, rfl, rfl, hV1, hV2, HV, HX⟩ := hrel
    have HB := hide (HB0.out.ext HX.out)
    have hc3 := HB.out.c3
    by_cases hlt : k < t.kids.length
    · have hlt' : (k : Int) < (t.kids.length : Int) := by omega
      have hk0 : (0 : Int) ≤ (k : Int) := by omega
      by_cases hv0 : 0 ≤ V
      · obtain ⟨b, o, hA, hb, q0, q1, q2, q3⟩ := (Hk.out.ext (X0.out.trans HX.out)).at_ hlt
        have HC := hide (IH.out _ (List.getElem_mem hlt) V (D - 1) wr ((Hk.out.kids _ (List.getElem_mem hlt)).ext (X0.out.trans HX.out)) (by omega) (by omega) (by omega) (by omega))
        have Hst := hide (HSt.out k hlt)
        have Hdt := hide (HDt.out k hlt)
        rw [hA] at hc3; clear hA
        generalize t.kids[k]'hlt = c at *
        generalize psizes (t.kids.take k) = s at *
        generalize ((t.kids.take k).map Pf.depth).foldr max 0 = d at *
        go_wp2_with fail
        refine HC.out.mono ?_
        rintro e w3 ⟨⟨v, rfl, hv⟩, hx3⟩
        have X3 := hide (HX.out.trans hx3)
        have Hv := hide hv
        clear hx3 hv
        go_wp2
        go_roundw
        case rel =>
          obtain ⟨a1, a2, a3⟩ := Hv.out
          have a4 := HV.out
          exact ⟨k + 1, v, hlt, by go_num, rfl, by omega, by omega, hide (fun hv => by rw [Hst.out, Hdt.out]; obtain ⟨b1, b2⟩ := a3 hv; obtain ⟨b3, b4⟩ := a4 hv0; omega), X3⟩
        case measure => simp [intOf]; omega
      · go_wp2
        go_ret
        exact ⟨⟨V, rfl, hV1, hV2, fun h => absurd h (by omega)⟩, X0.out.trans HX.out⟩
    · have hge : ¬ (k : Int) < (t.kids.length : Int) := by omega
      have hS : psizes (t.kids.take k) = psizes t.kids := by rw [List.take_of_length_le (by omega)]
      have hT : t.kids.take k = t.kids := List.take_of_length_le (by omega)
      have HF : Hid (LeftOk t.size t.depth L D V) := hide ⟨hV1, hV2, fun h => by have := HV.out h; rw [HS.out, HD.out]; rw [hT] at this; omega⟩
      clear hS hT HV
      go_wp2
      go_ret
      exact ⟨⟨V, rfl, HF.out⟩, X0.out.trans HX.out⟩

set_option maxRecDepth 10000 in
set_option maxHeartbeats 1000000 in
theorem l_few24 (A : Option Addr) (cap : Nat) (l : List Pf) (w : World) (h : PfsIn w A l) (hle : l.length ≤ 100000) :
    Calls Tryz.prog 6 #[.slice A l.length cap] w fun e w' => (∃ r : Int, e = .returned (.int .i64 r) ∧ (r = 0 ∨ (r = 1 ∧ psizes l ≤ 3000 ∧ ∀ t ∈ l, t.depth ≤ 200))) ∧ Ext w w' := by
  have HL := hide h
  have HSt := hide (fun k (hk : k < l.length) => psizes_take l hk)
  clear h
  go_enter Tryz.func6, Tryz.ntmps6
  go_wp2
  go_loopw [3, 4] (fun v i wr => ∃ (k : Nat) (V : Int), k ≤ l.length ∧ i = .int .i64 k ∧ v = .int .i64 V ∧ V ≤ 3000 ∧ -1 - (k : Int) ≤ V ∧ Hid (0 ≤ V → V = 3000 - psizes (l.take k) ∧ ∀ t ∈ l.take k, t.depth ≤ 200) ∧ Hid (Ext w wr)) (fun _ i _ => l.length - (intOf i).toNat)
  case atStart => exact ⟨0, 3000, Nat.zero_le _, rfl, rfl, by omega, by omega, hide (fun _ => by simp [psizes]), hide (Ext.refl _)⟩
  case round =>
    obtain ⟨k, V, hk, rfl, rfl, hV1, hV2, HV, HX⟩ := hrel
    by_cases hlt : k < l.length
    · have hlt' : (k : Int) < (l.length : Int) := by omega
      have hk0 : (0 : Int) ≤ (k : Int) := by omega
      obtain ⟨b, o, rfl, hb, q0, q1, q2, q3⟩ := (HL.out.ext HX.out).at_ hlt
      have HC := hide (l_count24 (l[k]'hlt) V 200 wr ((HL.out.kids _ (List.getElem_mem hlt)).ext HX.out) (by omega) (by omega) (by omega) (by omega))
      have Hst := hide (HSt.out k hlt)
      have Htk : Hid (l.take (k + 1) = l.take k ++ [l[k]'hlt]) := hide (List.take_succ_eq_append_getElem hlt)
      generalize l[k]'hlt = c at *
      go_wp2_with fail
      refine HC.out.mono ?_
      rintro e w3 ⟨⟨v, rfl, hv⟩, hx3⟩
      have X3 := hide (HX.out.trans hx3)
      have Hv := hide hv
      clear hx3 hv
      go_wp2
      go_roundw
      case rel =>
        obtain ⟨a1, a2, a3⟩ := Hv.out
        have a4 := HV.out
        exact ⟨k + 1, v, hlt, by go_num, rfl, by omega, by omega, hide (fun hv => by
          obtain ⟨b1, b2⟩ := a3 hv
          obtain ⟨b3, b4⟩ := a4 (by omega)
          rw [Hst.out]
          refine ⟨by omega, fun t ht => ?_⟩
          rw [Htk.out, List.mem_append, List.mem_singleton] at ht
          rcases ht with ht | rfl
          · exact b4 t ht
          · omega), X3⟩
      case measure => simp [intOf]; omega
    · have hge : ¬ (k : Int) < (l.length : Int) := by omega
      have HF : Hid (0 ≤ V → psizes l ≤ 3000 ∧ ∀ t ∈ l, t.depth ≤ 200) := hide (fun h => by
        have := HV.out h
        rw [List.take_of_length_le (by omega)] at this
        exact ⟨by omega, this.2⟩)
      clear HV
      by_cases hv : V < 0
      · go_wp2
        go_ret
        exact ⟨⟨0, rfl, .inl rfl⟩, HX.out⟩
      · go_wp2
        go_ret
        exact ⟨⟨1, rfl, .inr ⟨rfl, HF.out (by omega)⟩⟩, HX.out⟩


set_option maxRecDepth 10000 in
set_option maxHeartbeats 2000000 in
theorem f_size24 (t : Pf) : ∀ (w : World), PfIn w t → t.size ≤ 1000000 →
    Calls Tryz.prog 18 #[pfV t] w fun e w' => e = .returned (.int .i64 (t.size : Int)) ∧ Ext w w' := by
  induction t using Pf.ind with
  | h t ih =>
  intro w h hsz
  have IH := hide ih
  have Hk := hide h.all
  have hle := h.hd.le
  have hmx := h.hd.max
  have HB0 := hide (FBox.new w t)
  have X0 : Hid (Ext w (w.alloc (.cells #[.int .i64 t.kind, .int .i64 t.n, .slice t.T t.types.length t.tc, .slice t.A t.kids.length t.cap] 31))) := hide ((Ext.refl w).alloc _)
  have HS : Hid (t.size = psizes t.kids + 1) := hide (Pf.size_eq t)
  have HSt := hide (fun k (hk : k < t.kids.length) => psizes_take t.kids hk)
  have HSl := hide (fun k => psizes_le t.kids k)
  have HSz := hide (fun k (hk : k ∈ t.kids) => Pf.size_kid hk)
  clear ih h
  unfold pfV at *
  go_enter Tryz.func18, Tryz.ntmps18
  have hc3 := HB0.out.c3
  go_wp2
  clear hc3
  generalize (w.alloc (.cells #[.int .i64 t.kind, .int .i64 t.n, .slice t.T t.types.length t.tc, .slice t.A t.kids.length t.cap] 31)) = w0 at *
  go_loopw [3, 9] (fun v i wr => ∃ k : Nat, k ≤ t.kids.length ∧ i = .int .i64 k ∧ v = .int .i64 ((psizes (t.kids.take k) + 1 : Nat) : Int) ∧ Hid (Ext w0 wr)) (fun _ i _ => t.kids.length - (intOf i).toNat)
  case atStart => exact ⟨0, Nat.zero_le _, rfl, rfl, hide (Ext.refl _)⟩
  case round =>
    obtain ⟨k, hk, rfl, rfl, HX⟩ := hrel
    by_cases hlt : k < t.kids.length
    · have hlt' : (k : Int) < (t.kids.length : Int) := by omega
      have hk0 : (0 : Int) ≤ (k : Int) := by omega
      obtain ⟨b, o, hA, hb, q0, q1, q2, q3⟩ := (Hk.out.ext (X0.out.trans HX.out)).at_ hlt
      have hkm := List.getElem_mem hlt
      have Hst := hide (HSt.out k hlt)
      have hs1 := HSl.out (k + 1)
      rw [Hst.out] at hs1
      have hS := HS.out
      have hcs := HSz.out _ hkm
      have HC := hide (IH.out _ hkm (wr.alloc (.cells #[.int .i64 (t.kids[k]'hlt).kind, .int .i64 (t.kids[k]'hlt).n, .slice (t.kids[k]'hlt).T (t.kids[k]'hlt).types.length (t.kids[k]'hlt).tc, .slice (t.kids[k]'hlt).A (t.kids[k]'hlt).kids.length (t.kids[k]'hlt).cap] 31)) (((Hk.out.kids _ hkm).ext (X0.out.trans HX.out)).ext ((Ext.refl _).alloc _)) (by omega))
      rw [hA]; clear hA hkm
      generalize t.kids[k]'hlt = c at *
      generalize psizes (t.kids.take k) = s at *
      go_wp2_with fail
      refine HC.out.mono ?_
      rintro e w3 ⟨rfl, hx3⟩
      have X3 := hide ((HX.out.alloc _).trans hx3)
      clear hx3
      go_wp2
      go_roundw
      case rel => exact ⟨k + 1, hlt, by go_num, by rw [Hst.out]; exact congrArg (Value.int .i64) (by omega), X3⟩
      case measure => simp [intOf]; omega
    · have hge : ¬ (k : Int) < (t.kids.length : Int) := by omega
      have hR : psizes (t.kids.take k) + 1 = t.size := by rw [HS.out, List.take_of_length_le (by omega)]
      rw [hR]
      clear hR
      go_wp2
      go_ret
      exact ⟨rfl, X0.out.trans HX.out⟩

end Go.Proofs.YtpdcjjgkpbpleaaGreatDoor

/- Contracts: whether a type, a predicate, is a term, of whatever size; of the program. (A program of ours has printed this.) -/
namespace Go.Proofs.YtpdcjjgkpbpleaaGreatDoor
open Go.RowKit Go.Shelf

set_option maxRecDepth 10000 in
set_option maxHeartbeats 2000000 in
theorem t_walkU (f : FuncId) (lb : Array Value) (ef : Opens f) (w0 : World) (c : Nat) (J Jx : List (Nat × Ty) → World → Value → Prop)
    (hJe : ∀ pre w w' v, J pre w v → Ext w w' → J pre w' v)
    (hJl : ∀ pre w v, J pre w v → w0.heap.size ≤ c ∧ c < w.heap.size ∧ ∀ k, v.ownBlock = some k → w0.heap.size ≤ k ∧ k < w.heap.size)
    (hY : ∀ pre (x : Nat × Ty) w v, J pre w v → x.1 ≤ 1000000 → TyIn w x.2 → Calls Tryz.prog f (#[tyV x.2, .int .i64 (x.1 : Nat)] ++ lb) w fun e w' =>
      ∃ v', Tr c w v w' v' ∧ ((e = .returned (.bool true) ∧ J (pre ++ [x]) w' v') ∨ (e = .returned (.bool false) ∧ Jx (pre ++ [x]) w' v')))
    (hJd : ∀ pre (x : Nat × Ty) w v, J (pre ++ [x]) w v → x.1 ≤ 1000) (t : Ty) :
    ∀ (d : Nat) (pre : List (Nat × Ty)) (w : World) (v : Value), TyIn w0 t → Below w0.heap.size w0 w → J pre w v → d ≤ 1000000 →
      Calls Tryz.prog 57 #[tyV t, .int .i64 d, .func (.func f) #[] lb] w fun e w' => ∃ v', Tr c w v w' v' ∧ ((e = .returned (.bool true) ∧ J (pre ++ t.lev d) w' v') ∨ (e = .returned (.bool false) ∧ ∃ q, q <+: t.lev d ∧ Jx (pre ++ q) w' v')) := by
  induction t using Ty.ind with
  | h t ih =>
  intro d pre w v ht hB hJ hsz
  have IH := hide ih
  have Hk := hide ht.all
  have hle := ht.le
  have hmx := ht.max
  have HB0 := hide (TBox.new w t)
  have X0 : Ext w (w.alloc (.cells #[encStr t.con, .int .i64 t.var, .slice t.A t.args.length t.cap] 37)) := (Ext.refl w).alloc _
  have hlv := tlev_eq t d
  have hJ0 := hJe _ _ _ _ hJ X0
  have hl0 := hJl _ _ _ hJ
  have HC := hide (hY pre (d, t) _ v hJ0 (by show d ≤ 1000000; omega) ((ht.old hB).ext X0))
  have HBw := hide hB
  have HLt := hide (fun k (hk : k < t.args.length) => tlevs_take t.args (d + 1) hk)
  have HLp := hide (fun k => tlevs_split t.args (d + 1) k)
  have HLv := hide hlv
  have HvB : Hid (∀ k, v.ownBlock = some k → w0.heap.size ≤ k) := hide (fun k e => (hl0.2.2 k e).1)
  have HJe := hide hJe
  have HJl := hide hJl
  have HJd := hide hJd
  have T0 : Hid (Tr c w v (w.alloc (.cells #[encStr t.con, .int .i64 t.var, .slice t.A t.args.length t.cap] 37)) v) := hide (Tr.of_ext X0)
  unfold Opens at ef
  have hne : w.heap.size ≠ c := by omega
  have hnv : v.ownBlock ≠ some w.heap.size := fun e => by have := (hl0.2.2 _ e).2; omega
  clear ih hB hJ hJ0 hlv hY hJe hJl hJd ht hl0 X0
  unfold tyV at *
  dsimp only at HC
  generalize hA0 : t.A = A0 at *
  have HA0 := hide hA0
  clear hA0
  go_enter Tryz.func57, Tryz.ntmps57
  go_wp2_with fail
  refine HC.out.mono ?_
  rintro e w2 ⟨v2, ht2, (⟨rfl, hJ2⟩ | ⟨rfl, hJx⟩)⟩
  · have T2 := hide (T0.out.trans ht2)
    have HB2 := hide (HB0.out.tr ht2 hne hnv)
    have hdd : d ≤ 1000 := HJd.out _ _ _ _ hJ2
    have HJ2 := hide hJ2
    clear ht2 hJ2 T0 HC
    have hc2 := HB2.out.c2
    rw [HA0.out] at hc2
    go_wp2
    go_loopw [17] (fun i wr => ∃ (k : Nat) (v3 : Value), k ≤ t.args.length ∧ i = .int .i64 k ∧ Hid (J (pre ++ (d, t) :: tlevs (t.args.take k) (d + 1)) wr v3) ∧ Hid (Tr c w v wr v3) ∧ Hid (Tr c w2 v2 wr v3)) (fun i _ => t.args.length - (intOf i).toNat)
    case atStart => exact ⟨0, v2, Nat.zero_le _, rfl, hide (by simpa [tlevs] using HJ2.out), T2, hide (Tr.refl _ _ _)⟩
    case round =>
      obtain ⟨k, v3, hk, rfl, HJ, HT, HT2⟩ := hrel
      by_cases hlt : k < t.args.length
      · have hlt' : (k : Int) < (t.args.length : Int) := by omega
        have hk0 : (0 : Int) ≤ (k : Int) := by omega
        have hj0 := HJl.out _ _ _ HJ.out
        have hjw := HJl.out _ _ _ HJ2.out
        have HKw : Hid (Below w0.heap.size w0 wr) := hide (HBw.out.trans (HT.out.below (by have := HBw.out.size; omega) hj0.1 (fun k hk => (HvB.out k hk))))
        obtain ⟨b, o, rfl, hb, q0, q1, q2⟩ := (Hk.out.old HKw.out).at_ hlt
        have hck := List.getElem_mem hlt
        have Hlt := hide (HLt.out k hlt)
        have HC := hide (IH.out _ hck (d + 1) _ (wr.alloc (.cells #[encStr (t.args[k]'hlt).con, .int .i64 (t.args[k]'hlt).var, .slice (t.args[k]'hlt).A (t.args[k]'hlt).args.length (t.args[k]'hlt).cap] 37)) v3 (Hk.out.args _ hck) (HKw.out.alloc (by have := HKw.out.size; omega) _) (HJe.out _ _ _ _ HJ.out ((Ext.refl _).alloc _)) (by omega))
        have T3 : Hid (Tr c w v (wr.alloc (.cells #[encStr (t.args[k]'hlt).con, .int .i64 (t.args[k]'hlt).var, .slice (t.args[k]'hlt).A (t.args[k]'hlt).args.length (t.args[k]'hlt).cap] 37)) v3) := hide (HT.out.trans (Tr.of_ext ((Ext.refl _).alloc _)))
        have T23 : Hid (Tr c w2 v2 (wr.alloc (.cells #[encStr (t.args[k]'hlt).con, .int .i64 (t.args[k]'hlt).var, .slice (t.args[k]'hlt).A (t.args[k]'hlt).args.length (t.args[k]'hlt).cap] 37)) v3) := hide (HT2.out.trans (Tr.of_ext ((Ext.refl _).alloc _)))
        have Hpl := hide (HLp.out k)
        have Hpd : Hid (tlevs (t.args.drop k) (d + 1) = (t.args[k]'hlt).lev (d + 1) ++ tlevs (t.args.drop (k + 1)) (d + 1)) := hide (by unfold tlevs; rw [List.drop_eq_getElem_cons hlt]; rfl)
        clear hck hj0 hjw
        generalize t.args[k]'hlt = x at *
        have hd1 : (d : Int) + 1 ≤ 2000000 := by omega
        have hd0 : (0 : Int) ≤ (d : Int) := by omega
        go_wp2_with fail
        refine HC.out.mono ?_
        rintro e w4 ⟨v4, ht4, (⟨rfl, hJ4⟩ | ⟨rfl, q, hq, hJx4⟩)⟩
        · have T4 := hide (T3.out.trans ht4)
          have T24 := hide (T23.out.trans ht4)
          have HJ4 := hide hJ4
          clear hJ4 ht4
          go_wp2
          go_roundw
          case rel => exact ⟨k + 1, v4, hlt, by go_num, hide (by rw [Hlt.out]; simpa using HJ4.out), T4, T24⟩
          case measure => simp [intOf]; omega
        · have T4 := hide (T3.out.trans ht4)
          clear ht4
          go_wp2
          go_ret
          refine ⟨v4, T4.out, .inr ⟨rfl, (d, t) :: tlevs (t.args.take k) (d + 1) ++ q, ?_, by simpa using hJx4⟩⟩
          obtain ⟨r, hr⟩ := hq
          rw [HLv.out, Hpl.out, Hpd.out, ← hr]
          exact ⟨r ++ tlevs (t.args.drop (k + 1)) (d + 1), by simp⟩
      · have hge : ¬ (k : Int) < (t.args.length : Int) := by omega
        have hkk : t.args.take k = t.args := List.take_of_length_le (by omega)
        have HF : Hid (J (pre ++ t.lev d) wr v3) := hide (by have := HJ.out; rw [hkk, ← HLv.out] at this; exact this)
        clear hkk
        go_wp2
        go_ret
        exact ⟨v3, HT.out, .inl ⟨rfl, HF.out⟩⟩
  · have T2 := hide (T0.out.trans ht2)
    clear ht2
    go_wp2
    go_ret
    exact ⟨v2, T2.out, .inr ⟨rfl, [(d, t)], by rw [HLv.out]; exact ⟨_, rfl⟩, hJx⟩⟩

set_option maxRecDepth 10000 in
set_option maxHeartbeats 2000000 in
theorem t_legalU (t : Ty) (w : World) (h : TyIn w t) : Calls Tryz.prog 32 #[tyV t] w fun e w' => e = .returned (.bool (legalT t)) ∧ Ext w w' := by
  have HB := hide (TBox.new w t)
  have X1 : Ext w ((w.alloc (.cells #[encStr t.con, .int .i64 t.var, .slice t.A t.args.length t.cap] 37)).alloc (.cells #[.int .i64 0] 3)) := ((Ext.refl w).alloc _).alloc _
  have hs : (w.alloc (.cells #[encStr t.con, .int .i64 t.var, .slice t.A t.args.length t.cap] 37)).heap.size = w.heap.size + 1 := by simp
  have hc : ((w.alloc (.cells #[encStr t.con, .int .i64 t.var, .slice t.A t.args.length t.cap] 37)).alloc (.cells #[.int .i64 0] 3)).heap[w.heap.size + 1]? = some (.cells #[.int .i64 0] 3 (0, 0)) := by
    have := at_newB (w.alloc (.cells #[encStr t.con, .int .i64 t.var, .slice t.A t.args.length t.cap] 37)) (.cells #[Value.int .i64 0] 3) (w.heap.size + 1) hs.symm
    exact this
  have HW := hide (t_walkU 58 #[.pointer (some ⟨w.heap.size + 1, 0, none⟩)] tlegal1_opens w (w.heap.size + 1)
    (fun pre w' v => v = .bool false ∧ w'.heap[w.heap.size + 1]? = some (.cells #[.int .i64 pre.length] 3 (0, 0)) ∧ pre.length ≤ 4096 ∧ ∀ p ∈ pre, okP p = true)
    (fun pre _ _ => ¬ (pre.length ≤ 4096 ∧ ∀ p ∈ pre, okP p = true))
    (fun pre w1 w2 v hj e => ⟨hj.1, (e.heap (lt_of_obj hj.2.1)).trans hj.2.1, hj.2.2⟩)
    (fun pre w1 v hj => ⟨by omega, lt_of_obj hj.2.1, fun k hk => by rw [hj.1] at hk; cases hk⟩)
    (fun pre x w1 v hj hx ht => by
      obtain ⟨rfl, hcell, hlen, hall⟩ := hj
      refine (t_legal1 x.2 x.1 pre.length (w.heap.size + 1) w1 ht hcell (by omega)).mono ?_
      rintro e w2 ⟨rfl, hc2, hT⟩
      refine ⟨.bool false, hT, ?_⟩
      by_cases hok : pre.length + 1 ≤ 4096 ∧ okP x = true
      · left
        refine ⟨?_, rfl, by rw [List.length_append]; exact hc2, by rw [List.length_append]; exact hok.1, ?_⟩
        · have h2 := hok.2
          unfold okP at h2
          rw [Bool.and_assoc, h2, Bool.and_true, decide_eq_true hok.1]
        · intro p hp
          rcases List.mem_append.1 hp with hp | hp
          · exact hall p hp
          · rw [List.mem_singleton] at hp; rw [hp]; exact hok.2
      · right
        refine ⟨?_, ?_⟩
        · have : (decide (pre.length + 1 ≤ 4096) && (decide (x.1 ≤ 100) && headOk x.2.con x.2.var x.2.args.length)) = false := by
            rw [← Bool.not_eq_true, Bool.and_eq_true, decide_eq_true_eq]
            exact hok
          rw [Bool.and_assoc, this]
        · rintro ⟨h1, h2⟩
          rw [List.length_append] at h1
          exact hok ⟨h1, h2 x (by simp)⟩)
    (fun pre x _ _ hj => by
      have := hj.2.2.2 x (by simp)
      unfold okP at this
      rw [Bool.and_eq_true, decide_eq_true_eq] at this
      omega)
    t 1 [] ((w.alloc (.cells #[encStr t.con, .int .i64 t.var, .slice t.A t.args.length t.cap] 37)).alloc (.cells #[.int .i64 0] 3)) (.bool false) h X1.below ⟨rfl, hc, by decide, by simp⟩ (by omega))
  have HL := hide (legalT_lev t)
  have HX := hide X1
  clear h hc hs X1
  generalize legalT t = R at *
  unfold tyV at *
  go_enter Tryz.func32, Tryz.ntmps32
  go_wp2_with fail
  refine HW.out.mono ?_
  rintro e w2 ⟨v2, hT, (⟨rfl, hj⟩ | ⟨rfl, q, hq, hx⟩)⟩
  · have HE := hide (Ext.of_below (HX.out.below.trans (hT.below HX.out.size (by omega) (fun k e => by cases e))) (Nat.le_refl _))
    have HR := hide (HL.out.2 ⟨hj.2.2.1, hj.2.2.2⟩)
    clear hT hj
    go_wp2
    go_ret
    exact ⟨by rw [HR.out]; rfl, HE.out⟩
  · have HE := hide (Ext.of_below (HX.out.below.trans (hT.below HX.out.size (by omega) (fun k e => by cases e))) (Nat.le_refl _))
    have HR : Hid (R = false) := hide (by
      rw [← Bool.not_eq_true]
      intro h
      obtain ⟨h1, h2⟩ := HL.out.1 h
      obtain ⟨r, hr⟩ := hq
      have h3 : q.length ≤ 4096 := by rw [← hr, List.length_append] at h1; omega
      exact hx ⟨by simpa using h3, fun p hp => h2 p (by rw [← hr]; exact List.mem_append_left _ (by simpa using hp))⟩)
    clear hT hx hq
    go_wp2
    go_ret
    exact ⟨by rw [HR.out]; rfl, HE.out⟩

set_option maxRecDepth 10000 in
set_option maxHeartbeats 1000000 in
theorem p_legalU (p : Pd) (w : World) (h : PdIn w p) : Calls Tryz.prog 42 #[pdV p] w fun e w' => e = .returned (.bool (pdB p)) ∧ Ext w w' := by
  have X0 : Hid (Ext w (w.alloc (.cells #[encStr p.cls, encStr p.ty.con, .int .i64 p.ty.var, .slice p.ty.A p.ty.args.length p.ty.cap] 39))) := hide ((Ext.refl w).alloc _)
  have HB := hide (PdBox.new w p)
  obtain ⟨c0, c1, c2, c3⟩ := HB.out.cells
  have HN := hide (fun w' => hide (n_con p.cls w' (by have := h.cls; omega)))
  have HL := hide (fun w' (e : Ext w w') => hide (t_legalU p.ty w' (h.ty.ext e)))
  have HP : Hid (pdB p = (conB p.cls && legalT p.ty)) := hide rfl
  clear h
  unfold pdV tyV at *
  generalize pdB p = R at *
  cases hb : conB p.cls
  · rw [hb] at HN HP
    have hR : R = false := by rw [HP.out]; rfl
    clear HP
    subst hR
    go_enter Tryz.func42, Tryz.ntmps42
    go_wp2_with fail
    refine (HN.out _).out.mono ?_
    rintro e w2 ⟨rfl, rfl⟩
    go_wp2
    go_ret
    exact ⟨rfl, X0.out⟩
  · rw [hb] at HN HP
    have hR : R = legalT p.ty := by rw [HP.out]; rfl
    clear HP
    subst hR
    go_enter Tryz.func42, Tryz.ntmps42
    go_wp2_with fail
    refine (HN.out _).out.mono ?_
    rintro e w2 ⟨rfl, rfl⟩
    go_wp2_with fail
    refine (HL.out _ X0.out).out.mono ?_
    rintro e w3 ⟨rfl, hx⟩
    go_wp2
    go_ret
    exact ⟨rfl, X0.out.trans hx⟩

set_option maxRecDepth 10000 in
set_option maxHeartbeats 1000000 in
theorem r_legal20U (p : Pd) (w : World) (h : PdIn w p) (hsz : p.ty.size ≤ 900000) : Calls Tryz.prog 51 #[pdV p] w fun e w' => e = .returned (.bool (pdB p)) ∧ Ext w w' := by
  have X0 : Hid (Ext w (w.alloc (.cells #[encStr p.cls, encStr p.ty.con, .int .i64 p.ty.var, .slice p.ty.A p.ty.args.length p.ty.cap] 39))) := hide ((Ext.refl w).alloc _)
  have HB := hide (PdBox.new w p)
  obtain ⟨c0, c1, c2, c3⟩ := HB.out.cells
  have HN := hide (fun w' => hide (r_con03 p.cls w' (by have := h.cls; omega)))
  have HL := hide (fun w' (e : Ext w w') => hide (r_legal16 p.ty w' (h.ty.ext e) (by omega)))
  have HP : Hid (pdB p = (conB p.cls && legalT p.ty)) := hide rfl
  clear h
  unfold pdV tyV at *
  generalize pdB p = R at *
  cases hb : conB p.cls
  · rw [hb] at HN HP
    have hR : R = false := by rw [HP.out]; rfl
    clear HP
    subst hR
    go_enter Tryz.func51, Tryz.ntmps51
    go_wp2_with fail
    refine (HN.out _).out.mono ?_
    rintro e w2 ⟨rfl, rfl⟩
    go_wp2
    go_ret
    exact ⟨rfl, X0.out⟩
  · rw [hb] at HN HP
    have hR : R = legalT p.ty := by rw [HP.out]; rfl
    clear HP
    subst hR
    go_enter Tryz.func51, Tryz.ntmps51
    go_wp2_with fail
    refine (HN.out _).out.mono ?_
    rintro e w2 ⟨rfl, rfl⟩
    go_wp2_with fail
    refine (HL.out _ X0.out).out.mono ?_
    rintro e w3 ⟨rfl, hx⟩
    go_wp2
    go_ret
    exact ⟨rfl, X0.out.trans hx⟩

end Go.Proofs.YtpdcjjgkpbpleaaGreatDoor

/- Contract of Go's package slices on rows of types: whether one is there. -/
namespace Go.Proofs.YtpdcjjgkpbpleaaGreatDoor
open Go.RowKit Go.Shelf

set_option maxRecDepth 10000 in
set_option maxHeartbeats 2000000 in
theorem index_ft (f : FuncId) (lb : Array Value) (ef : Opens f) (p : Ty → Bool) (A : Option Addr) (cap : Nat) (l : List Ty) (w : World) (h : TysIn w A l) (hl : l.length ≤ 1000000) (hp : ∀ w', Ext w w' → ∀ x ∈ l, Calls Tryz.prog f (#[tyV x] ++ lb) w' fun e w'' => e = .returned (.bool (p x)) ∧ Ext w' w'') :
    Calls Tryz.prog 99 #[.slice A l.length cap, .func (.func f) #[] lb] w fun e w' => (∃ i : Int, e = .returned (.int .i64 i) ∧ (0 ≤ i ↔ l.any p = true)) ∧ Ext w w' := by
  have HL := hide h
  have HP := hide hp
  unfold Opens at ef
  clear h hp
  obtain ⟨R, hR⟩ : ∃ R, R = l.any p := ⟨_, rfl⟩
  have HR := hide hR
  rw [← hR]
  clear hR
  go_enter Tryz.func99, Tryz.ntmps99
  go_wp2
  go_loopw [8] (fun i wr => ∃ k : Nat, k ≤ l.length ∧ i = .int .i64 k ∧ Hid ((l.take k).any p = false) ∧ Hid (Ext w wr)) (fun i _ => l.length - (intOf i).toNat)
  case atStart => exact ⟨0, Nat.zero_le _, rfl, hide (by simp), hide (Ext.refl _)⟩
  case round =>
    obtain ⟨k, hk, rfl, HA, HX⟩ := hrel
    by_cases hlt : k < l.length
    · have hlt' : (k : Int) < (l.length : Int) := by omega
      have hk0 : (0 : Int) ≤ (k : Int) := by omega
      obtain ⟨b, o, rfl, hb, q0, q1, q2⟩ := (HL.out.ext HX.out).at_ hlt
      have hm := List.getElem_mem hlt
      have HC := hide (HP.out wr HX.out _ hm)
      have Htk : Hid (l.take (k + 1) = l.take k ++ [l[k]'hlt]) := hide (List.take_succ_eq_append_getElem hlt)
      have Hm := hide hm
      clear hm
      unfold tyV at HC
      generalize l[k]'hlt = x at *
      cases hb : p x
      · rw [hb] at HC
        have Hb := hide hb
        clear hb
        go_wp2_with fail
        refine HC.out.mono ?_
        rintro e w3 ⟨rfl, hx⟩
        have X3 := hide (HX.out.trans hx)
        clear hx
        go_wp2
        go_roundw
        case rel => exact ⟨k + 1, hlt, by go_num, hide (by rw [Htk.out, List.any_append, HA.out]; simpa using Hb.out), X3⟩
        case measure => simp [intOf]; omega
      · rw [hb] at HC
        have HN : Hid (R = true) := hide (by rw [HR.out, List.any_eq_true]; exact ⟨x, Hm.out, hb⟩)
        clear hb
        go_wp2_with fail
        refine HC.out.mono ?_
        rintro e w3 ⟨rfl, hx⟩
        go_wp2
        go_ret
        exact ⟨⟨(k : Int), rfl, by rw [HN.out]; simp⟩, HX.out.trans hx⟩
    · have hge : ¬ (k : Int) < (l.length : Int) := by omega
      have HN : Hid (R = false) := hide (by rw [HR.out]; have := HA.out; rwa [List.take_of_length_le (by omega)] at this)
      go_wp2
      go_ret
      exact ⟨⟨-1, rfl, by rw [HN.out]; simp⟩, HX.out⟩

set_option maxRecDepth 10000 in
set_option maxHeartbeats 1000000 in
theorem has_ft (f : FuncId) (lb : Array Value) (ef : Opens f) (p : Ty → Bool) (A : Option Addr) (cap : Nat) (l : List Ty) (w : World) (h : TysIn w A l) (hl : l.length ≤ 1000000) (hp : ∀ w', Ext w w' → ∀ x ∈ l, Calls Tryz.prog f (#[tyV x] ++ lb) w' fun e w'' => e = .returned (.bool (p x)) ∧ Ext w' w'') :
    Calls Tryz.prog 68 #[.slice A l.length cap, .func (.func f) #[] lb] w fun e w' => e = .returned (.bool (l.any p)) ∧ Ext w w' := by
  have HI := hide (index_ft f lb ef p A cap l w h hl hp)
  clear h hp
  generalize l.any p = R at *
  go_enter Tryz.func68, Tryz.ntmps68
  go_wp2_with fail
  refine HI.out.mono ?_
  rintro e w2 ⟨⟨i, rfl, hi⟩, hx⟩
  have HR : Hid (decide ((0 : Int) ≤ i) = R) := hide (by cases R <;> simp_all)
  have X := hide hx
  clear hi hx
  go_wp2
  go_ret
  exact ⟨by first | rfl | (rw [← HR.out]; rfl), X.out⟩

end Go.Proofs.YtpdcjjgkpbpleaaGreatDoor
