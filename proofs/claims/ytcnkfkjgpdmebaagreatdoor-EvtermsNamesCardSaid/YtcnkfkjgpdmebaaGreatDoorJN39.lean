/- Contracts of the reference of chapter 17: a type, and predicates, with all replaced; and of chapter 21: renamed. -/
import Derived.Test.YtcnkfkjgpdmebaaGreatDoorJN38
import Derived.RegionTactic
import Derived.Deep.DeepCutAuto
/- Contracts of the reference of chapter 17: a type, and predicates, with all replaced; and of chapter 21: renamed. -/
namespace Go.Proofs.YtcnkfkjgpdmebaaGreatDoor
open Go.RowKit

/-- What the reference's Apply tells. -/
structure AppR (w w' : World) (s : List Pr) (t u : Ty) : Prop where
  ty : TyIn w' u
  is : u.pure = putP (vsP s) (tsP s) t
  away : ∀ c, c < w.heap.size → awayB c t = true → (∀ k ∈ tsP s, awayB c k = true) → awayB c u = true

/-- What the reference's Preds tells. -/
structure DpsR (N : Nat) (w' : World) (row : Option Nat) (s : List Pr) (l ds : List Pd) : Prop where
  away : ∀ d ∈ ds, ∀ c, c < N → (∀ x ∈ l, awayB c x.ty = true) → (∀ k ∈ tsP s, awayB c k = true) → awayB c d.ty = true
  ty : ∀ d ∈ ds, TyIn w' d.ty
  off : ∀ d ∈ ds, ∀ c, row = some c → awayB c d.ty = true
  is : ds.map (fun d => (d.cls, d.ty.pure)) = l.map fun x => (x.cls, putP (vsP s) (tsP s) x.ty)
theorem DpsR.len {N : Nat} {w' : World} {row : Option Nat} {s : List Pr} {l ds : List Pd} (h : DpsR N w' row s l ds) : ds.length = l.length := by simpa using congrArg List.length h.is
theorem DpsR.step {w wr w3 w5 : World} {row row' : Option Nat} {s : List Pr} {l ds : List Pd} {x : Pd} {u : Ty} {S : Option Addr} {N : Nat} (h : DpsR N wr row s l ds) (hN : N ≤ wr.heap.size) (hS : PrsIn w S s) (hx : TyIn w x.ty) (hu : AppR wr w3 s x.ty u)
    (hlo : ∀ c, row = some c → w.heap.size ≤ c ∧ c < wr.heap.size) (e : Ext wr w3) {w4 : World} (e4 : Ext w3 w4) (hg : w4.grownBy w5 row) (ho : row' = row ∨ row' = some w4.heap.size) : DpsR N w5 row' s (l ++ [x]) (ds ++ [⟨x.cls, u⟩]) := by
  have hau : ∀ c, row = some c → awayB c u = true := fun c hc => hu.away c (hlo c hc).2 (away_new hx (hlo c hc).1) (fun k hk => away_new (hS.tys k hk) (hlo c hc).1)
  have hty : ∀ d ∈ ds ++ [(⟨x.cls, u⟩ : Pd)], TyIn w4 d.ty ∧ ∀ c, row = some c → awayB c d.ty = true := by
    intro d hd
    rcases List.mem_append.1 hd with hd | hd
    · exact ⟨(h.ty d hd).ext (e.trans e4), fun c hc => h.off d hd c hc⟩
    · rw [List.mem_singleton] at hd
      subst hd
      exact ⟨hu.ty.ext e4, hau⟩
  refine ⟨fun d hd c hc h1 h2 => ?_, fun d hd => (hty d hd).1.grown hg (hty d hd).2, fun d hd c hc => ?_, ?_⟩
  · rcases List.mem_append.1 hd with hd | hd
    · exact h.away d hd c hc (fun y hy => h1 y (List.mem_append.2 (.inl hy))) h2
    · rw [List.mem_singleton] at hd
      subst hd
      exact hu.away c (by omega) (h1 x (by simp)) h2
  · rcases ho with h1 | h1
    · exact (hty d hd).2 c (h1 ▸ hc)
    · rw [h1] at hc; injection hc with hc; exact away_new (hty d hd).1 (by omega)
  · rw [List.map_append, List.map_append, h.is]
    simp [hu.is]

end Go.Proofs.YtcnkfkjgpdmebaaGreatDoor

/- Contract of the reference of chapter 23: may an instance be? -/
namespace Go.Proofs.YtcnkfkjgpdmebaaGreatDoor
open Go.RowKit

end Go.Proofs.YtcnkfkjgpdmebaaGreatDoor

/- Contracts of the reference: where a class stands; an instance's predicates with types put in. -/
namespace Go.Proofs.YtcnkfkjgpdmebaaGreatDoor
open Go.RowKit

/-! ### Types in order -/
structure SetN (types : List Ty) (k : Nat) (s : List Pr) : Prop where
  rise : RiseP s
  len : s.length = k
  mem : ∀ p ∈ s, ∃ (i : Nat) (h : i < types.length), i < k ∧ p = ⟨(i : Int), types[i]'h⟩
  has : ∀ (i : Nat) (h : i < types.length), i < k → (⟨(i : Int), types[i]'h⟩ : Pr) ∈ s
theorem SetN.zero (types : List Ty) : SetN types 0 [] := ⟨List.Pairwise.nil, rfl, by simp, fun i _ h => absurd h (by omega)⟩
theorem SetN.nope {types : List Ty} {k : Nat} {s : List Pr} (h : SetN types k s) : putAt (vsP s) (tsP s) (k : Int) = none := by
  rw [putAt_no h.rise]
  intro p hp e
  obtain ⟨i, hi, hik, rfl⟩ := h.mem p hp
  have : (i : Int) = (k : Int) := e
  omega
theorem SetN.at_ {types : List Ty} {k : Nat} {s : List Pr} (h : SetN types k s) (i : Nat) (hi : i < types.length) (hik : i < k) : putAt (vsP s) (tsP s) (i : Int) = some (types[i]'hi) :=
  (putAt_some h.rise).2 ⟨_, h.has i hi hik, rfl, rfl⟩
theorem SetN.step {types : List Ty} {k : Nat} {s : List Pr} (h : SetN types k s) (hk : k < types.length) {i : Nat} (hl : LbP s (k : Int) i) : SetN types (k + 1) (insP s i (k : Int) (types[k]'hk)) := by
  have hn : hasAt s (k : Int) i = false := by
    have h1 := hasAt_iff h.rise hl
    rw [h.nope] at h1
    cases e : hasAt s (k : Int) i
    · rfl
    · exact absurd (h1.1 e) (by simp)
  refine ⟨insP_rise h.rise hl hn, by rw [insP_len hl.le, h.len], fun p hp => ?_, fun j hj hjk => ?_⟩
  · rcases insP_mem.1 hp with rfl | hp
    · exact ⟨k, hk, by omega, rfl⟩
    · obtain ⟨j, hj, hjk, e⟩ := h.mem p hp
      exact ⟨j, hj, by omega, e⟩
  · rw [insP_mem]
    by_cases e : j = k
    · subst e; exact .inl rfl
    · exact .inr (h.has j hj (by omega))
theorem SetN.legal {types : List Ty} {k : Nat} {s : List Pr} (h : SetN types k s) (ht : ∀ t ∈ types, legalT t = true) : ∀ p ∈ s, legalT p.ty = true := by
  intro p hp
  obtain ⟨i, hi, -, rfl⟩ := h.mem p hp
  exact ht _ (List.getElem_mem hi)
theorem head_parts {n : Int} {p : Pd} (h : headPlB n p = true) : ∃ (v : Nat) (A : Option Addr) (c : Nat), p.ty = .mk [] v A c [] ∧ (v : Int) < n := by
  unfold headPlB at h
  simp only [Bool.and_eq_true, decide_eq_true_eq] at h
  obtain ⟨⟨⟨⟨-, h1⟩, h2⟩, h3⟩, h4⟩ := h
  obtain ⟨cls, s, v, A, c, l⟩ := p
  have h1 : (s == ([] : Str)) = true := h1
  have h2 : l.isEmpty = true := h2
  have e1 : s = [] := by simpa using h1
  have e2 : l = [] := by simpa using h2
  subst e1 e2
  have h3 : 0 ≤ v := h3
  have h4 : v < n := h4
  exact ⟨v.toNat, A, c, by rw [Int.toNat_of_nonneg h3], by omega⟩
/-- What an instance wants of the types that are put in. -/
def WithOk (types : List Ty) (preds ds : List Pd) : Prop := ds.length = preds.length ∧ ∀ i (h1 : i < ds.length) (h2 : i < preds.length), (ds[i]'h1).cls = (preds[i]'h2).cls ∧ ∃ h : (preds[i]'h2).ty.var.toNat < types.length, (ds[i]'h1).ty.pure = (types[(preds[i]'h2).ty.var.toNat]'h).pure
theorem SetN.puts {types : List Ty} {n : Int} {s : List Pr} (h : SetN types types.length s) (hn : n ≤ types.length) (ht : ∀ t ∈ types, legalT t = true) {preds : List Pd} (hp : ∀ p ∈ preds, headPlB n p = true) : putsOk s preds := by
  intro p hpm
  obtain ⟨v, A, c, e, hv⟩ := head_parts (hp p hpm)
  have hvl : v < types.length := by omega
  have hat := h.at_ v hvl hvl
  obtain ⟨l1, l2, -⟩ := legal_parts (ht _ (List.getElem_mem hvl))
  rw [e]
  refine ⟨legal_var _ _ _, ?_, ?_⟩
  · rw [szS_eq, if_pos (show (Ty.mk [] (v : Int) A c []).con = [] from rfl)]
    show (match putAt (vsP s) (tsP s) (v : Int) with | some u => u.size | none => 1) ≤ 4096
    rw [hat]
    exact l1
  · rw [dpS_eq, if_pos (show (Ty.mk [] (v : Int) A c []).con = [] from rfl)]
    show (match putAt (vsP s) (tsP s) (v : Int) with | some u => u.depth | none => 1) ≤ 100
    rw [hat]
    exact l2
theorem SetN.with_ {types : List Ty} {n : Int} {s : List Pr} (h : SetN types types.length s) (hn : n ≤ types.length) {preds ds : List Pd} (hp : ∀ p ∈ preds, headPlB n p = true) (hd : ds.map (fun d => (d.cls, d.ty.pure)) = preds.map fun x => (x.cls, putP (vsP s) (tsP s) x.ty)) : WithOk types preds ds := by
  have hl : ds.length = preds.length := by simpa using congrArg List.length hd
  refine ⟨hl, fun i h1 h2 => ?_⟩
  have e : (ds.map (fun d => (d.cls, d.ty.pure)))[i]? = (preds.map fun x => (x.cls, putP (vsP s) (tsP s) x.ty))[i]? := by rw [hd]
  rw [List.getElem?_map, List.getElem?_map, List.getElem?_eq_getElem h1, List.getElem?_eq_getElem h2] at e
  simp only [Option.map_some, Option.some.injEq, Prod.mk.injEq] at e
  obtain ⟨v, A, c, et, hv⟩ := head_parts (hp _ (List.getElem_mem h2))
  have hvl : v < types.length := by omega
  refine ⟨e.1, ?_⟩
  rw [e.2, et]
  refine ⟨hvl, ?_⟩
  rw [putP_eq, if_pos (show (Ty.mk [] (v : Int) A c []).con = [] from rfl)]
  show ((putAt (vsP s) (tsP s) (v : Int)).getD _).pure = _
  rw [h.at_ v hvl hvl]
  rfl

end Go.Proofs.YtcnkfkjgpdmebaaGreatDoor

/- Chapter 25, plain: what follows from what. No program in sight. -/
namespace Go.Proofs.YtcnkfkjgpdmebaaGreatDoor
open Go.RowKit

/-- The way from what is given to what is asked, if their types are the same. -/
noncomputable def hitS (cs : List KlD) (c : Str) (t : Ty.Pure) (q : Pd) : Option (List Nat) := if @decide (q.ty.pure = t) (Classical.propDecidable _) = true then pathL (cs.map toCls) q.cls c else none
def supFrom {α : Type} (f : α → Option (List Nat)) : Nat → List α → Option (Nat × List Nat)
  | _, [] => none
  | i, q :: r => match f q with | some p => some (i, p) | none => supFrom f (i + 1) r
theorem supFrom_hit {α : Type} {f : α → Option (List Nat)} {l : List α} {k : Nat} (hk : k < l.length) {p : List Nat} (h : f (l[k]'hk) = some p) : supFrom f k (l.drop k) = some (k, p) := by
  rw [List.drop_eq_getElem_cons hk]
  show (match f (l[k]'hk) with | some p => some (k, p) | none => supFrom f (k + 1) (l.drop (k + 1))) = _
  rw [h]
theorem supFrom_no {α : Type} {f : α → Option (List Nat)} {l : List α} {k : Nat} (hk : k < l.length) (h : f (l[k]'hk) = none) : supFrom f k (l.drop k) = supFrom f (k + 1) (l.drop (k + 1)) := by
  rw [List.drop_eq_getElem_cons hk]
  show (match f (l[k]'hk) with | some p => some (k, p) | none => supFrom f (k + 1) (l.drop (k + 1))) = _
  rw [h]
theorem supFrom_end {α : Type} {f : α → Option (List Nat)} {l : List α} {k : Nat} (hk : l.length ≤ k) : supFrom f k (l.drop k) = none := by
  rw [List.drop_eq_nil_of_le hk]; rfl
theorem hitS_same {cs : List KlD} {c : Str} {t : Ty} {q : Pd} : hitS cs c t.pure q = if sameB q.ty t = true then pathL (cs.map toCls) q.cls c else none := rfl

/-- The proof by what is given. -/
def chainQ (i : Nat) (path : List Nat) : Pf.Pure := path.foldl (fun (x : Pf.Pure) (n : Nat) => .mk 2 (n : Int) [] [x]) (.mk 1 (i : Int) [] [])
theorem chainQ_snoc (i : Nat) (l : List Nat) (n : Nat) : chainQ i (l ++ [n]) = .mk 2 n [] [chainQ i l] := by unfold chainQ; rw [List.foldl_append]; rfl
noncomputable def supQ (cs : List KlD) (given : List Pd) (c : Str) (t : Ty.Pure) : Option (Nat × List Nat) := supFrom (hitS cs c t) 0 given

def Ty.Pure.args : Ty.Pure → List Ty.Pure | .mk _ _ l => l
theorem pure_args (t : Ty) : t.pure.args = t.args.map Ty.pure := by rw [Ty.pure_eq]; rfl
/-- The instance that a predicate has, and what that wants. -/
def byQ (ins : List InD) (c : Str) : Ty.Pure → Option (Nat × List (Str × Ty.Pure))
  | .mk con _ args => match findH ins c con with
    | none => none
    | some i => match ins[i]? with
      | none => none
      | some x => if con = [] ∨ x.n ≠ (args.length : Int) then none else some (i, x.preds.map fun p => (p.cls, args.getD p.ty.var.toNat (.mk [] 0 [])))
/-- The proofs of what is wanted, and how great all is. -/
def kidsGo (f : Str → Ty.Pure → Except Int (Pf.Pure × Nat)) : List (Str × Ty.Pure) → List Pf.Pure → Nat → Except Int (List Pf.Pure × Nat)
  | [], l, n => .ok (l, n)
  | (c, t) :: r, l, n => match f c t with
    | .error e => .error e
    | .ok (q, m) => if n + m > 4096 then .error 2 else kidsGo f r (l ++ [q]) (n + m)
/-- What the search finds, and how great it is; or why it finds none. -/
noncomputable def srch (cs : List KlD) (ins : List InD) (given : List Pd) : Nat → Str → Ty.Pure → Except Int (Pf.Pure × Nat)
  | 0, _, _ => .error 16
  | m + 1, c, t => match supQ cs given c t with
    | some (i, path) => .ok (chainQ i path, path.length + 1)
    | none => match byQ ins c t with
      | none => .error 16
      | some (i, wants) => match kidsGo (srch cs ins given m) wants [] 1 with
        | .error e => .error e
        | .ok (l, n) => .ok (.mk 3 i t.args l, n)
/-- May classes and instances be? -/
def soundE (cs : List KlD) (ins : List InD) : Bool := okL (cs.map toCls) && ins.all instB
/-- A predicate's proof, or why there is none. -/
noncomputable def byE (cs : List KlD) (ins : List InD) (given : List Pd) (p : Pd) : Except Int Pf.Pure :=
  if (pdB p && given.all pdB && soundE cs ins) = false then .error 1
  else match srch cs ins given 5000 p.cls p.ty.pure with
    | .error e => .error e
    | .ok (q, _) => .ok q

theorem kids_step {f : Str → Ty.Pure → Except Int (Pf.Pure × Nat)} {c : Str} {t : Ty.Pure} {r : List (Str × Ty.Pure)} {l : List Pf.Pure} {n : Nat} {q : Pf.Pure} {m : Nat} (h : f c t = .ok (q, m)) :
    kidsGo f ((c, t) :: r) l n = if n + m > 4096 then .error 2 else kidsGo f r (l ++ [q]) (n + m) := by
  simp only [kidsGo, h]
theorem kids_err {f : Str → Ty.Pure → Except Int (Pf.Pure × Nat)} {c : Str} {t : Ty.Pure} {r : List (Str × Ty.Pure)} {l : List Pf.Pure} {n : Nat} {e : Int} (h : f c t = .error e) :
    kidsGo f ((c, t) :: r) l n = .error e := by
  simp only [kidsGo, h]
theorem kids_drop {f : Str → Ty.Pure → Except Int (Pf.Pure × Nat)} {w : List (Str × Ty.Pure)} {k : Nat} (hk : k < w.length) {l : List Pf.Pure} {n : Nat} {q : Pf.Pure} {m : Nat} (h : f (w[k]'hk).1 (w[k]'hk).2 = .ok (q, m)) :
    kidsGo f (w.drop k) l n = if n + m > 4096 then .error 2 else kidsGo f (w.drop (k + 1)) (l ++ [q]) (n + m) := by
  rw [List.drop_eq_getElem_cons hk]; exact kids_step h
theorem kids_drop_err {f : Str → Ty.Pure → Except Int (Pf.Pure × Nat)} {w : List (Str × Ty.Pure)} {k : Nat} (hk : k < w.length) {l : List Pf.Pure} {n : Nat} {e : Int} (h : f (w[k]'hk).1 (w[k]'hk).2 = .error e) :
    kidsGo f (w.drop k) l n = .error e := by
  rw [List.drop_eq_getElem_cons hk]; exact kids_err h
theorem kids_end {f : Str → Ty.Pure → Except Int (Pf.Pure × Nat)} {w : List (Str × Ty.Pure)} {k : Nat} (hk : w.length ≤ k) {l : List Pf.Pure} {n : Nat} : kidsGo f (w.drop k) l n = .ok (l, n) := by
  rw [List.drop_eq_nil_of_le hk]; rfl
theorem find_lt {l : List InD} {c t : Str} {i : Nat} (h : findH l c t = some i) : ∃ hi : i < l.length, (l[i]'hi).cls = c ∧ (l[i]'hi).con = t := by
  unfold findH at h
  rw [List.findIdx?_eq_some_iff_getElem] at h
  obtain ⟨hi, h, -⟩ := h
  unfold headIs at h
  rw [Bool.and_eq_true, beq_iff_eq, beq_iff_eq] at h
  exact ⟨hi, h⟩

end Go.Proofs.YtcnkfkjgpdmebaaGreatDoor
