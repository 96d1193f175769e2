/- copy(dst, src) at elements of several cells, as laws of the walk; what two copies make of a row. No program in sight. -/
import Derived.Test.YtmjiljhcjfnfpaaGreatJS14
import Derived.Laws.CopyOwn
import Derived.Laws.CopyRow
/- copy(dst, src) at elements of several cells, as laws of the walk; what two copies make of a row. No program in sight. -/
namespace Go.Proofs.YtmjiljhcjfnfpaaGreat
open Go.RowKit

theorem run_copy_kat {P : Program} (w : World) (dT sT ty elem : TypeId) (k g o dLen dCap : Nat) (a : Addr) (sLen sCap : Nat) (cur : Array Value) (t : TypeId) (cs : List Value) (n : Nat)
    (hu : P.underlying dT = some (.slice elem)) (hs : (P.info? elem).map (·.size) = some k)
    (hg : w.heap[g]? = some (.cells cur t (0, 0))) (hn : n = Nat.min sLen dLen) (hc : cs.length = n * k)
    (hsrc : ∀ j v, cs[j]? = some v → w.cell? (a.add j) = some v) (hfit : o + cs.length ≤ cur.size) (h1 : ∀ v ∈ cs, v.oneCell' = true) :
    (Builtin.copy_ #[dT, sT] ty #[.slice (some ⟨g, o, none⟩) dLen dCap, .slice (some a) sLen sCap]).run P w =
      .ok (goInt n) (w.setRow g (cur.toList.take o ++ cs ++ cur.toList.drop (o + cs.length)).toArray) := by
  have hl := run_loadCells_list (P := P) w a cs hsrc
  have hst := run_storeCells_at P g o t cs 0 cur w hg (by simpa using hfit) h1
  cases hq : P.info? elem with
  | none => simp [hq] at hs
  | some i =>
    have hi : i.size = k := by simpa [hq] using hs
    rw [hc] at hl
    simp [Builtin.copy_, run_underlying hu, Builtin.lenOf, Builtin.firstCells, sizeOf, typeInfo, hq, hi, ← hn, hl]
    rw [hst]
    simp
theorem grown_setRow (w : World) (g : Nat) (cs : Array Value) : w.grownBy (w.setRow g cs) (some g) :=
  ⟨rfl, rfl, rfl, by simp [World.setRow], fun k _ hk => setRow_other w g k cs (fun e => hk (by rw [e]))⟩
theorem grown_trans {a b c : World} {row : Option Nat} (h : a.grownBy b row) (k : b.grownBy c row) : a.grownBy c row :=
  ⟨k.os.trans h.os, k.tape.trans h.tape, k.output.trans h.output, Nat.le_trans h.size k.size, fun j hj hne => (k.block j (Nat.lt_of_lt_of_le hj h.size) hne).trans (h.block j hj hne)⟩
theorem grown_size_setRow (w : World) (g : Nat) (cs : Array Value) : (w.setRow g cs).heap.size = w.heap.size := by simp [World.setRow]

theorem wpList_copy_k {P : Program} {w : World} {ops : Array Oper} {rest : List Oper} {o : Oper} {a : Act} {Q : Exit → Act → World → Prop} (hgd : o.guard = none) (d s : Operand) (dT sT : TypeId)
    (ho : o.op = .call { callee := .builtin .copy, args := #[d, s], argTypes := #[dT, sT] }) (elem : TypeId) (hu : P.underlying dT = some (.slice elem)) (k : Nat) (hsz : (P.info? elem).map (·.size) = some k)
    (g off dLen dCap : Nat) (ad : Addr) (sLen sCap : Nat) (hd : a.eval d = .slice (some ⟨g, off, none⟩) dLen dCap) (hs : a.eval s = .slice (some ad) sLen sCap)
    (cur : List Value) (t : TypeId) (hg : w.heap[g]? = some (.cells cur.toArray t (0, 0))) (cs : List Value) (n : Nat) (hn : n = Nat.min sLen dLen) (hc : cs.length = n * k)
    (hsrc : ∀ j v, cs[j]? = some v → w.cell? (ad.add j) = some v) (hfit : off + cs.length ≤ cur.length) (h1 : ∀ v ∈ cs, v.oneCell' = true)
    (h : ∀ w', Hid (w'.heap[g]? = some (.cells (splice cur off cs).toArray t (0, 0))) → Hid (w.grownBy w' (some g)) → w'.heap.size = w.heap.size → wpList P ops Q rest (a.put o.dst (goInt n)) w') : wpList P ops Q (o :: rest) a w := by
  refine wpList_plain hgd fun K hK => ?_
  have hrun := run_copy_kat (P := P) w dT sT o.type elem k g off dLen dCap ad sLen sCap cur.toArray t cs n hu hsz hg hn hc hsrc (by simpa using hfit) h1
  unfold Oper.wp
  simp [execOp, ho, resolve, invoke, builtin, hd, hs, hrun, Result.andThen]
  exact hK _ _ (h _ (show _ = _ by simpa [splice] using setRow_heap w g _ _ t _ hg) (grown_setRow _ _ _) (grown_size_setRow _ _ _))
theorem step_copy_k {P : Program} {ops : Array Oper} {o : Oper} {a : Act} {w : World} {K : Act → World → Prop} {Q : Exit → Act → World → Prop} {E : Prop} (hgd : o.guard = none) (d s : Operand) (dT sT : TypeId)
    (ho : o.op = .call { callee := .builtin .copy, args := #[d, s], argTypes := #[dT, sT] }) (elem : TypeId) (hu : P.underlying dT = some (.slice elem)) (k : Nat) (hsz : (P.info? elem).map (·.size) = some k)
    (g off dLen dCap : Nat) (ad : Addr) (sLen sCap : Nat) (hd : a.eval d = .slice (some ⟨g, off, none⟩) dLen dCap) (hs : a.eval s = .slice (some ad) sLen sCap)
    (cur : List Value) (t : TypeId) (hg : w.heap[g]? = some (.cells cur.toArray t (0, 0))) (cs : List Value) (n : Nat) (hn : n = Nat.min sLen dLen) (hc : cs.length = n * k)
    (hsrc : ∀ j v, cs[j]? = some v → w.cell? (ad.add j) = some v) (hfit : off + cs.length ≤ cur.length) (h1 : ∀ v ∈ cs, v.oneCell' = true)
    (h : ∀ w', Hid (w'.heap[g]? = some (.cells (splice cur off cs).toArray t (0, 0))) → Hid (w.grownBy w' (some g)) → w'.heap.size = w.heap.size → K (a.put o.dst (goInt n)) w') :
    if Region.wanted o (yielded ops a.tmps) = true then Oper.wp P o a w K Q else E := by
  have hw : Region.wanted o (yielded ops a.tmps) = true := by simp [Region.wanted, hgd]
  rw [if_pos hw]
  have hrun := run_copy_kat (P := P) w dT sT o.type elem k g off dLen dCap ad sLen sCap cur.toArray t cs n hu hsz hg hn hc hsrc (by simpa using hfit) h1
  unfold Oper.wp
  simp [execOp, ho, resolve, invoke, builtin, hd, hs, hrun, Result.andThen]
  exact h _ (show _ = _ by simpa [splice] using setRow_heap w g _ _ t _ hg) (grown_setRow _ _ _) (grown_size_setRow _ _ _)

/-- First what is put in, then what stood behind. -/
theorem splice_in {α : Type} (L Y Z : List α) (a b c : Nat) (hY : Y.length = b) (hZ : Z.length = c) (h : a + b + c ≤ L.length) :
    (splice (splice L a Y) (a + b) Z).length = L.length ∧ (splice (splice L a Y) (a + b) Z).take (a + b + c) = L.take a ++ (Y ++ Z) := by
  have h1 : (splice L a Y).length = L.length := length_splice L a Y (by omega)
  refine ⟨by rw [length_splice _ _ _ (by omega), h1], ?_⟩
  have e1 : (splice L a Y).take (a + b) = L.take a ++ Y := by
    unfold splice
    rw [← List.append_assoc, List.take_append_of_le_length (by rw [List.length_append, List.length_take]; omega), List.take_of_length_le (by rw [List.length_append, List.length_take]; omega)]
  show ((splice L a Y).take (a + b) ++ (Z ++ _)).take _ = _
  rw [e1, ← List.append_assoc, List.take_append_of_le_length (by simp; omega), List.take_of_length_le (by simp; omega), List.append_assoc]
/-- First what stood behind, then what is put in. -/
theorem splice_shift {α : Type} (L Y Z : List α) (a b c : Nat) (hY : Y.length = b) (hZ : Z.length = c) (h : a + b + c ≤ L.length) :
    (splice (splice L (a + b) Z) a Y).length = L.length ∧ (splice (splice L (a + b) Z) a Y).take (a + b + c) = L.take a ++ (Y ++ Z) := by
  have h1 : (splice L (a + b) Z).length = L.length := length_splice L (a + b) Z (by omega)
  refine ⟨by rw [length_splice _ _ _ (by omega), h1], ?_⟩
  have e1 : (splice L (a + b) Z).take a = L.take a := by
    unfold splice
    rw [List.take_append_of_le_length (by rw [List.length_take]; omega), List.take_take, Nat.min_eq_left (by omega)]
  have e2 : (splice L (a + b) Z).drop (a + Y.length) = Z ++ L.drop (a + b + c) := by
    unfold splice
    rw [hY, hZ, List.drop_append_of_le_length (by rw [List.length_take]; omega), List.drop_take_self, List.nil_append]
  unfold splice at e1 e2 ⊢
  rw [e1, e2, ← List.append_assoc, ← List.append_assoc, List.take_append_of_le_length (by simp; omega), List.take_of_length_le (by simp; omega), List.append_assoc]

end Go.Proofs.YtmjiljhcjfnfpaaGreat

/- Types in the place of variables (substitutions): rising pairs, what is put, sizes. Plain; no program in sight. -/
namespace Go.Proofs.YtmjiljhcjfnfpaaGreat
open Go.RowKit

/-- A variable, and what stands in its place. -/
structure Pr where
  v : Int
  ty : Ty
def Pr.cells (p : Pr) : List Value := [.int .i64 p.v, encStr p.ty.con, .int .i64 p.ty.var, .slice p.ty.A p.ty.args.length p.ty.cap]
def prC : Coder Pr := ⟨4, Pr.cells, fun _ => rfl, by omega⟩
noncomputable def Pr.pure (p : Pr) : Int × Ty.Pure := (p.v, p.ty.pure)
abbrev vsP (s : List Pr) : List Int := s.map Pr.v
abbrev tsP (s : List Pr) : List Ty := s.map Pr.ty
def RiseP (s : List Pr) : Prop := s.Pairwise fun a b => a.v < b.v
/-- The place at which a variable stands, or would stand. -/
structure LbP (s : List Pr) (v : Int) (i : Nat) : Prop where
  le : i ≤ s.length
  lo : ∀ k (h : k < s.length), k < i → (s[k]'h).v < v
  hi : ∀ k (h : k < s.length), i ≤ k → v ≤ (s[k]'h).v
def hasAt (s : List Pr) (v : Int) (i : Nat) : Bool := match s[i]? with | some p => p.v == v | none => false
theorem hasAt_lt {s : List Pr} {v : Int} {i : Nat} (h : i < s.length) : hasAt s v i = ((s[i]'h).v == v) := by
  unfold hasAt
  rw [List.getElem?_eq_getElem h]
theorem hasAt_end {s : List Pr} {v : Int} {i : Nat} (h : ¬ i < s.length) : hasAt s v i = false := by
  unfold hasAt
  rw [List.getElem?_eq_none (by omega)]
theorem hasAt_true {s : List Pr} {v : Int} {i : Nat} (h : hasAt s v i = true) : ∃ hi : i < s.length, (s[i]'hi).v = v := by
  by_cases hi : i < s.length
  · rw [hasAt_lt hi] at h
    exact ⟨hi, by simpa using h⟩
  · rw [hasAt_end hi] at h
    cases h
theorem rise_lt {s : List Pr} (h : RiseP s) {i k : Nat} (hik : i < k) (hk : k < s.length) : (s[i]'(by omega)).v < (s[k]'hk).v :=
  List.pairwise_iff_getElem.1 h i k (by omega) hk hik
theorem rise_eq {s : List Pr} (h : RiseP s) {p q : Pr} (hp : p ∈ s) (hq : q ∈ s) (e : p.v = q.v) : p = q := by
  obtain ⟨i, hi, rfl⟩ := List.mem_iff_getElem.1 hp
  obtain ⟨k, hk, rfl⟩ := List.mem_iff_getElem.1 hq
  rcases Nat.lt_trichotomy i k with hl | rfl | hl
  · have := rise_lt h hl hk; omega
  · rfl
  · have := rise_lt h hl hi; omega
theorem vsP_getD (s : List Pr) {j : Nat} (h : j < s.length) : (vsP s).getD j 0 = (s[j]'h).v := by
  simp [List.getD_eq_getElem?_getD, List.getElem?_eq_getElem h]
/-- What a place tells. -/
theorem putAt_lb {s : List Pr} {v : Int} {i : Nat} (hr : RiseP s) (h : LbP s v i) : putAt (vsP s) (tsP s) v = if hasAt s v i = true then (s[i]?).map Pr.ty else none := by
  by_cases hh : hasAt s v i = true
  · obtain ⟨hi, hv⟩ := hasAt_true hh
    have e : idxI (vsP s) v = i := idxI_at (vsP s) v 0 (by simpa using hi) (fun j hj => by
      rw [vsP_getD s (by omega)]
      have := h.lo j (by omega) hj
      simp; omega) (by rw [vsP_getD s hi, hv]; simp)
    rw [if_pos hh]
    unfold putAt
    rw [e, if_pos (by omega), Int.toNat_natCast, List.getElem?_map]
  · have e : idxI (vsP s) v = -1 := idxI_no (vsP s) v 0 (fun j hj => by
      have hj' : j < s.length := by simpa using hj
      rw [vsP_getD s hj']
      simp only [beq_eq_false_iff_ne, ne_eq]
      intro hv
      rcases Nat.lt_trichotomy j i with hl | rfl | hl
      · have := h.lo j hj' hl; omega
      · rw [hasAt_lt hj'] at hh; simp [hv] at hh
      · have h1 := h.hi i (by omega) (Nat.le_refl _)
        have h2 := rise_lt hr hl hj'
        omega)
    rw [if_neg hh]
    unfold putAt
    rw [e]
    rfl
/-- The place, as the first at which none is below. -/
theorem lb_any (s : List Pr) (hr : RiseP s) (v : Int) : ∃ i, LbP s v i := by
  refine ⟨(s.filter fun p => decide (p.v < v)).length, ?_⟩
  induction s with
  | nil => exact ⟨Nat.le_refl _, fun k h => absurd h (Nat.not_lt_zero _), fun k h => absurd h (Nat.not_lt_zero _)⟩
  | cons x s ih =>
    have h1 := List.pairwise_cons.1 hr
    have h2 := ih h1.2
    by_cases hx : x.v < v
    · rw [List.filter_cons_of_pos (by simpa using hx), List.length_cons]
      refine ⟨by have := h2.le; simp only [List.length_cons]; omega, fun k h hk => ?_, fun k h hk => ?_⟩
      · cases k with
        | zero => exact hx
        | succ k => exact h2.lo k (by simpa using h) (by omega)
      · cases k with
        | zero => omega
        | succ k => exact h2.hi k (by simpa using h) (by omega)
    · have hf : (List.filter (fun p => decide (p.v < v)) (x :: s)).length = 0 := by
        rw [List.length_eq_zero_iff, List.filter_eq_nil_iff]
        intro y hy
        rcases List.mem_cons.1 hy with rfl | hy
        · simpa using hx
        · have := h1.1 y hy
          simp; omega
      rw [hf]
      refine ⟨Nat.zero_le _, fun k h hk => absurd hk (Nat.not_lt_zero _), fun k h _ => ?_⟩
      cases k with
      | zero => show v ≤ x.v; omega
      | succ k =>
        have := h1.1 _ (List.getElem_mem (by simpa using h : k < s.length))
        show v ≤ (s[k]'_).v
        omega
theorem putAt_some {s : List Pr} (hr : RiseP s) {v : Int} {u : Ty} : putAt (vsP s) (tsP s) v = some u ↔ ∃ p ∈ s, p.v = v ∧ p.ty = u := by
  obtain ⟨i, hi⟩ := lb_any s hr v
  rw [putAt_lb hr hi]
  by_cases hh : hasAt s v i = true
  · obtain ⟨h1, h2⟩ := hasAt_true hh
    rw [if_pos hh, List.getElem?_eq_getElem h1, Option.map_some]
    constructor
    · intro e; injection e with e; exact ⟨_, List.getElem_mem h1, h2, e⟩
    · rintro ⟨p, hp, e1, e2⟩
      rw [← rise_eq hr (List.getElem_mem h1) hp (h2.trans e1.symm)] at e2
      rw [e2]
  · rw [if_neg hh]
    constructor
    · intro e; cases e
    · rintro ⟨p, hp, e1, -⟩
      exfalso
      obtain ⟨k, hk, rfl⟩ := List.mem_iff_getElem.1 hp
      rcases Nat.lt_trichotomy k i with hl | rfl | hl
      · have := hi.lo k hk hl; omega
      · rw [hasAt_lt hk] at hh; simp [e1] at hh
      · have h1 := hi.hi i (by omega) (Nat.le_refl _)
        have h2 := rise_lt hr hl hk
        omega
theorem putAt_no {s : List Pr} (hr : RiseP s) {v : Int} : putAt (vsP s) (tsP s) v = none ↔ ∀ p ∈ s, p.v ≠ v := by
  constructor
  · intro h p hp e
    have := (putAt_some hr).2 ⟨p, hp, e, rfl⟩
    rw [h] at this
    cases this
  · intro h
    cases e : putAt (vsP s) (tsP s) v with
    | none => rfl
    | some u =>
      obtain ⟨p, hp, e1, -⟩ := (putAt_some hr).1 e
      exact absurd e1 (h p hp)
theorem hasAt_iff {s : List Pr} {v : Int} {i : Nat} (hr : RiseP s) (h : LbP s v i) : hasAt s v i = true ↔ (putAt (vsP s) (tsP s) v).isSome = true := by
  rw [putAt_lb hr h]
  by_cases hh : hasAt s v i = true
  · obtain ⟨h1, h2⟩ := hasAt_true hh
    rw [if_pos hh, List.getElem?_eq_getElem h1]
    simp [hh]
  · rw [if_neg hh]
    simp [hh]
/-- With one more. -/
def insP (s : List Pr) (i : Nat) (v : Int) (t : Ty) : List Pr := s.take i ++ ⟨v, t⟩ :: s.drop i
theorem insP_len {s : List Pr} {i : Nat} {v : Int} {t : Ty} (h : i ≤ s.length) : (insP s i v t).length = s.length + 1 := by
  unfold insP
  rw [List.length_append, List.length_cons, List.length_take, List.length_drop]
  omega
theorem insP_mem {s : List Pr} {i : Nat} {v : Int} {t : Ty} {p : Pr} : p ∈ insP s i v t ↔ p = ⟨v, t⟩ ∨ p ∈ s := by
  unfold insP
  rw [List.mem_append, List.mem_cons]
  have : p ∈ s ↔ p ∈ s.take i ∨ p ∈ s.drop i := by rw [← List.mem_append, List.take_append_drop]
  rw [this]
  constructor
  · rintro (h | h | h)
    · exact .inr (.inl h)
    · exact .inl h
    · exact .inr (.inr h)
  · rintro (h | h | h)
    · exact .inr (.inl h)
    · exact .inl h
    · exact .inr (.inr h)
theorem insP_rise {s : List Pr} {i : Nat} {v : Int} {t : Ty} (hr : RiseP s) (h : LbP s v i) (hn : hasAt s v i = false) : RiseP (insP s i v t) := by
  unfold insP RiseP
  have hs : (s.take i ++ s.drop i).Pairwise fun a b => a.v < b.v := by rw [List.take_append_drop]; exact hr
  obtain ⟨h1, h2, h3⟩ := List.pairwise_append.1 hs
  have hlo : ∀ p ∈ s.take i, p.v < v := by
    intro p hp
    obtain ⟨k, hk, rfl⟩ := List.mem_iff_getElem.1 hp
    rw [List.length_take] at hk
    rw [List.getElem_take]
    exact h.lo k (by omega) (by omega)
  have hhi : ∀ p ∈ s.drop i, v < p.v := by
    intro p hp
    obtain ⟨k, hk, rfl⟩ := List.mem_iff_getElem.1 hp
    rw [List.length_drop] at hk
    rw [List.getElem_drop]
    have hi : i < s.length := by omega
    have g := h.hi (i + k) (by omega) (by omega)
    rcases Nat.eq_zero_or_pos k with rfl | hk0
    · rw [hasAt_lt hi] at hn
      have : (s[i]'hi).v ≠ v := by simpa using hn
      simp only [Nat.add_zero] at g ⊢
      omega
    · have := rise_lt hr (show i < i + k by omega) (by omega)
      have := h.hi i hi (Nat.le_refl _)
      omega
  refine List.pairwise_append.2 ⟨h1, List.pairwise_cons.2 ⟨fun p hp => hhi p hp, h2⟩, fun a ha b hb => ?_⟩
  rcases List.mem_cons.1 hb with rfl | hb
  · exact hlo a ha
  · exact h3 a ha b hb
theorem insP_at {s : List Pr} {i : Nat} {v : Int} {t : Ty} (hr : RiseP s) (h : LbP s v i) (hn : hasAt s v i = false) (x : Int) : putAt (vsP (insP s i v t)) (tsP (insP s i v t)) x = if x = v then some t else putAt (vsP s) (tsP s) x := by
  have hri := insP_rise (t := t) hr h hn
  by_cases hx : x = v
  · subst hx
    rw [if_pos rfl, putAt_some hri]
    exact ⟨⟨x, t⟩, insP_mem.2 (.inl rfl), rfl, rfl⟩
  · rw [if_neg hx]
    cases e : putAt (vsP s) (tsP s) x with
    | none =>
      rw [putAt_no hri]
      intro p hp
      rcases insP_mem.1 hp with rfl | hp
      · exact fun e => hx e.symm
      · exact (putAt_no hr).1 e p hp
    | some u =>
      obtain ⟨p, hp, e1, e2⟩ := (putAt_some hr).1 e
      exact (putAt_some hri).2 ⟨p, insP_mem.2 (.inr hp), e1, e2⟩
theorem lb_pure {s s' : List Pr} (h : s.map Pr.pure = s'.map Pr.pure) {v : Int} {i : Nat} (hl : LbP s v i) : LbP s' v i ∧ hasAt s' v i = hasAt s v i := by
  have hlen : s.length = s'.length := by simpa using congrArg List.length h
  have hv : ∀ k (h1 : k < s.length) (h2 : k < s'.length), (s[k]'h1).v = (s'[k]'h2).v := by
    intro k h1 h2
    have : (s.map Pr.pure)[k]? = (s'.map Pr.pure)[k]? := by rw [h]
    rw [List.getElem?_map, List.getElem?_map, List.getElem?_eq_getElem h1, List.getElem?_eq_getElem h2] at this
    have := congrArg (Option.map Prod.fst) this
    simpa [Pr.pure] using this
  refine ⟨⟨by have := hl.le; omega, fun k hk hki => by rw [← hv k (by omega) hk]; exact hl.lo k (by omega) hki, fun k hk hki => by rw [← hv k (by omega) hk]; exact hl.hi k (by omega) hki⟩, ?_⟩
  by_cases hi : i < s.length
  · rw [hasAt_lt hi, hasAt_lt (by omega), hv i hi (by omega)]
  · rw [hasAt_end hi, hasAt_end (by omega)]
theorem rise_pure {s s' : List Pr} (h : s.map Pr.pure = s'.map Pr.pure) (hr : RiseP s) : RiseP s' := by
  have h1 : s.map Pr.v = s'.map Pr.v := by
    have := congrArg (List.map Prod.fst) h
    rw [List.map_map, List.map_map] at this
    exact this
  have h2 : (s.map Pr.v).Pairwise (· < ·) := List.pairwise_map.2 hr
  rw [h1] at h2
  exact List.pairwise_map.1 h2
/-- Two substitutions that say the same put the same. -/
theorem putAt_pure {s s' : List Pr} (h : s.map Pr.pure = s'.map Pr.pure) (hr : RiseP s) (v : Int) : (putAt (vsP s) (tsP s) v).map Ty.pure = (putAt (vsP s') (tsP s') v).map Ty.pure := by
  have hr' := rise_pure h hr
  cases e : putAt (vsP s) (tsP s) v with
  | none =>
    cases e' : putAt (vsP s') (tsP s') v with
    | none => rfl
    | some u =>
      obtain ⟨p, hp, e1, e2⟩ := (putAt_some hr').1 e'
      have : p.pure ∈ s.map Pr.pure := by rw [h]; exact List.mem_map.2 ⟨p, hp, rfl⟩
      obtain ⟨q, hq, e3⟩ := List.mem_map.1 this
      exact absurd ((congrArg Prod.fst e3).trans e1) ((putAt_no hr).1 e q hq)
  | some u =>
    obtain ⟨p, hp, e1, e2⟩ := (putAt_some hr).1 e
    have : p.pure ∈ s'.map Pr.pure := by rw [← h]; exact List.mem_map.2 ⟨p, hp, rfl⟩
    obtain ⟨q, hq, e3⟩ := List.mem_map.1 this
    rw [(putAt_some hr').2 ⟨q, hq, (congrArg Prod.fst e3).trans e1, rfl⟩]
    rw [← e2]
    show some p.ty.pure = some q.ty.pure
    rw [show q.ty.pure = p.ty.pure from congrArg Prod.snd e3]

theorem ty_sd (t : Ty) : ∀ u : Ty, t.pure = u.pure → t.size = u.size ∧ t.depth = u.depth := by
  induction t using Ty.ind with
  | h t ih =>
  intro u hu
  rw [Ty.pure_eq t, Ty.pure_eq u] at hu
  injection hu with _ _ hu
  have hl : t.args.length = u.args.length := by simpa using congrArg List.length hu
  have hk : ∀ i (h1 : i < t.args.length) (h2 : i < u.args.length), (t.args[i]'h1).size = (u.args[i]'h2).size ∧ (t.args[i]'h1).depth = (u.args[i]'h2).depth := by
    intro i h1 h2
    refine ih _ (List.getElem_mem h1) _ ?_
    have : (t.args.map Ty.pure)[i]? = (u.args.map Ty.pure)[i]? := by rw [hu]
    rw [List.getElem?_map, List.getElem?_map, List.getElem?_eq_getElem h1, List.getElem?_eq_getElem h2] at this
    simpa using this
  have e1 : t.args.map Ty.size = u.args.map Ty.size := List.ext_getElem (by simpa using hl) (fun i h1 h2 => by
    simp only [List.getElem_map]
    exact (hk i (by simpa using h1) (by simpa using h2)).1)
  have e2 : t.args.map Ty.depth = u.args.map Ty.depth := List.ext_getElem (by simpa using hl) (fun i h1 h2 => by
    simp only [List.getElem_map]
    exact (hk i (by simpa using h1) (by simpa using h2)).2)
  rw [Ty.size_eq t, Ty.size_eq u, Ty.depth_eq t, Ty.depth_eq u, e2]
  rw [e1]
  exact ⟨rfl, rfl⟩
/-! ### How great what is put is -/
noncomputable def szS (vars : List Int) (types : List Ty) : Ty → Nat := Ty.fold fun t l => if t.con = [] then (match putAt vars types t.var with | some u => u.size | none => 1) else l.sum + 1
theorem szS_eq (vars : List Int) (types : List Ty) (t : Ty) : szS vars types t = if t.con = [] then (match putAt vars types t.var with | some u => u.size | none => 1) else (t.args.map (szS vars types)).sum + 1 := by unfold szS; rw [Ty.fold_eq]
noncomputable def dpS (vars : List Int) (types : List Ty) : Ty → Nat := Ty.fold fun t l => if t.con = [] then (match putAt vars types t.var with | some u => u.depth | none => 1) else l.foldr max 0 + 1
theorem dpS_eq (vars : List Int) (types : List Ty) (t : Ty) : dpS vars types t = if t.con = [] then (match putAt vars types t.var with | some u => u.depth | none => 1) else (t.args.map (dpS vars types)).foldr max 0 + 1 := by unfold dpS; rw [Ty.fold_eq]
/-- A type that is a variable has no args. -/
noncomputable def flatB : Ty → Bool := Ty.allB fun t => !(t.con == ([] : Str)) || t.args.isEmpty
theorem flatB_eq (t : Ty) : flatB t = ((!(t.con == ([] : Str)) || t.args.isEmpty) && t.args.all flatB) := allB_eq _ t
theorem flatB_arg {t k : Ty} (h : flatB t = true) (hk : k ∈ t.args) : flatB k = true := by
  rw [flatB_eq, Bool.and_eq_true, List.all_eq_true] at h
  exact h.2 k hk
theorem flatB_var {t : Ty} (h : flatB t = true) (hc : t.con = []) : t.args = [] := by
  rw [flatB_eq, Bool.and_eq_true] at h
  have := h.1
  rw [hc] at this
  simpa using this
theorem put_size (vars : List Int) (types : List Ty) (t : Ty) : flatB t = true → ∀ u : Ty, u.pure = putP vars types t → u.size = szS vars types t ∧ u.depth = dpS vars types t := by
  induction t using Ty.ind with
  | h t ih =>
  intro hf u hu
  rw [putP_eq] at hu
  rw [szS_eq, dpS_eq]
  by_cases hc : t.con = []
  · rw [if_pos hc] at hu
    rw [if_pos hc, if_pos hc]
    cases e : putAt vars types t.var with
    | none =>
      rw [e] at hu
      have ha := flatB_var hf hc
      have h1 : u.args.length = 0 := by
        rw [Ty.pure_eq u, Option.getD_none, Ty.pure_eq t, ha] at hu
        injection hu with _ _ hu
        simpa using congrArg List.length hu
      have h2 : u.args = [] := List.length_eq_zero_iff.1 h1
      rw [Ty.size_eq, Ty.depth_eq, h2]
      exact ⟨rfl, rfl⟩
    | some x =>
      rw [e, Option.getD_some] at hu
      exact ty_sd u x hu
  · rw [if_neg hc] at hu
    rw [if_neg hc, if_neg hc, Ty.size_eq, Ty.depth_eq]
    rw [Ty.pure_eq u] at hu
    injection hu with _ _ hu
    have hl : u.args.length = t.args.length := by simpa using congrArg List.length hu
    have hk : ∀ i (h1 : i < u.args.length) (h2 : i < t.args.length), (u.args[i]'h1).size = szS vars types (t.args[i]'h2) ∧ (u.args[i]'h1).depth = dpS vars types (t.args[i]'h2) := by
      intro i h1 h2
      refine ih _ (List.getElem_mem h2) (flatB_arg hf (List.getElem_mem h2)) _ ?_
      have : (u.args.map Ty.pure)[i]? = (t.args.map (putP vars types))[i]? := by rw [hu]
      rw [List.getElem?_map, List.getElem?_map, List.getElem?_eq_getElem h1, List.getElem?_eq_getElem h2] at this
      simpa using this
    have e1 : u.args.map Ty.size = t.args.map (szS vars types) := List.ext_getElem (by simpa using hl) (fun i h1 h2 => by
      simp only [List.getElem_map]
      exact (hk i (by simpa using h1) (by simpa using h2)).1)
    have e2 : u.args.map Ty.depth = t.args.map (dpS vars types) := List.ext_getElem (by simpa using hl) (fun i h1 h2 => by
      simp only [List.getElem_map]
      exact (hk i (by simpa using h1) (by simpa using h2)).2)
    rw [e2]
    rw [e1]
    exact ⟨rfl, rfl⟩

/-! ### Variables for variables -/
/-- A type with other variables. -/
noncomputable def renP (r : Int → Int) : Ty → Ty.Pure := Ty.fold fun t l => if t.con = [] then .mk [] (r t.var) [] else .mk t.con t.var l
theorem renP_eq (r : Int → Int) (t : Ty) : renP r t = if t.con = [] then .mk [] (r t.var) [] else .mk t.con t.var (t.args.map (renP r)) := by unfold renP; rw [Ty.fold_eq]
theorem put_ren (vars : List Int) (types : List Ty) (r : Int → Int) (t : Ty) (h : ∀ v ∈ t.vars, (putAt vars types v).map Ty.pure = some (.mk [] (r v) [])) : putP vars types t = renP r t := by
  induction t using Ty.ind with
  | h t ih =>
  rw [putP_eq, renP_eq]
  rw [vars_eq] at h
  by_cases hc : t.con = []
  · rw [if_pos hc, if_pos hc]
    have := h t.var (by rw [if_pos hc]; simp)
    cases e : putAt vars types t.var with
    | none => rw [e] at this; cases this
    | some u =>
      rw [e] at this
      simpa using this
  · rw [if_neg hc, if_neg hc]
    congr 1
    exact List.map_congr_left (fun k hk => ih k hk (fun v hv => h v (List.mem_append.2 (.inr (List.mem_flatten.2 ⟨_, List.mem_map.2 ⟨k, hk, rfl⟩, hv⟩)))))
theorem ren_size (r : Int → Int) (t : Ty) : flatB t = true → ∀ u : Ty, u.pure = renP r t → u.size = t.size ∧ u.depth = t.depth := by
  induction t using Ty.ind with
  | h t ih =>
  intro hf u hu
  rw [renP_eq] at hu
  rw [Ty.size_eq, Ty.depth_eq, Ty.size_eq t, Ty.depth_eq t]
  rw [Ty.pure_eq u] at hu
  by_cases hc : t.con = []
  · rw [if_pos hc] at hu
    injection hu with _ _ hu
    have h2 : u.args = [] := by simpa using hu
    rw [h2, flatB_var hf hc]
    exact ⟨rfl, rfl⟩
  · rw [if_neg hc] at hu
    injection hu with _ _ hu
    have hl : u.args.length = t.args.length := by simpa using congrArg List.length hu
    have hk : ∀ i (h1 : i < u.args.length) (h2 : i < t.args.length), (u.args[i]'h1).size = (t.args[i]'h2).size ∧ (u.args[i]'h1).depth = (t.args[i]'h2).depth := by
      intro i h1 h2
      refine ih _ (List.getElem_mem h2) (flatB_arg hf (List.getElem_mem h2)) _ ?_
      have : (u.args.map Ty.pure)[i]? = (t.args.map (renP r))[i]? := by rw [hu]
      rw [List.getElem?_map, List.getElem?_map, List.getElem?_eq_getElem h1, List.getElem?_eq_getElem h2] at this
      simpa using this
    have e1 : u.args.map Ty.size = t.args.map Ty.size := List.ext_getElem (by simpa using hl) (fun i h1 h2 => by
      simp only [List.getElem_map]
      exact (hk i (by simpa using h1) (by simpa using h2)).1)
    have e2 : u.args.map Ty.depth = t.args.map Ty.depth := List.ext_getElem (by simpa using hl) (fun i h1 h2 => by
      simp only [List.getElem_map]
      exact (hk i (by simpa using h1) (by simpa using h2)).2)
    rw [e2]
    rw [e1]
    exact ⟨rfl, rfl⟩

end Go.Proofs.YtmjiljhcjfnfpaaGreat
