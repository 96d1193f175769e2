/- Texts as lists of bytes; rows of texts; append from a row that may be nil. No program in sight. -/
import Derived.Test.YtbfggmeppakcgaaGreatJA1
import Derived.Maps.AppendAt
import Derived.Deep.AppendLies
import Derived.OwnWalk
import Derived.Sort.EncStr
/- Texts as lists of bytes; rows of texts; append from a row that may be nil. No program in sight. -/
namespace Go.Proofs.YtbfggmeppakcgaaGreat
open Go.RowKit Go.Sort

abbrev Str := List UInt8

theorem lt_of_obj {w : World} {b : Nat} {o : Obj} (h : w.heap[b]? = some o) : b < w.heap.size := by
  rcases Nat.lt_or_ge b w.heap.size with h' | h'
  · exact h'
  · rw [Array.getElem?_eq_none h'] at h; cases h

/-- Texts that stand in memory. -/
def Strs (w : World) (A : Option Addr) (l : List Str) : Prop := Row w A 1 l.length (l.map encStr)

section
variable {w w' : World} {A : Option Addr} {l : List Str}
theorem Strs.at_ (h : Strs w A l) {i : Nat} (hi : i < l.length) : ∃ b o, A = some ⟨b, o, none⟩ ∧ b < w.heap.size ∧ w.cell? ⟨b, o + i, none⟩ = some (.string ⟨(l.getD i []).toArray⟩) := by
  obtain ⟨b, o, e, hb, hc⟩ := h.2 (by omega)
  exact ⟨b, o, e, hb, hc i _ (by simp [hi])⟩
theorem Strs.ext (h : Strs w A l) (k : Ext w w') : Strs w' A l := Row.ext h k
theorem Strs.nil (A : Option Addr) : Strs w A [] := Row.nil A 1
theorem Strs.cut (h : Strs w A l) {k cap : Nat} (hk : k ≤ l.length) (hc : l.length ≤ cap) : Strs w (if cap = k then A else A.map (·.add (k * 1))) (l.drop k) := by
  have := Row.cut h hk hc
  unfold Strs
  rw [List.length_drop, List.map_drop]
  simpa using this
theorem Strs.take (h : Strs w A l) {k : Nat} (hk : k ≤ l.length) : Strs w A (l.take k) := by
  refine ⟨by simp, fun hn => ?_⟩
  obtain ⟨b, o, e, hb, hc⟩ := h.2 (by simp at hn; omega)
  refine ⟨b, o, e, hb, fun j u hu => hc j u ?_⟩
  rw [List.map_take, List.getElem?_take] at hu
  split at hu
  · exact hu
  · cases hu
theorem Strs.of_own {base : Nat} {e : TypeId} {v : Value} (h : w.ownsRow base e 1 v l.length (l.map encStr)) :
    ∃ A cap, v = .slice A l.length cap ∧ l.length ≤ cap ∧ cap ≤ 9223372036854775807 ∧ Strs w A l ∧ ∀ c o, A = some ⟨c, o, none⟩ → base ≤ c ∧ c < w.heap.size := by
  rcases h.2 with ⟨rfl, h0⟩ | ⟨g, cap, cur, rfl, hb, hg, hle, hmax, hsz, htk⟩
  · have : l = [] := List.eq_nil_of_length_eq_zero h0
    subst this
    exact ⟨none, 0, rfl, Nat.le_refl _, by omega, Strs.nil _, fun _ _ h => by cases h⟩
  · have hlt : g < w.heap.size := (Array.getElem?_eq_some_iff.1 hg).1
    refine ⟨some ⟨g, 0, none⟩, cap, rfl, hle, by unfold maxLen at hmax; omega, ⟨by simp, fun _ => ⟨g, 0, rfl, hlt, fun j u hu => ?_⟩⟩, fun c o h => ?_⟩
    · have := h.cells rfl j u hu
      by_cases h0 : j = 0
      · subst h0; simpa [Addr.add] using this
      · simpa [Addr.add, h0] using this
    · injection h with h; injection h with h; omega
end

theorem one_strs (l : List Str) : ∀ u ∈ l.map encStr, u.oneCell' = true := by
  intro u hu
  obtain ⟨x, _, rfl⟩ := List.mem_map.1 hu
  rfl

section
variable {P : Program} (w : World)
theorem run_append_none (base : Nat) (t ty e : TypeId) (i : TypeInfo) (size : Nat) (ht : P.underlying t = some (.slice e)) (hi : P.info? e = some i)
    (v : Value) (n : Nat) (xs : List Value) (hown : w.ownsRow base e size v n xs) (A : Option Addr) (hA : A = none) (c : Nat) : (Builtin.append_ #[t, t] ty #[v, .slice A 0 c]).run P w = .ok v w := by
  subst hA
  rcases hown.2 with ⟨rfl, _⟩ | ⟨g, cap, cur, rfl, _, _, hnc, _⟩
  · simp [Builtin.append_, run_underlying ht, sizeOf, typeInfo, hi, Builtin.lenOf, Builtin.firstCells]
  · simp [Builtin.append_, run_underlying ht, sizeOf, typeInfo, hi, Builtin.lenOf, Builtin.firstCells, hnc, storeCells]

theorem run_append_row (base : Nat) (t ty e : TypeId) (i : TypeInfo) (z : Value) (size bytes : Nat) (ht : P.underlying t = some (.slice e)) (hi : P.info? e = some i) (hz : i.zero = some z)
    (hsize : i.size = size) (hby : i.bytes = bytes) (hzs : z.cells.size = size) (hsz : 0 < size)
    (v : Value) (n : Nat) (xs : List Value) (hown : w.ownsRow base e size v n xs)
    (A : Option Addr) (m c : Nat) (news : List Value) (hr : Row w A size m news) (h1 : ∀ u ∈ news, u.oneCell' = true)
    (h63 : n + m ≤ maxLen) (hbytes : (n + m) * bytes ≤ 140737488355328) (hbase : base ≤ w.heap.size) :
    ∃ v' w', (Builtin.append_ #[t, t] ty #[v, .slice A m c]).run P w = .ok v' w' ∧ w'.ownsRow base e size v' (n + m) (xs ++ news) ∧ w.grownBy w' v.ownBlock ∧
      (v'.ownBlock = v.ownBlock ∨ v'.ownBlock = some w.heap.size) := by
  rcases A with _ | ad
  · have hm : m = 0 := by
      rcases Nat.eq_zero_or_pos m with h0 | h0
      · exact h0
      · obtain ⟨_, _, h, _⟩ := hr.2 h0
        cases h
    subst hm
    have hn : news = [] := List.eq_nil_of_length_eq_zero (by simpa using hr.1)
    subst hn
    exact ⟨v, w, run_append_none w base t ty e i size ht hi v n xs hown none rfl c, by simpa using hown, World.grownBy.refl w _, .inl rfl⟩
  · have hcells : ∀ j u, news[j]? = some u → w.cell? (ad.add j) = some u := by
      intro j u hu
      rcases Nat.eq_zero_or_pos m with h0 | h0
      · subst h0
        have hn : news = [] := List.eq_nil_of_length_eq_zero (by simpa using hr.1)
        subst hn
        simp at hu
      · obtain ⟨b, o, h, _, hc⟩ := hr.2 h0
        injection h with h
        subst h
        have := hc j u hu
        unfold Addr.add
        split
        · rename_i hj; subst hj; simpa using this
        · exact this
    obtain ⟨v', w', hrun, h2, h3, _, h5⟩ := run_append_own_at (P := P) w base t ty e i z size bytes ht hi hz hsize hby hzs hsz v n xs hown ad m c news hr.1 hcells h1 h63 hbytes hbase
    exact ⟨v', w', hrun, h2, h3, h5⟩

theorem wp_append_row {o : Oper} {a : Act} {K : Act → World → Prop} {Q : Exit → Act → World → Prop} (s x : Operand) (t : TypeId)
    (ho : o.op = .call { callee := .builtin .append, args := #[s, x], argTypes := #[t, t] })
    (base : Nat) (e : TypeId) (i : TypeInfo) (z : Value) (size bytes : Nat) (ht : P.underlying t = some (.slice e)) (hi : P.info? e = some i) (hz : i.zero = some z)
    (hsize : i.size = size) (hby : i.bytes = bytes) (hzs : z.cells.size = size) (hsz : 0 < size)
    (v : Value) (n : Nat) (xs : List Value) (hs : a.eval s = v) (hown : w.ownsRow base e size v n xs)
    (A : Option Addr) (m c : Nat) (news : List Value) (hx : a.eval x = .slice A m c) (hr : Row w A size m news) (h1 : ∀ u ∈ news, u.oneCell' = true)
    (h63 : n + m ≤ maxLen) (hbytes : (n + m) * bytes ≤ 140737488355328) (hbase : base ≤ w.heap.size)
    (h : ∀ v' w', w'.ownsRow base e size v' (n + m) (xs ++ news) → w.grownBy w' v.ownBlock → (v'.ownBlock = v.ownBlock ∨ v'.ownBlock = some w.heap.size) → K (a.put o.dst v') w') : o.wp P a w K Q := by
  obtain ⟨v', w', hrun, h2, h3, h4⟩ := run_append_row (P := P) w base t o.type e i z size bytes ht hi hz hsize hby hzs hsz v n xs hown A m c news hr h1 h63 hbytes hbase
  unfold Oper.wp execOp
  simp only [ho, resolve, invoke, builtin, Sem.run_bind, Sem.run_pure, Result.andThen_ok, List.map_toArray, List.map_cons, List.map_nil, hs, hx, hrun]
  exact h v' w' h2 h3 h4

theorem wpList_append_row {ops : Array Oper} {rest : List Oper} {o : Oper} {a : Act} {Q : Exit → Act → World → Prop} (hgd : o.guard = none) (s x : Operand) (t : TypeId)
    (ho : o.op = .call { callee := .builtin .append, args := #[s, x], argTypes := #[t, t] })
    (base : Nat) (e : TypeId) (i : TypeInfo) (z : Value) (size bytes : Nat) (ht : P.underlying t = some (.slice e)) (hi : P.info? e = some i) (hz : i.zero = some z)
    (hsize : i.size = size) (hby : i.bytes = bytes) (hzs : z.cells.size = size) (hsz : 0 < size)
    (v : Value) (n : Nat) (xs : List Value) (hs : a.eval s = v) (hown : w.ownsRow base e size v n xs)
    (A : Option Addr) (m c : Nat) (news : List Value) (hx : a.eval x = .slice A m c) (hr : Row w A size m news) (h1 : ∀ u ∈ news, u.oneCell' = true)
    (h63 : n + m ≤ maxLen) (hbytes : (n + m) * bytes ≤ 140737488355328) (hbase : base ≤ w.heap.size)
    (h : ∀ v' w', w'.ownsRow base e size v' (n + m) (xs ++ news) → w.grownBy w' v.ownBlock → (v'.ownBlock = v.ownBlock ∨ v'.ownBlock = some w.heap.size) → wpList P ops Q rest (a.put o.dst v') w') : wpList P ops Q (o :: rest) a w :=
  wpList_plain hgd fun _ hK => wp_append_row w s x t ho base e i z size bytes ht hi hz hsize hby hzs hsz v n xs hs hown A m c news hx hr h1 h63 hbytes hbase fun v' w' h2 h3 h4 => hK _ _ (h v' w' h2 h3 h4)
end

/-- After an append to a row of the call's own, what was there before the call is as it was. -/
theorem Ext.app {w a b : World} {base : Nat} {e : TypeId} {size : Nat} {v : Value} {n : Nat} {xs : List Value} (h : Ext w a) (hg : a.grownBy b v.ownBlock) (ho : a.ownsRow base e size v n xs) (hb : w.heap.size ≤ base) : Ext w b :=
  h.grown hg (fun k hk => by have := (ho.lt k hk).1; omega)

end Go.Proofs.YtbfggmeppakcgaaGreat

/- Rows of anything that is told by its cells. No program in sight. -/
namespace Go.Proofs.YtbfggmeppakcgaaGreat
open Go.RowKit

/-- How things lie in memory: `k` cells each. -/
structure Coder (α : Type) where
  k : Nat
  f : α → List Value
  hf : ∀ x, (f x).length = k
  pos : 0 < k

section
variable {α : Type} (C : Coder α) {w w' : World} {A : Option Addr} {l : List α}
def RowOf (w : World) (A : Option Addr) (l : List α) : Prop := Row w A C.k l.length (l.flatMap C.f)
theorem RowOf.ext (h : RowOf C w A l) (k : Ext w w') : RowOf C w' A l := Row.ext h k
theorem RowOf.nil (w : World) (A : Option Addr) : RowOf C w A [] := Row.nil A _
theorem RowOf.at_ (h : RowOf C w A l) {i : Nat} (hi : i < l.length) :
    ∃ b o, A = some ⟨b, o, none⟩ ∧ b < w.heap.size ∧ ∀ j, j < C.k → w.cell? ⟨b, o + i * C.k + j, none⟩ = (C.f (l[i]'hi))[j]? := by
  obtain ⟨b, o, e, hb, hc⟩ := h.2 (by omega)
  refine ⟨b, o, e, hb, fun j hj => ?_⟩
  have g : (l.flatMap C.f)[i * C.k + j]? = (C.f (l[i]'hi))[j]? := by
    rw [flat_get _ C.k C.hf l i j hj, List.getElem?_eq_getElem hi]; rfl
  have hl : j < (C.f (l[i]'hi)).length := by rw [C.hf]; exact hj
  rw [List.getElem?_eq_getElem hl] at g ⊢
  have := hc _ _ g
  rwa [← Nat.add_assoc] at this
theorem RowOf.cut (h : RowOf C w A l) {k cap : Nat} (hk : k ≤ l.length) (hc : l.length ≤ cap) : RowOf C w (if cap = k then A else A.map (·.add (k * C.k))) (l.drop k) := by
  have := Row.cut h hk hc
  unfold RowOf
  rw [List.length_drop, ← flat_drop _ _ C.hf]
  exact this
theorem RowOf.take (h : RowOf C w A l) {k : Nat} (hk : k ≤ l.length) : RowOf C w A (l.take k) := by
  refine ⟨flat_len _ _ C.hf _, fun hn => ?_⟩
  obtain ⟨b, o, e, hb, hc⟩ := h.2 (by simp at hn; omega)
  refine ⟨b, o, e, hb, fun j u hu => hc j u ?_⟩
  have e1 : l.flatMap C.f = (l.take k).flatMap C.f ++ (l.drop k).flatMap C.f := by rw [← List.flatMap_append, List.take_append_drop]
  rw [e1, List.getElem?_append_left (List.getElem?_eq_some_iff.1 hu).1]
  exact hu
theorem RowOf.own {base : Nat} {e : TypeId} {v : Value} (h : w.ownsRow base e C.k v l.length (l.flatMap C.f)) :
    ∃ A cap, v = .slice A l.length cap ∧ l.length ≤ cap ∧ cap ≤ 9223372036854775807 ∧ RowOf C w A l ∧ ∀ c o, A = some ⟨c, o, none⟩ → base ≤ c ∧ c < w.heap.size := by
  rcases h.2 with ⟨rfl, h0⟩ | ⟨g, cap, cur, rfl, hb, hg, hle, hmax, hsz, htk⟩
  · have : l = [] := List.eq_nil_of_length_eq_zero h0
    subst this
    exact ⟨none, 0, rfl, Nat.le_refl _, by omega, RowOf.nil C _ _, fun _ _ h => by cases h⟩
  · have hlt : g < w.heap.size := (Array.getElem?_eq_some_iff.1 hg).1
    refine ⟨some ⟨g, 0, none⟩, cap, rfl, hle, by unfold maxLen at hmax; omega, ⟨flat_len _ _ C.hf _, fun _ => ⟨g, 0, rfl, hlt, fun j u hu => ?_⟩⟩, fun c o h => ?_⟩
    · have := h.cells rfl j u hu
      by_cases h0 : j = 0
      · subst h0; simpa [Addr.add] using this
      · simpa [Addr.add, h0] using this
    · injection h with h; injection h with h; omega
theorem RowOf.block {b : Nat} {t : TypeId} {fr : Nat × Nat} (l : List α) (h : w.heap[b]? = some (.cells (l.flatMap C.f).toArray t fr)) : RowOf C w (some ⟨b, 0, none⟩) l := by
  refine ⟨flat_len _ _ C.hf _, fun _ => ⟨b, 0, rfl, lt_of_obj h, fun j u hu => ?_⟩⟩
  rw [Nat.zero_add]
  simp only [World.cell?, h]
  simpa using hu
theorem flat_one (f : α → Value) (l : List α) : l.flatMap (fun x => [f x]) = l.map f := by
  induction l with
  | nil => rfl
  | cons x l ih => simp [ih]
end

def strC : Coder Str := ⟨1, fun x => [encStr x], fun _ => rfl, by omega⟩
def intC : Coder Int := ⟨1, fun x => [.int .i64 x], fun _ => rfl, by omega⟩
abbrev Ints (w : World) (A : Option Addr) (l : List Int) : Prop := RowOf intC w A l
theorem strs_iff {w : World} {A : Option Addr} {l : List Str} : Strs w A l ↔ RowOf strC w A l := by
  unfold Strs RowOf
  show _ ↔ Row w A 1 l.length (l.flatMap fun x => [encStr x])
  rw [flat_one]
theorem Ints.at_ {w : World} {A : Option Addr} {l : List Int} (h : Ints w A l) {i : Nat} (hi : i < l.length) :
    ∃ b o, A = some ⟨b, o, none⟩ ∧ b < w.heap.size ∧ w.cell? ⟨b, o + i, none⟩ = some (.int .i64 (l[i]'hi)) := by
  obtain ⟨b, o, e, hb, hc⟩ := RowOf.at_ intC h hi
  refine ⟨b, o, e, hb, ?_⟩
  have := hc 0 (by decide)
  simpa [intC] using this
theorem Ints.own {w : World} {base : Nat} {e : TypeId} {v : Value} {l : List Int} (h : w.ownsRow base e 1 v l.length (l.map (Value.int .i64))) :
    ∃ A cap, v = .slice A l.length cap ∧ l.length ≤ cap ∧ cap ≤ 9223372036854775807 ∧ Ints w A l ∧ ∀ c o, A = some ⟨c, o, none⟩ → base ≤ c ∧ c < w.heap.size := by
  refine RowOf.own intC (e := e) ?_
  show w.ownsRow base e 1 v l.length (l.flatMap fun x => [.int .i64 x])
  rw [flat_one]
  exact h
theorem Ints.row {w : World} {A : Option Addr} {l : List Int} (h : Ints w A l) : Row w A 1 l.length (l.map (Value.int .i64)) := by
  have := h
  unfold Ints RowOf at this
  rwa [show l.flatMap intC.f = l.map (Value.int .i64) from flat_one _ l] at this
theorem one_ints (l : List Int) : ∀ u ∈ l.map (Value.int .i64), u.oneCell' = true := by
  intro u hu
  obtain ⟨x, _, rfl⟩ := List.mem_map.1 hu
  rfl

end Go.Proofs.YtbfggmeppakcgaaGreat
