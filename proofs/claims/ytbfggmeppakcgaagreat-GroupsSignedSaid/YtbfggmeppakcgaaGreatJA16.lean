/- Chapter 15, plain: which are bindings, the map of names, the edges; a range's step, names and numbers; slices of slices that are own. No walk here. -/
import Derived.Test.YtbfggmeppakcgaaGreatJA15
import Derived.Maps.RangeWalk
import Derived.Maps.Ext
/- Chapter 15, plain: which are bindings, the map of names, the edges; a range's step, names and numbers; slices of slices that are own. No walk here. -/
namespace Go.Proofs.YtbfggmeppakcgaaGreat
open Go.RowKit Go.Sort Go.Maps

def intS : SD → Int
  | .lit (.int _ a) => a
  | _ => 0
def intD (x : Int) : SD := .lit (.int .i64 x)
/-- What a name leads to. -/
def lookI (D : SD) (x : Str) : Option Int := if has D (.string x) then some (intS (D.atKey (.string x) (intD 0))) else none
theorem lookI_empty (x : Str) : lookI (.map []) x = none := rfl
theorem lookI_put (D : SD) (h : IsMap D) (k : Str) (v : Int) (y : Str) : lookI (D.put (.string k) (intD v)) y = if y = k then some v else lookI D y := by
  unfold lookI
  by_cases e : y = k
  · subst e
    rw [has_put_same (k := .string y) h trivial, atKey_put_same (k := .string y) h trivial, if_pos rfl, if_pos rfl]
    rfl
  · rw [has_put_other (by intro h; injection h with h; exact e h), atKey_put_other (by intro h; injection h with h; exact e h), if_neg e]
theorem lookI_del (D : SD) (k y : Str) : lookI (D.del (.string k)) y = if y = k then none else lookI D y := by
  unfold lookI
  by_cases e : y = k
  · subst e
    rw [has_del_same, if_pos rfl]
    rfl
  · rw [has_del_other (by intro h; injection h with h; exact e h), atKey_del_other (by intro h; injection h with h; exact e h), if_neg e]

/-- Names, each with its index (the last one counts). -/
def idxD (l : List Str) : SD := l.zipIdx.foldl (fun D p => D.put (.string p.1) (intD (p.2 : Nat))) (.map [])
theorem idxD_nil : idxD [] = .map [] := rfl
theorem idxD_snoc (l : List Str) (x : Str) : idxD (l ++ [x]) = (idxD l).put (.string x) (intD (l.length : Nat)) := by
  unfold idxD
  rw [List.zipIdx_append, List.foldl_append]
  simp
theorem idxD_map (l : List Str) : IsMap (idxD l) := by
  unfold idxD
  generalize l.zipIdx = z
  have : ∀ (z : List (Str × Nat)) (D : SD), IsMap D → IsMap (z.foldl (fun D p => D.put (.string p.1) (intD (p.2 : Nat))) D) := by
    intro z
    induction z with
    | nil => intro D h; exact h
    | cons p z ih => intro D h; exact ih _ (h.put _ _)
  exact this z _ isMap_empty
theorem idxD_some : ∀ {l : List Str} {x : Str} {v : Int}, lookI (idxD l) x = some v → x ∈ l ∧ 0 ≤ v ∧ v < (l.length : Int) := by
  intro l
  induction hl : l.length generalizing l with
  | zero =>
    intro x v h
    rw [List.length_eq_zero_iff.1 hl] at h
    cases h
  | succ n ih =>
    intro x v h
    obtain ⟨l0, y, rfl⟩ : ∃ l0 y, l = l0 ++ [y] := ⟨l.dropLast, l.getLast (by intro e; rw [e] at hl; cases hl), (List.dropLast_concat_getLast _).symm⟩
    have hn : l0.length = n := by simpa using hl
    rw [idxD_snoc, lookI_put _ (idxD_map _)] at h
    by_cases e : x = y
    · rw [if_pos e] at h
      injection h with h
      subst h
      refine ⟨by simp [e], by omega, ?_⟩
      rw [hn]
      omega
    · rw [if_neg e] at h
      obtain ⟨a, b, c⟩ := ih hn h
      exact ⟨by simp [a], b, by omega⟩
def delD (ss : List Str) (D : SD) : SD := ss.foldl (fun D x => D.del (.string x)) D
theorem delD_snoc (ss : List Str) (x : Str) (D : SD) : delD (ss ++ [x]) D = (delD ss D).del (.string x) := by simp [delD, List.foldl_append]
theorem lookI_delD : ∀ (ss : List Str) (D : SD) (y : Str), lookI (delD ss D) y = if y ∈ ss then none else lookI D y
  | [], D, y => by simp [delD]
  | s :: ss, D, y => by
    show lookI (delD ss (D.del (.string s))) y = _
    rw [lookI_delD ss, lookI_del]
    by_cases h1 : y ∈ ss
    · simp [h1]
    · by_cases h2 : y = s <;> simp [h1, h2]

/-- The bindings, each with its place. -/
def plOf (l : List Tree) : List (Tree × Nat) := l.zipIdx.filter fun p => p.1.kind == 31
def placesL (l : List Tree) : List Nat := (plOf l).map (·.2)
theorem plOf_take (l : List Tree) {k : Nat} (h : k < l.length) : plOf (l.take (k + 1)) = plOf (l.take k) ++ if (l[k]'h).kind == 31 then [(l[k]'h, k)] else [] := by
  unfold plOf
  rw [List.take_succ_eq_append_getElem h, List.zipIdx_append, List.filter_append]
  congr 1
  rw [List.length_take, Nat.min_eq_left (by omega)]
  cases hk : ((l[k]'h).kind == 31) <;> simp [hk]
theorem plOf_len (l : List Tree) : (plOf l).length ≤ l.length := by
  unfold plOf
  have := List.length_filter_le (fun p : Tree × Nat => p.1.kind == 31) l.zipIdx
  simpa using this
theorem plOf_mem {l : List Tree} {p : Tree × Nat} (h : p ∈ plOf l) : ∃ h : p.2 < l.length, l[p.2]'h = p.1 ∧ p.1.kind = 31 := by
  unfold plOf at h
  obtain ⟨h1, h2⟩ := List.mem_filter.1 h
  obtain ⟨t, i⟩ := p
  have := List.mem_zipIdx_iff_getElem?.1 h1
  obtain ⟨h3, h4⟩ := List.getElem?_eq_some_iff.1 this
  exact ⟨h3, h4, by simpa using h2⟩
theorem plOf_names (l : List Tree) : (plOf l).map (·.1.text) = bindsL l := by
  unfold plOf bindsL
  have : ∀ (l : List Tree) (n : Nat), ((l.zipIdx n).filter fun p => p.1.kind == 31).map (·.1.text) = (l.filter fun t => t.kind == 31).map Tree.text := by
    intro l
    induction l with
    | nil => intro n; rfl
    | cons t l ih =>
      intro n
      rw [List.zipIdx_cons]
      cases h : (t.kind == 31)
      · rw [List.filter_cons_of_neg (by simp [h]), List.filter_cons_of_neg (by simp [h]), ih]
      · rw [List.filter_cons_of_pos (by simpa using h), List.filter_cons_of_pos (by simpa using h), List.map_cons, List.map_cons, ih]
  exact this l 0

/-- The edges: to what each one's only hit leads. -/
def hitE (F : Str → Option Int) (u : List Str) (q : Nat) : List Edge := match u.findSome? F with | some v => [⟨q, v⟩] | none => []
def edgesG (F : Str → Option Int) (us : List (List Str)) (q : Nat) : List Edge := (List.range q).flatMap fun j => hitE F (us.getD j []) j
theorem edgesG_succ (F : Str → Option Int) (us : List (List Str)) (q : Nat) : edgesG F us (q + 1) = edgesG F us q ++ hitE F (us.getD q []) q := by
  unfold edgesG
  rw [List.range_succ, List.flatMap_append]
  simp
theorem hitE_len (F : Str → Option Int) (u : List Str) (q : Nat) : (hitE F u q).length ≤ 1 := by
  unfold hitE
  split <;> simp
theorem edgesG_len (F : Str → Option Int) (us : List (List Str)) : ∀ q, (edgesG F us q).length ≤ q
  | 0 => by simp [edgesG]
  | q + 1 => by
    rw [edgesG_succ, List.length_append]
    have := edgesG_len F us q
    have := hitE_len F (us.getD q []) q
    omega
theorem hit_none {F : Str → Option Int} {u : List Str} (h : ∀ x ∈ u, (F x).isSome = false) (q : Nat) : hitE F u q = [] := by
  unfold hitE
  have : u.findSome? F = none := List.findSome?_eq_none_iff.2 (fun x hx => by simpa using h x hx)
  rw [this]
theorem hit_some {F : Str → Option Int} {u : List Str} (h1 : ∀ x ∈ u, ∀ y ∈ u, (F x).isSome = true → (F y).isSome = true → x = y) {x : Str} (hx : x ∈ u) {v : Int} (hv : F x = some v) (q : Nat) : hitE F u q = [⟨q, v⟩] := by
  unfold hitE
  cases hf : u.findSome? F with
  | none =>
    have := List.findSome?_eq_none_iff.1 hf x hx
    rw [hv] at this
    cases this
  | some z =>
    obtain ⟨y, hy, hyz⟩ := List.exists_of_findSome?_eq_some hf
    have : x = y := h1 x hx y hy (by rw [hv]; rfl) (by rw [hyz]; rfl)
    subst this
    rw [hv] at hyz
    injection hyz with hyz
    rw [hyz]
theorem edgesG_ok {F : Str → Option Int} {us : List (List Str)} {n : Nat} (hn : n ≤ 1000) (hF : ∀ x v, F x = some v → 0 ≤ v ∧ v < (n : Int)) : graphOk n (edgesG F us n) = true := by
  unfold graphOk
  rw [Bool.and_eq_true, Bool.and_eq_true]
  refine ⟨⟨by simp, by simp; omega⟩, ?_⟩
  rw [List.all_eq_true]
  intro e he
  unfold edgesG at he
  obtain ⟨j, hj, hje⟩ := List.mem_flatMap.1 he
  have hjn := List.mem_range.1 hj
  unfold hitE at hje
  cases hf : (us.getD j []).findSome? F with
  | none => rw [hf] at hje; cases hje
  | some v =>
    rw [hf] at hje
    obtain ⟨y, _, hyz⟩ := List.exists_of_findSome?_eq_some hf
    have := hF y v hyz
    simp at hje
    subst hje
    unfold edgeOk
    simp
    omega

/-- The range's step, names and numbers. -/
theorem wpList_next_ranges_si {P : Program} (w : World) {ops : Array Oper} {rest : List Oper} {o : Oper} {a : Act} {Q : Exit → Act → World → Prop}
    (hg : o.guard = none) (it : Operand) (hop : o.op = Op.next it false) (k e : TypeId) (K : Keyed P k) (hk : P.underlying k = some .string) (he : P.underlying e = some (.int .i64))
    (b r n : Nat) (D : SD) (left : Lit → Bool) (cnt : Nat) (hit : a.eval it = .pointer (some ⟨r, 0, none⟩)) (h : w.ranges P k (plainElem P e) b r n D left cnt)
    (hDone : cnt = 0 → (∀ kl, left kl = false) → wpList P ops Q rest (a.put o.dst (.tuple #[.bool false])) w)
    (hMore : ∀ (x : Str) (c : Int) (w' : World) (cnt' : Nat), x.length ≤ 9223372036854775807 → left (.string x) = true → (∀ zd, D.atKey (.string x) zd = intD c) → w'.ranges P k (plainElem P e) b r n D (fun z => left z && !z.sameKey (.string x)) cnt' → cnt' < cnt →
      w.grownBy w' (some r) → w'.heap.size = w.heap.size → (Instr.entry (.pointer (some ⟨r, 0, none⟩))).run P w' = .ok (.tuple #[encStr x, .int .i64 c]) w' → wpList P ops Q rest (a.put o.dst (.tuple #[.bool true, encStr x, .int .i64 c])) w') :
    wpList P ops Q (o :: rest) a w :=
  wpList_next_ranges w hg it hop k K (plainElem P e) encStr (Value.int .i64) (fun key kl hkey => by obtain ⟨x, hx, -⟩ := Maps.keyOf_str hk hkey; exact ⟨x, hx⟩)
    (fun v y hv => by obtain ⟨c, rfl, _⟩ := plainElem_int_inv he hv; exact ⟨c, rfl⟩)
    b r n D left cnt hit h hDone (fun x c kl y w' cnt' hkey hlk hv hat hrg hlt hgr hsz hen => by
      obtain ⟨x', ex, rfl, hwx⟩ := Maps.keyOf_str hk hkey
      have ex : x = x' := by
        unfold encStr at ex
        injection ex with ex
        injection ex with ex
        have := congrArg Array.toList ex
        simpa using this
      subst ex
      obtain ⟨c', ec, rfl, hwc⟩ := plainElem_int_inv he hv
      cases ec
      exact hMore x c w' cnt' (by have := hwx; unfold maxLen at this; omega) hlk (fun zd => hat zd) hrg hlt hgr hsz hen)

theorem own_monoB {w : World} {base base' : Nat} {e : TypeId} {size : Nat} {v : Value} {n : Nat} {xs : List Value} (h : w.ownsRow base e size v n xs) (hb : base' ≤ base) : w.ownsRow base' e size v n xs := by
  rcases h with ⟨h1, h2 | ⟨g, cap, cur, he, hg, h3⟩⟩
  · exact ⟨h1, .inl h2⟩
  · exact ⟨h1, .inr ⟨g, cap, cur, he, Nat.le_trans hb hg, h3⟩⟩
/-- A number stored into an own row. -/
theorem own_put {w : World} {base : Nat} {e : TypeId} {v : Value} {l : List Int} (h : w.ownsRow base e 1 v l.length (l.map (Value.int .i64))) {k : Nat} (hk : k < l.length) :
    ∃ g cap, v = .slice (some ⟨g, 0, none⟩) l.length cap ∧ base ≤ g ∧ g < w.heap.size ∧ w.frozen? ⟨g, k, none⟩ = false ∧ w.cell? ⟨g, k, none⟩ = some (.int .i64 (l[k]'hk)) ∧ ∀ x : Int, (w.setCell ⟨g, k, none⟩ (.int .i64 x)).ownsRow base e 1 v (l.set k x).length ((l.set k x).map (Value.int .i64)) := by
  rcases h with ⟨h1, ⟨rfl, h0⟩ | ⟨g, cap, cur, he, hg, hb, h3, h4, h5, h6⟩⟩
  · omega
  · have hc : k < cur.size := by omega
    have hck : cur[k]? = some (.int .i64 (l[k]'hk)) := by
      have : (cur.toList.take (l.length * 1))[k]? = (l.map (Value.int .i64))[k]? := by rw [h6]
      rw [List.getElem?_take_of_lt (by omega)] at this
      rw [← Array.getElem?_toList, this]
      simp [hk]
    refine ⟨g, cap, he, hg, lt_of_obj hb, by simp [World.frozen?, hb], by simp [World.cell?, hb, hck], fun x => ⟨by simp, .inr ⟨g, cap, cur.setIfInBounds k (.int .i64 x), ?_, hg, heap_setCell_same _ _ _ _ _ _ hb, ?_, h4, ?_, ?_⟩⟩⟩
    · rw [he, List.length_set]
    · rw [List.length_set]; exact h3
    · simpa using h5
    · rw [List.length_set, Array.toList_setIfInBounds, List.take_set, h6, List.map_set]
/-- Slices of numbers, own, and apart. -/
structure GpsI (int : TypeId) (base : Nat) (w : World) (A : Option Addr) (out : List SlV) : Prop where
  row : Row w A 1 out.length (out.map (·.val))
  ge : ∀ a, A = some a → base ≤ a.block
  own : ∀ i (h : i < out.length), w.ownsRow base int 1 (out[i]'h).val (out[i]'h).l.length ((out[i]'h).l.map (Value.int .i64))
  dis : ∀ i j (hi : i < out.length) (hj : j < out.length), i ≠ j → (out[i]'hi).val.ownBlock = (out[j]'hj).val.ownBlock → (out[i]'hi).val.ownBlock = none
  nb : ∀ i (h : i < out.length) a, A = some a → (out[i]'h).val.ownBlock ≠ some a.block
theorem GpsI.put {int : TypeId} {base : Nat} {w : World} {A : Option Addr} {out : List SlV} (h : GpsI int base w A out) {i k : Nat} (hi : i < out.length) (hk : k < (out[i]'hi).l.length) :
    ∃ g cap, (out[i]'hi).val = .slice (some ⟨g, 0, none⟩) (out[i]'hi).l.length cap ∧ base ≤ g ∧ g < w.heap.size ∧ w.frozen? ⟨g, k, none⟩ = false ∧ w.cell? ⟨g, k, none⟩ = some (.int .i64 ((out[i]'hi).l[k]'hk)) ∧ ∀ x : Int, GpsI int base (w.setCell ⟨g, k, none⟩ (.int .i64 x)) A (out.set i ⟨(out[i]'hi).val, (out[i]'hi).l.set k x⟩) := by
  obtain ⟨g, cap, he, hg, hlt, hf, hc, hx⟩ := own_put (h.own i hi) hk
  have hob : (out[i]'hi).val.ownBlock = some g := by rw [he]; rfl
  have hval : ∀ (x : Int) (j : Nat) (hj : j < (out.set i ⟨(out[i]'hi).val, (out[i]'hi).l.set k x⟩).length) (hj' : j < out.length), ((out.set i ⟨(out[i]'hi).val, (out[i]'hi).l.set k x⟩)[j]'hj).val = (out[j]'hj').val := by
    intro x j hj hj'
    rw [List.getElem_set]
    by_cases e : i = j
    · subst e; rw [if_pos rfl]
    · rw [if_neg e]
  have hmap : ∀ x : Int, (out.set i ⟨(out[i]'hi).val, (out[i]'hi).l.set k x⟩).map (·.val) = out.map (·.val) := fun x => by
    apply List.ext_getElem (by simp)
    intro j h1 h2
    rw [List.getElem_map, List.getElem_map]
    exact hval x j (by simpa using h1) (by simpa using h2)
  refine ⟨g, cap, he, hg, hlt, hf, hc, fun x => ⟨?_, h.ge, fun j hj => ?_, fun a b ha hb hne => ?_, fun j hj => ?_⟩⟩
  · rw [hmap, List.length_set]
    exact Row.keep h.row (by simp) (fun b o e hb => heap_setCell_other _ _ _ _ (fun e9 => by
      have := h.nb i hi _ e
      rw [hob] at this
      exact this (congrArg some e9.symm)))
  · have hj' : j < out.length := by simpa using hj
    by_cases e : i = j
    · subst e
      rw [List.getElem_set_self]
      exact hx x
    · rw [List.getElem_set_ne e]
      refine ownsRow_setCell_other (h.own j hj') (fun e9 => ?_) _
      have := h.dis i j hi hj' e (by rw [hob]; exact e9.symm)
      rw [hob] at this
      cases this
  · have ha' : a < out.length := by simpa using ha
    have hb' : b < out.length := by simpa using hb
    rw [hval x a ha ha', hval x b hb hb']
    exact h.dis a b ha' hb' hne
  · have hj' : j < out.length := by simpa using hj
    rw [hval x j hj hj']
    exact h.nb j hj'

end Go.Proofs.YtbfggmeppakcgaaGreat

/- Groups of vertices that reach each other: the search with a stack, step by step. No program in sight. -/
namespace Go.Proofs.YtbfggmeppakcgaaGreat

/-! ### Groups of vertices that reach each other: the search with a stack -/
/-- Reached, by any way or none. -/
def RS (succ : Nat → List Nat) (a b : Nat) : Prop := a = b ∨ SR succ a b
section
variable {succ : Nat → List Nat} {a b c : Nat}
theorem RS.refl (a : Nat) : RS succ a a := .inl rfl
theorem RS.trans (h : RS succ a b) (k : RS succ b c) : RS succ a c := by
  rcases h with rfl | h
  · exact k
  · rcases k with rfl | k
    · exact .inr h
    · exact .inr (h.trans k)
theorem RS.edge (h : b ∈ succ a) : RS succ a b := .inr (.one h)
/-- A set that is closed under edges holds all that its members reach. -/
theorem RS.closed {P : Nat → Prop} (hc : ∀ x, P x → ∀ y ∈ succ x, P y) (h : RS succ a b) (ha : P a) : P b := by
  rcases h with rfl | h
  · exact ha
  · induction h with
    | one h1 => exact hc _ ha _ h1
    | step _ h1 ih => exact hc _ ih _ h1
end

/-- What the search knows. -/
structure TS where
  count : Nat
  index : Nat → Nat
  low : Nat → Nat
  opn : Nat → Bool
  stack : List Nat
  least : List Nat
  group : Nat → Nat
def TS.closed (S : TS) (x : Nat) : Prop := 0 < S.index x ∧ x ∉ S.stack

structure TInv (succ : Nat → List Nat) (n : Nat) (S : TS) (G : List Nat) : Prop where
  bound : ∀ x, 0 < S.index x → x < n
  cnt : ∀ x, S.index x ≤ S.count
  inj : ∀ x y, 0 < S.index x → S.index x = S.index y → x = y
  op : ∀ x, S.opn x = true ↔ x ∈ S.stack
  vis : ∀ x ∈ S.stack, 0 < S.index x
  srt : S.stack.Pairwise fun x y => S.index x < S.index y
  gray : ∀ g ∈ G, g ∈ S.stack
  black : ∀ x, 0 < S.index x → x ∉ G → ∀ y ∈ succ x, 0 < S.index y
  E : ∀ x ∈ S.stack, ∀ y ∈ S.stack, S.index x ≤ S.index y → RS succ x y
  F : ∀ y ∈ S.stack, ∃ g ∈ G, S.index g ≤ S.index y ∧ RS succ y g
  clo : ∀ x, S.closed x → ∀ y ∈ succ x, S.closed y
  scc : ∀ x y, S.closed x → ((RS succ x y ∧ RS succ y x) ↔ (S.closed y ∧ S.group y = S.group x))
  grp : ∀ x, S.closed x → S.group x < S.least.length
  lst : ∀ g (h : g < S.least.length), S.closed (S.least[g]'h) ∧ S.group (S.least[g]'h) = g ∧ ∀ y, S.closed y → S.group y = g → S.least[g]'h ≤ y

def TS.setLow (S : TS) (v x : Nat) : TS := { S with low := fun z => if z = v then x else S.low z }
theorem TInv.setLow {succ : Nat → List Nat} {n : Nat} {S : TS} {G : List Nat} (h : TInv succ n S G) (v x : Nat) : TInv succ n (S.setLow v x) G :=
  ⟨h.bound, h.cnt, h.inj, h.op, h.vis, h.srt, h.gray, h.black, h.E, h.F, h.clo, h.scc, h.grp, h.lst⟩

/-- What a visit has done. -/
structure VPost (succ : Nat → List Nat) (n : Nat) (G : List Nat) (S S' : TS) (v : Nat) : Prop where
  inv : TInv succ n S' G
  keep : ∀ x, 0 < S.index x → S'.index x = S.index x ∧ S'.low x = S.low x
  new : ∀ x, S.index x = 0 → 0 < S'.index x → S.count < S'.index x
  vis : 0 < S'.index v
  stk : ∃ s, S'.stack = S.stack ++ s ∧ ((s = [] ∧ S'.low v = S'.index v) ∨
    (S'.low v < S'.index v ∧ 0 < S'.low v ∧ (∃ y ∈ S.stack, S'.index y = S'.low v ∧ RS succ v y) ∧ ∀ x ∈ s, ∀ y ∈ succ x, y ∈ S.stack → S'.low v ≤ S.index y))

/-- What holds while the edges of `v` are gone through; `us` are done. -/
structure LInv (succ : Nat → List Nat) (n : Nat) (G : List Nat) (S T : TS) (v : Nat) (us : List Nat) : Prop where
  inv : TInv succ n T (v :: G)
  keep : ∀ x, 0 < S.index x → T.index x = S.index x ∧ T.low x = S.low x
  new : ∀ x, S.index x = 0 → 0 < T.index x → S.count < T.index x
  idx : T.index v = S.count + 1
  pos : 0 < T.low v
  le : T.low v ≤ T.index v
  wit : T.low v = T.index v ∨ ∃ y ∈ S.stack, T.index y = T.low v ∧ RS succ v y
  don : ∀ u ∈ us, 0 < T.index u ∧ (u ∈ S.stack → T.low v ≤ S.index u)
  stk : ∃ s, T.stack = S.stack ++ v :: s ∧ ∀ x ∈ s, ∀ y ∈ succ x, y ∈ S.stack → T.low v ≤ S.index y

/-- A vertex is come to. -/
def TS.start (S : TS) (v : Nat) : TS :=
  { S with count := S.count + 1, index := fun z => if z = v then S.count + 1 else S.index z, low := fun z => if z = v then S.count + 1 else S.low z, opn := fun z => z == v || S.opn z, stack := S.stack ++ [v] }

section
variable {succ : Nat → List Nat} {n : Nat} {G : List Nat} {S T T' : TS} {v u : Nat} {us : List Nat}
theorem start_closed (hv : S.index v = 0) (x : Nat) : (S.start v).closed x ↔ S.closed x := by
  unfold TS.closed TS.start
  simp only [List.mem_append, List.mem_singleton]
  constructor
  · rintro ⟨h1, h2⟩
    have hx : x ≠ v := fun e => h2 (.inr e)
    rw [if_neg hx] at h1
    exact ⟨h1, fun e => h2 (.inl e)⟩
  · rintro ⟨h1, h2⟩
    have hx : x ≠ v := fun e => by subst e; omega
    rw [if_neg hx]
    refine ⟨h1, ?_⟩
    rintro (e | e)
    · exact h2 e
    · exact hx e
theorem TInv.start (h : TInv succ n S G) (hv : S.index v = 0) (hn : v < n) (hG : ∀ g ∈ G, RS succ g v) : TInv succ n (S.start v) (v :: G) := by
  have hns : v ∉ S.stack := fun e => by have := h.vis v e; omega
  have hne : ∀ x ∈ S.stack, x ≠ v := fun x hx e => hns (e ▸ hx)
  have ix : ∀ x, x ≠ v → (S.start v).index x = S.index x := fun x hx => by simp [TS.start, hx]
  have iv : (S.start v).index v = S.count + 1 := by simp [TS.start]
  have hst : (S.start v).stack = S.stack ++ [v] := rfl
  constructor
  · intro x hx
    by_cases e : x = v
    · rw [e]; exact hn
    · rw [ix x e] at hx; exact h.bound x hx
  · intro x
    by_cases e : x = v
    · rw [e, iv]; exact Nat.le_refl _
    · rw [ix x e]; have := h.cnt x; show _ ≤ S.count + 1; omega
  · intro x y hx he
    by_cases e : x = v <;> by_cases e' : y = v
    · rw [e, e']
    · rw [e, iv, ix y e'] at he; have := h.cnt y; omega
    · rw [e', iv, ix x e] at he; have := h.cnt x; omega
    · rw [ix x e] at hx he; rw [ix y e'] at he; exact h.inj x y hx he
  · intro x
    simp only [TS.start, List.mem_append, List.mem_singleton, Bool.or_eq_true, beq_iff_eq, h.op x]
    exact or_comm
  · intro x hx
    rw [hst] at hx
    rcases List.mem_append.1 hx with hx | hx
    · rw [ix x (hne x hx)]; exact h.vis x hx
    · simp at hx; rw [hx, iv]; omega
  · rw [hst]
    refine List.pairwise_append.2 ⟨h.srt.imp_of_mem fun {x y} hx hy hxy => by rw [ix x (hne x hx), ix y (hne y hy)]; exact hxy, by simp, fun x hx y hy => ?_⟩
    simp at hy
    rw [hy, iv, ix x (hne x hx)]
    have := h.cnt x; omega
  · intro g hg
    rw [hst]
    rcases List.mem_cons.1 hg with rfl | hg
    · simp
    · simp [h.gray g hg]
  · intro x hx hxG y hy
    have e : x ≠ v := fun e => hxG (by simp [e])
    rw [ix x e] at hx
    have h1 := h.black x hx (fun e => hxG (by simp [e])) y hy
    by_cases e' : y = v
    · rw [e', iv]; omega
    · rw [ix y e']; exact h1
  · intro x hx y hy hxy
    rw [hst] at hx hy
    rcases List.mem_append.1 hx with mx | mx <;> rcases List.mem_append.1 hy with my | my
    · rw [ix x (hne x mx), ix y (hne y my)] at hxy; exact h.E x mx y my hxy
    · have e : y = v := by simpa using my
      obtain ⟨g, hg, _, hr⟩ := h.F x mx
      rw [e]
      exact hr.trans (hG g hg)
    · have e : x = v := by simpa using mx
      rw [e, iv, ix y (hne y my)] at hxy
      have := h.cnt y; omega
    · have e : x = v := by simpa using mx
      have e' : y = v := by simpa using my
      rw [e, e']; exact RS.refl _
  · intro y hy
    rw [hst] at hy
    rcases List.mem_append.1 hy with hy | hy
    · obtain ⟨g, hg, h1, hr⟩ := h.F y hy
      exact ⟨g, by simp [hg], by rw [ix g (hne g (h.gray g hg)), ix y (hne y hy)]; exact h1, hr⟩
    · simp at hy; exact ⟨v, by simp, by rw [hy]; exact Nat.le_refl _, by rw [hy]; exact RS.refl _⟩
  · intro x hx y hy
    rw [start_closed hv] at hx ⊢
    exact h.clo x hx y hy
  · intro x y hx
    rw [start_closed hv] at hx ⊢
    exact h.scc x y hx
  · intro x hx
    rw [start_closed hv] at hx
    exact h.grp x hx
  · intro g hg
    obtain ⟨h1, h2, h3⟩ := h.lst g hg
    exact ⟨(start_closed hv _).2 h1, h2, fun y hy => h3 y ((start_closed hv _).1 hy)⟩
theorem LInv.start (h : TInv succ n S G) (hv : S.index v = 0) (hn : v < n) (hG : ∀ g ∈ G, RS succ g v) : LInv succ n G S (S.start v) v [] where
  inv := h.start hv hn hG
  keep x hx := by
    have e : x ≠ v := fun e => by subst e; omega
    simp [TS.start, e]
  new x hx hx' := by
    by_cases e : x = v
    · simp [TS.start, e]
    · simp [TS.start, e] at hx'; omega
  idx := by simp [TS.start]
  pos := by simp [TS.start]
  le := by simp [TS.start]
  wit := .inl (by simp [TS.start])
  don := by simp
  stk := ⟨[], rfl, by simp⟩
theorem LInv.seen (h : LInv succ n G S T v us) (hu : 0 < T.index u) (ho : T.opn u = false) : LInv succ n G S T v (us ++ [u]) := by
  refine ⟨h.inv, h.keep, h.new, h.idx, h.pos, h.le, h.wit, fun x hx => ?_, h.stk⟩
  rcases List.mem_append.1 hx with hx | hx
  · exact h.don x hx
  · simp at hx
    rw [hx]
    refine ⟨hu, fun hs => ?_⟩
    obtain ⟨s, hst, _⟩ := h.stk
    have : u ∈ T.stack := by rw [hst]; simp [hs]
    have := (h.inv.op u).2 this
    rw [ho] at this; cases this
theorem LInv.open (h : LInv succ n G S T v us) (huv : u ∈ succ v) (ho : T.opn u = true) (hS : TInv succ n S G) : LInv succ n G S (T.setLow v (min (T.low v) (T.index u))) v (us ++ [u]) := by
  have hu : u ∈ T.stack := (h.inv.op u).1 ho
  have hup := h.inv.vis u hu
  have hlv : (T.setLow v (min (T.low v) (T.index u))).low v = min (T.low v) (T.index u) := by simp [TS.setLow]
  obtain ⟨s, hst, hs⟩ := h.stk
  have hkeep : ∀ x, 0 < S.index x → x ≠ v := fun x hx e => by
    have := (h.keep x hx).1
    rw [e, h.idx] at this
    have := hS.cnt v
    rw [e] at hx
    omega
  refine ⟨h.inv.setLow _ _, fun x hx => ⟨(h.keep x hx).1, ?_⟩, h.new, h.idx, ?_, ?_, ?_, ?_, s, hst, ?_⟩
  · show (if x = v then _ else T.low x) = _
    rw [if_neg (hkeep x hx)]; exact (h.keep x hx).2
  · rw [hlv]; have := h.pos; omega
  · rw [hlv]; have := h.le; show _ ≤ T.index v; omega
  · rw [hlv]
    show _ = T.index v ∨ ∃ y ∈ S.stack, T.index y = _ ∧ RS succ v y
    by_cases hle : T.low v ≤ T.index u
    · rw [Nat.min_eq_left hle]; exact h.wit
    · rw [Nat.min_eq_right (by omega)]
      refine .inr ⟨u, ?_, rfl, RS.edge huv⟩
      have hlt : T.index u < T.index v := by have := h.le; omega
      rw [hst] at hu
      rcases List.mem_append.1 hu with h1 | h1
      · exact h1
      · exfalso
        have hsr := h.inv.srt
        rw [hst] at hsr
        rcases List.mem_cons.1 h1 with h2 | h2
        · rw [h2] at hlt; omega
        · have := (List.pairwise_cons.1 (List.pairwise_append.1 hsr).2.1).1 u h2
          omega
  · intro x hx
    rw [hlv]
    show 0 < T.index x ∧ _
    rcases List.mem_append.1 hx with hx | hx
    · obtain ⟨h1, h2⟩ := h.don x hx
      exact ⟨h1, fun hm => by have := h2 hm; omega⟩
    · simp at hx
      rw [hx]
      refine ⟨hup, fun hm => ?_⟩
      have := (h.keep u (hS.vis u hm)).1
      omega
  · intro x hx y hy hm
    rw [hlv]
    have := hs x hx y hy hm
    omega
theorem LInv.white (h : LInv succ n G S T v us) (huv : u ∈ succ v) (hu : T.index u = 0) (hp : VPost succ n (v :: G) T T' u) (hS : TInv succ n S G) : LInv succ n G S (T'.setLow v (min (T'.low v) (T'.low u))) v (us ++ [u]) := by
  have hvi : 0 < T.index v := by rw [h.idx]; omega
  have hkv := hp.keep v hvi
  have huv' : u ≠ v := fun e => by rw [e] at hu; omega
  have hlv : (T'.setLow v (min (T'.low v) (T'.low u))).low v = min (T.low v) (T'.low u) := by simp [TS.setLow, hkv.2]
  obtain ⟨s, hst, hs⟩ := h.stk
  obtain ⟨s', hst', hs'⟩ := hp.stk
  have hkeep : ∀ x, 0 < S.index x → x ≠ v := fun x hx e => by
    have := (h.keep x hx).1
    rw [e, h.idx] at this
    have := hS.cnt v
    rw [e] at hx
    omega
  have hSk : ∀ x, 0 < S.index x → 0 < T.index x := fun x hx => by rw [(h.keep x hx).1]; exact hx
  have hstk2 : T'.stack = S.stack ++ v :: (s ++ s') := by rw [hst', hst]; simp
  have hunew : S.count + 1 < T'.index u := by
    have h1 := hp.new u hu hp.vis
    have h2 := h.inv.cnt v
    rw [h.idx] at h2
    omega
  -- what the visit's low is good for
  have hlow : T'.index v ≤ T'.low u ∨ (∃ y ∈ S.stack, T'.index y = T'.low u ∧ RS succ v y) := by
    rcases hs' with ⟨_, e⟩ | ⟨_, _, ⟨y, hy, e, hr⟩, _⟩
    · left; rw [hkv.1, h.idx]; omega
    · rw [hst] at hy
      rcases List.mem_append.1 hy with h1 | h1
      · exact .inr ⟨y, h1, e, (RS.edge huv).trans hr⟩
      · left
        rw [← e, hkv.1]
        have hsr := h.inv.srt
        rw [hst] at hsr
        rcases List.mem_cons.1 h1 with h2 | h2
        · rw [h2, hkv.1]; exact Nat.le_refl _
        · have h3 := (List.pairwise_cons.1 (List.pairwise_append.1 hsr).2.1).1 y h2
          have h4 := (hp.keep y (by omega)).1
          omega
  have hlp : 0 < T'.low u := by
    rcases hs' with ⟨_, e⟩ | ⟨_, hpos, _⟩
    · rw [e]; exact hp.vis
    · exact hpos
  refine ⟨hp.inv.setLow _ _, fun x hx => ?_, fun x hx hx' => ?_, ?_, ?_, ?_, ?_, ?_, s ++ s', hstk2, ?_⟩
  · have h1 := h.keep x hx
    have h2 := hp.keep x (hSk x hx)
    refine ⟨h2.1.trans h1.1, ?_⟩
    show (if x = v then _ else T'.low x) = _
    rw [if_neg (hkeep x hx)]; exact h2.2.trans h1.2
  · have hx'' : 0 < T'.index x := hx'
    show S.count < T'.index x
    rcases Nat.eq_zero_or_pos (T.index x) with h0 | h0
    · have h1 := hp.new x h0 hx''
      have h2 := h.inv.cnt v
      rw [h.idx] at h2
      omega
    · rw [(hp.keep x h0).1]; exact h.new x hx h0
  · show T'.index v = _; rw [hkv.1]; exact h.idx
  · rw [hlv]; exact Nat.lt_min.2 ⟨h.pos, hlp⟩
  · rw [hlv]; show _ ≤ T'.index v; rw [hkv.1]; exact Nat.le_trans (Nat.min_le_left _ _) h.le
  · rw [hlv]
    show _ = T'.index v ∨ ∃ y ∈ S.stack, T'.index y = _ ∧ RS succ v y
    have hw : T.low v = T'.index v ∨ ∃ y ∈ S.stack, T'.index y = T.low v ∧ RS succ v y := by
      rcases h.wit with h1 | ⟨y, hy, e, hr⟩
      · left; rw [hkv.1]; exact h1
      · right; exact ⟨y, hy, by rw [(hp.keep y (hSk y (hS.vis y hy))).1]; exact e, hr⟩
    by_cases hle : T.low v ≤ T'.low u
    · rw [Nat.min_eq_left hle]; exact hw
    · rw [Nat.min_eq_right (by omega)]
      rcases hlow with h1 | h1
      · exfalso; rw [hkv.1] at h1; have := h.le; omega
      · exact .inr h1
  · intro x hx
    rw [hlv]
    show 0 < T'.index x ∧ _
    rcases List.mem_append.1 hx with hx | hx
    · obtain ⟨h1, h2⟩ := h.don x hx
      exact ⟨by rw [(hp.keep x h1).1]; exact h1, fun hm => Nat.le_trans (Nat.min_le_left _ _) (h2 hm)⟩
    · simp at hx
      rw [hx]
      refine ⟨hp.vis, fun hm => ?_⟩
      exact absurd (hSk u (hS.vis u hm)) (by rw [hu]; exact Nat.lt_irrefl _)
  · intro x hx y hy hm
    rw [hlv]
    rcases List.mem_append.1 hx with hx | hx
    · exact Nat.le_trans (Nat.min_le_left _ _) (hs x hx y hy hm)
    · rcases hs' with ⟨e, _⟩ | ⟨_, _, _, h4⟩
      · rw [e] at hx; cases hx
      · have h5 := h4 x hx y hy (by rw [hst]; simp [hm])
        rw [(h.keep y (hS.vis y hm)).1] at h5
        exact Nat.le_trans (Nat.min_le_right _ _) h5
theorem LInv.stay (h : LInv succ n G S T v us) (hus : ∀ u ∈ succ v, u ∈ us) (hlt : T.low v < T.index v) : VPost succ n G S T v := by
  obtain ⟨s, hst, hs⟩ := h.stk
  have hwit : ∃ y ∈ S.stack, T.index y = T.low v ∧ RS succ v y := by
    rcases h.wit with h1 | h1
    · omega
    · exact h1
  refine ⟨⟨h.inv.bound, h.inv.cnt, h.inv.inj, h.inv.op, h.inv.vis, h.inv.srt, fun g hg => h.inv.gray g (by simp [hg]), fun x hx hxG y hy => ?_, h.inv.E, fun y hy => ?_, h.inv.clo, h.inv.scc, h.inv.grp, h.inv.lst⟩, h.keep, h.new, by rw [h.idx]; omega, v :: s, hst, .inr ⟨hlt, h.pos, hwit, fun x hx y hy hm => ?_⟩⟩
  · by_cases e : x = v
    · rw [e] at hy; exact (h.don y (hus y hy)).1
    · exact h.inv.black x hx (by simp [e, hxG]) y hy
  · obtain ⟨g, hg, h1, h2⟩ := h.inv.F y hy
    rcases List.mem_cons.1 hg with e | hg
    · rw [e] at h1 h2
      obtain ⟨y0, hy0, e0, hr0⟩ := hwit
      obtain ⟨g', hg', h3, h4⟩ := h.inv.F y0 (by rw [hst]; simp [hy0])
      rcases List.mem_cons.1 hg' with e' | hg'
      · rw [e'] at h3; omega
      · exact ⟨g', hg', by omega, (h2.trans hr0).trans h4⟩
    · exact ⟨g, hg, h1, h2⟩
  · rcases List.mem_cons.1 hx with e | hx
    · rw [e] at hy; exact (h.don y (hus y hy)).2 hm
    · exact hs x hx y hy hm

/-- A group is closed. -/
def TS.pop (T : TS) (st p : List Nat) (m : Nat) : TS :=
  { T with opn := fun z => T.opn z && !p.contains z, group := fun z => if p.contains z then T.least.length else T.group z, least := T.least ++ [m], stack := st }
theorem LInv.pop {s : List Nat} {m : Nat} (h : LInv succ n G S T v us) (hus : ∀ u ∈ succ v, u ∈ us) (hge : ¬ T.low v < T.index v) (hS : TInv succ n S G) (hst : T.stack = S.stack ++ v :: s) (hm : m ∈ v :: s) (hmin : ∀ x ∈ v :: s, m ≤ x) :
    VPost succ n G S (T.pop S.stack (v :: s) m) v := by
  have hlow : T.low v = T.index v := by have := h.le; omega
  obtain ⟨s2, hst2, hs⟩ := h.stk
  obtain rfl : s = s2 := by rw [hst] at hst2; simpa using hst2
  have hsr := h.inv.srt
  rw [hst] at hsr
  obtain ⟨sr1, sr2, sr3⟩ := List.pairwise_append.1 hsr
  have sr4 := (List.pairwise_cons.1 sr2).1
  have hdis : ∀ x ∈ v :: s, x ∉ S.stack := fun x hx hx' => by have := sr3 x hx' x hx; omega
  have hvs : ∀ x ∈ v :: s, T.index v ≤ T.index x := fun x hx => by
    rcases List.mem_cons.1 hx with e | hx
    · rw [e]; exact Nat.le_refl _
    · exact Nat.le_of_lt (sr4 x hx)
  have hin : ∀ x ∈ v :: s, x ∈ T.stack := fun x hx => by rw [hst]; exact List.mem_append.2 (.inr hx)
  have hvin : v ∈ v :: s := by simp
  have hG : ∀ x ∈ v :: s, x ∉ G := fun x hx hg => hdis x hx (hS.gray x hg)
  have hScount : ∀ y ∈ S.stack, S.index y < T.index v := fun y _ => by have := hS.cnt y; rw [h.idx]; omega
  have hvisd : ∀ x ∈ v :: s, ∀ y ∈ succ x, 0 < T.index y := fun x hx y hy => by
    by_cases e : x = v
    · rw [e] at hy; exact (h.don y (hus y hy)).1
    · exact h.inv.black x (h.inv.vis x (hin x hx)) (by simp [e, hG x hx]) y hy
  have hnout : ∀ x ∈ v :: s, ∀ y ∈ succ x, y ∉ S.stack := fun x hx y hy hm => by
    have h1 := hScount y hm
    rcases List.mem_cons.1 hx with e | hx
    · rw [e] at hy
      have := (h.don y (hus y hy)).2 hm
      omega
    · have := hs x hx y hy hm
      omega
  have hclo : ∀ x, (x ∈ v :: s ∨ T.closed x) → ∀ y ∈ succ x, (y ∈ v :: s ∨ T.closed y) := by
    intro x hx y hy
    rcases hx with hx | hx
    · by_cases hyt : y ∈ T.stack
      · rw [hst] at hyt
        rcases List.mem_append.1 hyt with h1 | h1
        · exact absurd h1 (hnout x hx y hy)
        · exact .inl h1
      · exact .inr ⟨hvisd x hx y hy, hyt⟩
    · exact .inr (h.inv.clo x hx y hy)
  have hback : ∀ x ∈ v :: s, RS succ x v := by
    intro x hx
    obtain ⟨g, hg, _, hr⟩ := h.inv.F x (hin x hx)
    rcases List.mem_cons.1 hg with e | hg
    · rw [e] at hr; exact hr
    · exfalso
      have hgs := hS.gray g hg
      rcases RS.closed hclo hr (.inl hx) with h1 | h1
      · exact hdis g h1 hgs
      · exact h1.2 (by rw [hst]; simp [hgs])
  have hforth : ∀ x ∈ v :: s, RS succ v x := fun x hx => h.inv.E v (hin v hvin) x (hin x hx) (hvs x hx)
  have hnc : ∀ x, (T.pop S.stack (v :: s) m).closed x ↔ (T.closed x ∨ x ∈ v :: s) := by
    intro x
    show (0 < T.index x ∧ x ∉ S.stack) ↔ _
    constructor
    · rintro ⟨h1, h2⟩
      by_cases ht : x ∈ T.stack
      · rw [hst] at ht
        rcases List.mem_append.1 ht with h3 | h3
        · exact absurd h3 h2
        · exact .inr h3
      · exact .inl ⟨h1, ht⟩
    · rintro (⟨h1, h2⟩ | h1)
      · exact ⟨h1, fun e => h2 (by rw [hst]; simp [e])⟩
      · exact ⟨h.inv.vis x (hin x h1), hdis x h1⟩
  have hgp : ∀ x ∈ v :: s, (T.pop S.stack (v :: s) m).group x = T.least.length := fun x hx => by
    show (if (v :: s).contains x then _ else _) = _
    rw [if_pos (by simpa using hx)]
  have hgc : ∀ x, T.closed x → (T.pop S.stack (v :: s) m).group x = T.group x := fun x hx => by
    show (if (v :: s).contains x then _ else _) = _
    rw [if_neg]
    intro e
    exact hx.2 (hin x (by simpa using e))
  have hll : (T.pop S.stack (v :: s) m).least = T.least ++ [m] := rfl
  refine ⟨⟨h.inv.bound, h.inv.cnt, h.inv.inj, fun x => ?_, fun x hx => ?_, sr1, hS.gray, fun x hx hxG y hy => ?_, fun x hx y hy => ?_, fun y hy => ?_, fun x hx y hy => ?_, fun x y hx => ?_, fun x hx => ?_, fun g hg => ?_⟩, h.keep, h.new, by show 0 < T.index v; rw [h.idx]; omega, [], by show S.stack = _; simp, .inl ⟨rfl, hlow⟩⟩
  · show (T.opn x && !(v :: s).contains x) = true ↔ x ∈ S.stack
    rw [Bool.and_eq_true, h.inv.op x, hst]
    simp only [Bool.not_eq_eq_eq_not, Bool.not_true]
    constructor
    · rintro ⟨h1, h2⟩
      rcases List.mem_append.1 h1 with h3 | h3
      · exact h3
      · have : (v :: s).contains x = true := by simpa using h3
        rw [this] at h2; cases h2
    · intro h1
      refine ⟨List.mem_append.2 (.inl h1), ?_⟩
      rw [Bool.eq_false_iff]
      intro e
      exact hdis x (by simpa using e) h1
  · exact h.inv.vis x (by rw [hst]; exact List.mem_append.2 (.inl hx))
  · by_cases e : x = v
    · rw [e] at hy; exact hvisd v hvin y hy
    · exact h.inv.black x hx (by simp [e, hxG]) y hy
  · exact h.inv.E x (by rw [hst]; exact List.mem_append.2 (.inl hx)) y (by rw [hst]; exact List.mem_append.2 (.inl hy))
  · obtain ⟨g, hg, h1, h2⟩ := hS.F y hy
    refine ⟨g, hg, ?_, h2⟩
    show T.index g ≤ T.index y
    rw [(h.keep g (hS.vis g (hS.gray g hg))).1, (h.keep y (hS.vis y hy)).1]
    exact h1
  · rw [hnc] at hx ⊢
    rcases hclo x hx.symm y hy with h1 | h1
    · exact .inr h1
    · exact .inl h1
  · rw [hnc] at hx ⊢
    rcases hx with hx | hx
    · rw [h.inv.scc x y hx, hgc x hx]
      constructor
      · rintro ⟨h1, h2⟩
        exact ⟨.inl h1, by rw [hgc y h1]; exact h2⟩
      · rintro ⟨h1, h2⟩
        rcases h1 with h1 | h1
        · exact ⟨h1, by rw [hgc y h1] at h2; exact h2⟩
        · rw [hgp y h1] at h2
          have := h.inv.grp x hx
          omega
    · rw [hgp x hx]
      constructor
      · rintro ⟨h1, h2⟩
        rcases RS.closed hclo h1 (.inl hx) with h3 | h3
        · exact ⟨.inr h3, hgp y h3⟩
        · exfalso
          have := RS.closed h.inv.clo h2 h3
          exact this.2 (hin x hx)
      · rintro ⟨h1, h2⟩
        rcases h1 with h1 | h1
        · rw [hgc y h1] at h2
          have := h.inv.grp y h1
          omega
        · exact ⟨(hback x hx).trans (hforth y h1), (hback y h1).trans (hforth x hx)⟩
  · rw [hnc] at hx
    rw [hll, List.length_append]
    rcases hx with hx | hx
    · rw [hgc x hx]; have := h.inv.grp x hx; simp; omega
    · rw [hgp x hx]; simp
  · simp only [hll, List.length_append, List.length_singleton] at hg
    by_cases hgl : g < T.least.length
    · have e : (T.pop S.stack (v :: s) m).least[g]'(by rw [hll]; simp; omega) = T.least[g]'hgl := by simp only [hll]; rw [List.getElem_append_left hgl]
      rw [e]
      obtain ⟨h1, h2, h3⟩ := h.inv.lst g hgl
      refine ⟨(hnc _).2 (.inl h1), by rw [hgc _ h1]; exact h2, fun y hy hgy => ?_⟩
      rcases (hnc y).1 hy with h4 | h4
      · rw [hgc y h4] at hgy; exact h3 y h4 hgy
      · rw [hgp y h4] at hgy; omega
    · have hg' : g = T.least.length := by omega
      have e : (T.pop S.stack (v :: s) m).least[g]'(by rw [hll]; simp; omega) = m := by simp only [hll]; rw [List.getElem_append_right (by omega)]; simp
      rw [e]
      refine ⟨(hnc _).2 (.inr hm), by rw [hgp _ hm, hg'], fun y hy hgy => ?_⟩
      rcases (hnc y).1 hy with h4 | h4
      · rw [hgc y h4] at hgy
        have := h.inv.grp y h4
        omega
      · exact hmin y h4
end

theorem TInv.none {succ : Nat → List Nat} {n : Nat} {S : TS} (h : TInv succ n S []) : S.stack = [] := by
  cases hs : S.stack with
  | nil => rfl
  | cons x l =>
    obtain ⟨g, hg, _⟩ := h.F x (by rw [hs]; simp)
    cases hg
theorem TInv.first (succ : Nat → List Nat) (n : Nat) : TInv succ n ⟨0, fun _ => 0, fun _ => 0, fun _ => false, [], [], fun _ => 0⟩ [] where
  bound x h := absurd h (Nat.lt_irrefl 0)
  cnt x := Nat.le_refl 0
  inj x y h := absurd h (Nat.lt_irrefl 0)
  op x := by simp
  vis x h := by cases h
  srt := List.Pairwise.nil
  gray g h := by cases h
  black x h := absurd h (Nat.lt_irrefl 0)
  E x h := by cases h
  F x h := by cases h
  clo x h := absurd h.1 (Nat.lt_irrefl 0)
  scc x y h := absurd h.1 (Nat.lt_irrefl 0)
  grp x h := absurd h.1 (Nat.lt_irrefl 0)
  lst g h := absurd h (Nat.not_lt_zero g)
/-- All is visited: the groups are the classes of those that reach each other. -/
theorem TInv.done {succ : Nat → List Nat} {n : Nat} {S : TS} (h : TInv succ n S []) (ha : ∀ x, x < n → 0 < S.index x) :
    (∀ x y, x < n → y < n → (S.group x = S.group y ↔ (RS succ x y ∧ RS succ y x))) ∧ (∀ x, x < n → S.group x < S.least.length) ∧
    ∀ g (hg : g < S.least.length), S.least[g]'hg < n ∧ S.group (S.least[g]'hg) = g ∧ ∀ y, y < n → S.group y = g → S.least[g]'hg ≤ y := by
  have hst := h.none
  have hc : ∀ x, x < n → S.closed x := fun x hx => ⟨ha x hx, by rw [hst]; simp⟩
  refine ⟨fun x y hx hy => ?_, fun x hx => h.grp x (hc x hx), fun g hg => ?_⟩
  · rw [h.scc x y (hc x hx)]
    exact ⟨fun e => ⟨hc y hy, e.symm⟩, fun e => e.2.symm⟩
  · obtain ⟨h1, h2, h3⟩ := h.lst g hg
    exact ⟨h.bound _ h1.1, h2, fun y hy e => h3 y (hc y hy) e⟩


end Go.Proofs.YtbfggmeppakcgaaGreat

/- The search with a stack: how many are left, how long the stack may be. Plain facts; no program in sight. -/
namespace Go.Proofs.YtbfggmeppakcgaaGreat

/-- How many the search has not come to. -/
def white (n : Nat) (S : TS) : Nat := ((List.range n).filter fun x => S.index x == 0).length
/-- The search counts those that it has come to. -/
def Counts (n : Nat) (S : TS) : Prop := S.count + white n S = n
section
variable {succ : Nat → List Nat} {n : Nat} {G : List Nat} {S T : TS} {v : Nat}
theorem white_mono (h : ∀ x, 0 < S.index x → 0 < T.index x) : white n T ≤ white n S := by
  unfold white
  have : ∀ l : List Nat, (l.filter fun x => T.index x == 0).length ≤ (l.filter fun x => S.index x == 0).length := by
    intro l
    induction l with
    | nil => exact Nat.le_refl _
    | cons y l ih =>
      by_cases h1 : S.index y = 0
      · by_cases h2 : T.index y = 0
        · simp only [List.filter_cons, h1, h2, beq_self_eq_true, if_true, List.length_cons]
          omega
        · rw [List.filter_cons_of_neg (by simp [h2]), List.filter_cons_of_pos (by simp [h1])]
          simp only [List.length_cons]
          omega
      · have h2 : T.index y ≠ 0 := by
          have := h y (by omega)
          omega
        rw [List.filter_cons_of_neg (by simp [h2]), List.filter_cons_of_neg (by simp [h1])]
        exact ih
  exact this _
theorem white_start_aux (hv : S.index v = 0) : ∀ l : List Nat, l.Nodup → (l.filter fun x => (S.start v).index x == 0).length + (if v ∈ l then 1 else 0) = (l.filter fun x => S.index x == 0).length
  | [], _ => by simp
  | y :: l, h => by
    have hn := List.nodup_cons.1 h
    have ih := white_start_aux hv l hn.2
    by_cases e : y = v
    · subst e
      have h1 : y ∉ l := hn.1
      rw [List.filter_cons_of_neg (by simp [TS.start]), List.filter_cons_of_pos (by simp [hv])]
      simp only [h1, if_false, Nat.add_zero, List.mem_cons, true_or, if_true, List.length_cons] at ih ⊢
      omega
    · have e1 : (S.start v).index y = S.index y := by simp [TS.start, e]
      have e2 : ¬ v = y := fun h => e h.symm
      by_cases hy : S.index y = 0
      · rw [List.filter_cons_of_pos (by simp [e1, hy]), List.filter_cons_of_pos (by simp [hy])]
        simp only [List.length_cons, List.mem_cons, e2, false_or]
        omega
      · rw [List.filter_cons_of_neg (by simp [e1, hy]), List.filter_cons_of_neg (by simp [hy])]
        simpa [e2] using ih
theorem white_start (hv : S.index v = 0) (hn : v < n) : white n (S.start v) + 1 = white n S := by
  have := white_start_aux hv (List.range n) List.nodup_range
  simpa [hn, white] using this
theorem Counts.first : Counts n ⟨0, fun _ => 0, fun _ => 0, fun _ => false, [], [], fun _ => 0⟩ := by
  unfold Counts white
  rw [List.filter_eq_self.2 (by simp)]
  simp
theorem Counts.start (h : Counts n S) (hv : S.index v = 0) (hn : v < n) : Counts n (S.start v) := by
  have h1 := white_start hv hn
  unfold Counts at h ⊢
  have : (S.start v).count = S.count + 1 := rfl
  omega
theorem Counts.setLow {x : Nat} (h : Counts n S) : Counts n (S.setLow v x) := h
theorem Counts.pop {st p : List Nat} {x : Nat} (h : Counts n S) : Counts n (S.pop st p x) := h
theorem Counts.lt (h : Counts n S) (hv : S.index v = 0) (hn : v < n) : S.count < n := by
  have h1 := white_start hv hn
  unfold Counts at h
  omega
theorem Counts.le (h : Counts n S) : S.count ≤ n := by
  unfold Counts at h
  omega
/-- The stack holds no vertex twice. -/
theorem TInv.nodup (h : TInv succ n S G) : S.stack.Nodup := by
  rw [List.nodup_iff_pairwise_ne]
  refine List.Pairwise.imp ?_ h.srt
  rintro a b h1 rfl
  omega
theorem TInv.stack_len (h : TInv succ n S G) : S.stack.length ≤ n := by
  have h1 : S.stack ⊆ List.range n := fun x hx => by simpa using h.bound x (h.vis x hx)
  have := List.Nodup.length_le_of_subset h.nodup h1
  simpa using this
/-- Where a vertex stands that is new on the stack. -/
theorem TInv.idx (h : TInv succ n T G) {st s : List Nat} (hst : T.stack = st ++ v :: s) : T.stack.idxOf v = st.length ∧ v ∉ st := by
  have hn := h.nodup
  rw [hst] at hn
  have hv : v ∉ st := by
    intro hv
    exact (List.nodup_append.1 hn).2.2 v hv v (by simp) rfl
  refine ⟨?_, hv⟩
  rw [hst, List.idxOf_append, if_neg hv]
  simp
/-- The least groups are as many as there are vertices, or fewer. -/
theorem TInv.least_len (h : TInv succ n S G) : S.least.length ≤ n := by
  have hnd : S.least.Nodup := by
    rw [List.nodup_iff_pairwise_ne, List.pairwise_iff_getElem]
    intro i j hi hj hij e
    have h1 := (h.lst i hi).2.1
    have h2 := (h.lst j hj).2.1
    rw [e, h2] at h1
    omega
  have hsub : S.least ⊆ List.range n := by
    intro x hx
    obtain ⟨i, hi, rfl⟩ := List.mem_iff_getElem.1 hx
    simpa using h.bound _ (h.lst i hi).1.1
  have := List.Nodup.length_le_of_subset hnd hsub
  simpa using this
end

end Go.Proofs.YtbfggmeppakcgaaGreat

/- The record of a search in memory: one block of 4004 cells. No program in sight. -/
namespace Go.Proofs.YtbfggmeppakcgaaGreat
open Go.RowKit

def cellsOf (N : Nat) (f : Nat → Value) : Array Value := ((List.range N).map f).toArray
theorem cellsOf_get (N : Nat) (f : Nat → Value) {j : Nat} (hj : j < N) : (cellsOf N f)[j]? = some (f j) := by
  unfold cellsOf
  simp [hj]
theorem cellsOf_set (N : Nat) (f g : Nat → Value) (j : Nat) (x : Value) (h : ∀ i, i < N → g i = if i = j then x else f i) : (cellsOf N f).setIfInBounds j x = cellsOf N g := by
  unfold cellsOf
  rw [List.setIfInBounds_toArray]
  congr 1
  apply List.ext_getElem?
  intro i
  by_cases hi : i < N
  · by_cases e : j = i
    · subst e; simp [hi, h]
    · have e' : ¬ i = j := fun h => e h.symm
      simp [e, e', hi, h]
  · simp [hi]

/-- The record of a search. -/
structure WR where
  to : Value
  count : Nat
  index : Nat → Nat
  low : Nat → Nat
  opn : Nat → Bool
  stack : Value
  least : Value
  group : Nat → Nat
def WR.cell (r : WR) (j : Nat) : Value :=
  if j = 0 then r.to else if j = 1 then .int .i64 (r.count : Int) else if j < 1002 then .int .i64 (r.index (j - 2) : Int) else if j < 2002 then .int .i64 (r.low (j - 1002) : Int)
  else if j < 3002 then .bool (r.opn (j - 2002)) else if j = 3002 then r.stack else if j = 3003 then r.least else .int .i64 (r.group (j - 3004) : Int)
/-- It lies in block `b`. -/
def Wk (ty : TypeId) (w : World) (b : Nat) (r : WR) : Prop := w.heap[b]? = some (.cells (cellsOf 4004 r.cell) ty (0, 0))
section
variable {ty : TypeId} {w : World} {b : Nat} {r : WR}
theorem Wk.lt (h : Wk ty w b r) : b < w.heap.size := lt_of_obj h
theorem Wk.get (h : Wk ty w b r) {j : Nat} (hj : j < 4004) : w.cell? ⟨b, j, none⟩ = some (r.cell j) := by
  unfold Wk at h
  rw [← cellsOf_get 4004 r.cell hj]
  generalize cellsOf 4004 r.cell = cs at *
  simp [World.cell?, h]
theorem Wk.free (h : Wk ty w b r) (i : Nat) : w.frozen? ⟨b, i, none⟩ = false := by
  unfold Wk at h
  generalize cellsOf 4004 r.cell = cs at *
  simp [World.frozen?, h]
theorem Wk.put (h : Wk ty w b r) {r' : WR} {j : Nat} {x : Value} (hx : ∀ i, i < 4004 → r'.cell i = if i = j then x else r.cell i) : Wk ty (w.setCell ⟨b, j, none⟩ x) b r' := by
  unfold Wk at h ⊢
  have := blk_setCell h j x
  rw [this, cellsOf_set 4004 r.cell r'.cell j x hx]
theorem Wk.keep {w' : World} (h : Wk ty w b r) (e : w'.heap[b]? = w.heap[b]?) : Wk ty w' b r := e.trans h
theorem Wk.to_ (h : Wk ty w b r) : w.cell? ⟨b, 0, none⟩ = some r.to := (h.get (by omega)).trans (by simp [WR.cell])
theorem Wk.count_ (h : Wk ty w b r) : w.cell? ⟨b, 1, none⟩ = some (.int .i64 (r.count : Int)) := (h.get (by omega)).trans (by simp [WR.cell])
theorem Wk.index_ (h : Wk ty w b r) {v : Nat} (hv : v < 1000) : w.cell? ⟨b, 2 + v, none⟩ = some (.int .i64 (r.index v : Int)) :=
  (h.get (by omega)).trans (by unfold WR.cell; rw [if_neg (by omega), if_neg (by omega), if_pos (by omega), Nat.add_sub_cancel_left])
theorem Wk.low_ (h : Wk ty w b r) {v : Nat} (hv : v < 1000) : w.cell? ⟨b, 1002 + v, none⟩ = some (.int .i64 (r.low v : Int)) :=
  (h.get (by omega)).trans (by unfold WR.cell; rw [if_neg (by omega), if_neg (by omega), if_neg (by omega), if_pos (by omega), Nat.add_sub_cancel_left])
theorem Wk.opn_ (h : Wk ty w b r) {v : Nat} (hv : v < 1000) : w.cell? ⟨b, 2002 + v, none⟩ = some (.bool (r.opn v)) :=
  (h.get (by omega)).trans (by unfold WR.cell; rw [if_neg (by omega), if_neg (by omega), if_neg (by omega), if_neg (by omega), if_pos (by omega), Nat.add_sub_cancel_left])
theorem Wk.stack_ (h : Wk ty w b r) : w.cell? ⟨b, 3002, none⟩ = some r.stack := (h.get (by omega)).trans (by simp [WR.cell])
theorem Wk.least_ (h : Wk ty w b r) : w.cell? ⟨b, 3003, none⟩ = some r.least := (h.get (by omega)).trans (by simp [WR.cell])
theorem Wk.group_ (h : Wk ty w b r) {v : Nat} (hv : v < 1000) : w.cell? ⟨b, 3004 + v, none⟩ = some (.int .i64 (r.group v : Int)) :=
  (h.get (by omega)).trans (by unfold WR.cell; rw [if_neg (by omega), if_neg (by omega), if_neg (by omega), if_neg (by omega), if_neg (by omega), if_neg (by omega), if_neg (by omega), Nat.add_sub_cancel_left])
/-- A function, told anew at one place. -/
def upd {α : Type} (f : Nat → α) (v : Nat) (x : α) : Nat → α := fun z => if z = v then x else f z
theorem Wk.setCount (h : Wk ty w b r) (c : Nat) : Wk ty (w.setCell ⟨b, 1, none⟩ (.int .i64 (c : Int))) b { r with count := c } := by
  refine h.put fun i _ => ?_
  unfold WR.cell
  by_cases e : i = 1
  · subst e; simp
  · simp [e]
theorem Wk.setStack (h : Wk ty w b r) (x : Value) : Wk ty (w.setCell ⟨b, 3002, none⟩ x) b { r with stack := x } := by
  refine h.put fun i _ => ?_
  unfold WR.cell
  by_cases e : i = 3002
  · subst e; simp
  · simp [e]
theorem Wk.setLeast (h : Wk ty w b r) (x : Value) : Wk ty (w.setCell ⟨b, 3003, none⟩ x) b { r with least := x } := by
  refine h.put fun i _ => ?_
  unfold WR.cell
  by_cases e : i = 3003
  · subst e; simp
  · simp [e]
theorem Wk.setIndex (h : Wk ty w b r) {v : Nat} (hv : v < 1000) (x : Nat) : Wk ty (w.setCell ⟨b, 2 + v, none⟩ (.int .i64 (x : Int))) b { r with index := upd r.index v x } := by
  refine h.put fun i _ => ?_
  unfold WR.cell upd
  dsimp only
  by_cases e : i = 2 + v
  · subst e; rw [if_neg (by omega), if_neg (by omega), if_pos (by omega)]; simp
  · rw [if_neg e]
    by_cases h0 : i = 0
    · simp [h0]
    by_cases h1 : i < 1002
    · have : ¬ (i - 2 = v ∧ i ≠ 1) := by omega
      by_cases h2 : i = 1
      · simp [h2]
      · rw [if_neg h0, if_neg h2, if_pos h1, if_neg (by omega : ¬ i - 2 = v), if_neg h0, if_neg h2, if_pos h1]
    · simp [h1]
theorem Wk.setLow (h : Wk ty w b r) {v : Nat} (hv : v < 1000) (x : Nat) : Wk ty (w.setCell ⟨b, 1002 + v, none⟩ (.int .i64 (x : Int))) b { r with low := upd r.low v x } := by
  refine h.put fun i _ => ?_
  unfold WR.cell upd
  dsimp only
  by_cases e : i = 1002 + v
  · subst e; rw [if_neg (by omega), if_neg (by omega), if_neg (by omega), if_pos (by omega)]; simp
  · rw [if_neg e]
    by_cases h0 : i < 1002
    · simp [h0]
    by_cases h1 : i < 2002
    · rw [if_neg (by omega : ¬ i - 1002 = v)]
    · simp [h1]
theorem Wk.setOpn (h : Wk ty w b r) {v : Nat} (hv : v < 1000) (x : Bool) : Wk ty (w.setCell ⟨b, 2002 + v, none⟩ (.bool x)) b { r with opn := upd r.opn v x } := by
  refine h.put fun i _ => ?_
  unfold WR.cell upd
  dsimp only
  by_cases e : i = 2002 + v
  · subst e; rw [if_neg (by omega), if_neg (by omega), if_neg (by omega), if_neg (by omega), if_pos (by omega)]; simp
  · rw [if_neg e]
    by_cases h0 : i < 2002
    · simp [h0]
    by_cases h1 : i < 3002
    · rw [if_neg (by omega : ¬ i - 2002 = v)]
    · simp [h1]
theorem Wk.setGroup (h : Wk ty w b r) {v : Nat} (hv : v < 1000) (x : Nat) : Wk ty (w.setCell ⟨b, 3004 + v, none⟩ (.int .i64 (x : Int))) b { r with group := upd r.group v x } := by
  refine h.put fun i _ => ?_
  unfold WR.cell upd
  dsimp only
  by_cases e : i = 3004 + v
  · subst e; rw [if_neg (by omega), if_neg (by omega), if_neg (by omega), if_neg (by omega), if_neg (by omega), if_neg (by omega), if_neg (by omega)]; simp
  · rw [if_neg e]
    by_cases h0 : i < 3004
    · have : i < 3002 ∨ i = 3002 ∨ i = 3003 := by omega
      rcases this with h1 | h1 | h1 <;> simp [h1]
    · rw [if_neg (by omega : ¬ i - 3004 = v)]
end

end Go.Proofs.YtbfggmeppakcgaaGreat
