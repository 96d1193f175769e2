/- Contract: the least of some numbers; the state of a search in memory. -/
import Derived.Test.YtbfggmeppakcgaaGreatJA16
/- Contract: the least of some numbers; the state of a search in memory. -/
namespace Go.Proofs.YtbfggmeppakcgaaGreat
open Go.RowKit

set_option maxHeartbeats 1000000 in
theorem min_i (A : Option Addr) (cap : Nat) (l : List Int) (w : World) (h : Ints w A l) (h0 : 0 < l.length) (hle : l.length ≤ 9223372036854775807) :
    Calls Tryz.prog 33 #[.slice A l.length cap] w fun e w' => (∃ m, e = .returned (.int .i64 m) ∧ m ∈ l ∧ ∀ x ∈ l, m ≤ x) ∧ w' = w := by
  have Hr := hide h
  have h1 : ¬ (l.length : Int) < 1 := by omega
  have h2 : (0 : Int) < (l.length : Int) := by omega
  obtain ⟨b, o, rfl, hb, hc⟩ := h.at_ h0
  rw [Nat.add_zero] at hc
  have Hf : Hid (∀ x ∈ l.take 1, l[0]'h0 ≤ x) := hide (by
    intro x hx
    rw [List.take_succ_eq_append_getElem h0] at hx
    simp at hx
    omega)
  have Hm0 : Hid (l[0]'h0 ∈ l) := hide (List.getElem_mem h0)
  generalize l[0]'h0 = y0 at *
  clear h
  go_enter Tryz.func33, Tryz.ntmps33
  go_wp2
  go_loop [3, 4] (fun m i => ∃ (j : Nat) (q : Int), j ≤ l.length ∧ i = .int .i64 j ∧ m = .int .i64 q ∧ Hid (q ∈ l) ∧ Hid (∀ x ∈ l.take j, q ≤ x)) (fun _ i => l.length - (intOf i).toNat)
  case atStart => exact ⟨1, y0, by omega, rfl, rfl, Hm0, Hf⟩
  case round =>
    obtain ⟨j, q, hj, rfl, rfl, Hq, Hx⟩ := hrel
    by_cases hlt : j < l.length
    · obtain ⟨b2, o2, e2, hb2, hc2⟩ := Hr.out.at_ hlt
      obtain ⟨e3, e4⟩ : b2 = b ∧ o2 = o := by injection e2 with e2; injection e2 with e3 e4; exact ⟨e3.symm, e4.symm⟩
      subst e3 e4
      clear e2
      have hlt' : (j : Int) < (l.length : Int) := by omega
      have Htk : Hid (l.take (j + 1) = l.take j ++ [l[j]'hlt]) := hide (List.take_succ_eq_append_getElem hlt)
      have Hmj : Hid (l[j]'hlt ∈ l) := hide (List.getElem_mem hlt)
      generalize l[j]'hlt = y at *
      have Hn : Hid ((if y < q then y else q) ∈ l ∧ ∀ x ∈ l.take (j + 1), (if y < q then y else q) ≤ x) := hide (by
        refine ⟨?_, fun x hx => ?_⟩
        · split
          · exact Hmj.out
          · exact Hq.out
        · rw [Htk.out] at hx
          rcases List.mem_append.1 hx with hx | hx
          · have := Hx.out x hx; split <;> omega
          · simp at hx; split <;> omega)
      go_wp2
      all_goals
        go_round
        case rel =>
          have hmn : (if y < q then y else q) = min q y := by rw [Int.min_def]; split <;> split <;> omega
          first | exact ⟨j + 1, _, hlt, by go_num, rfl, hide Hn.out.1, hide Hn.out.2⟩ | exact ⟨j + 1, _, hlt, by go_num, rfl, hide (by rw [← hmn]; exact Hn.out.1), hide (by rw [← hmn]; exact Hn.out.2)⟩
        case measure => simp [intOf]; omega
    · have hge : (l.length : Int) ≤ (j : Int) := by omega
      have hjl : j = l.length := by omega
      subst hjl
      have Hall : Hid (∀ x ∈ l, q ≤ x) := hide (by
        have := Hx.out
        rwa [List.take_of_length_le (Nat.le_refl _)] at this)
      go_wp2
      go_ret
      exact ⟨⟨q, rfl, Hq.out, Hall.out⟩, rfl⟩

/-! ### The state of a search in memory -/
def zs (l : List Nat) : List Int := l.map Int.ofNat
theorem zs_get (l : List Nat) {i : Nat} (h : i < (zs l).length) (h' : i < l.length) : (zs l)[i]'h = ((l[i]'h' : Nat) : Int) := by simp [zs]
theorem zs_len (l : List Nat) : (zs l).length = l.length := by simp [zs]
structure Mem (ty int : TypeId) (rb : Nat) (w : World) (wb : Nat) (to : Value) (S : TS) (sv lv : Value) : Prop where
  blk : Wk ty w wb ⟨to, S.count, S.index, S.low, S.opn, sv, lv, S.group⟩
  st : w.ownsRow rb int 1 sv (zs S.stack).length ((zs S.stack).map (Value.int .i64))
  ls : w.ownsRow rb int 1 lv (zs S.least).length ((zs S.least).map (Value.int .i64))
  dis : ∀ k, sv.ownBlock = some k → lv.ownBlock ≠ some k
theorem kept2 {w w' : World} {base : Nat} {e : TypeId} {size : Nat} {sv lv : Value} {n : Nat} {xs : List Value} (h : w.ownsRow base e size lv n xs) (hg : w.grownBy w' sv.ownBlock) (hd : ∀ k, sv.ownBlock = some k → lv.ownBlock ≠ some k) : w'.ownsRow base e size lv n xs := by
  refine h.kept hg ?_
  cases hl : lv.ownBlock with
  | none => exact .inl rfl
  | some k => exact .inr (fun e => hd k e.symm hl)
theorem own_set {w : World} {x : Value} {base b i : Nat} {e : TypeId} {size : Nat} {v : Value} {n : Nat} {xs : List Value} (h : w.ownsRow base e size v n xs) (hb : b < base) : (w.setCell ⟨b, i, none⟩ x).ownsRow base e size v n xs :=
  h.kept (grown_set w b i x) (by
    cases hv : v.ownBlock with
    | none => exact .inl rfl
    | some k => exact .inr (fun e => by have := (h.lt k hv).1; injection e with e; omega))
theorem own_ext_drew {w : World} {base : Nat} {e : TypeId} {size : Nat} {v : Value} {n : Nat} {xs : List Value} (h : w.ownsRow base e size v n xs) : w.drew.ownsRow base e size v n xs := h
/-- Below block `rb` all is as it was, but block `wb`. -/
structure But (rb wb : Nat) (w w' : World) : Prop where
  os : w'.os = w.os
  tape : w'.tape = w.tape
  output : w'.output = w.output
  size : w.heap.size ≤ w'.heap.size
  block : ∀ k, k < rb → k ≠ wb → w'.heap[k]? = w.heap[k]?
theorem But.refl (rb wb : Nat) (w : World) : But rb wb w w := ⟨rfl, rfl, rfl, Nat.le_refl _, fun _ _ _ => rfl⟩
theorem But.trans {rb wb : Nat} {a b c : World} (h : But rb wb a b) (k : But rb wb b c) : But rb wb a c :=
  ⟨k.os.trans h.os, k.tape.trans h.tape, k.output.trans h.output, Nat.le_trans h.size k.size, fun i hi hn => (k.block i hi hn).trans (h.block i hi hn)⟩
theorem But.drew {rb wb : Nat} {a b : World} (h : But rb wb a b) : But rb wb a b.drew := ⟨h.os, h.tape, h.output, h.size, h.block⟩
theorem But.alloc {rb wb : Nat} {a b : World} (h : But rb wb a b) (hB : rb ≤ b.heap.size) (o : Obj) : But rb wb a (b.alloc o) :=
  h.trans ⟨rfl, rfl, rfl, by simp, fun k hk _ => Below.heap_alloc _ _ _ (by omega)⟩
theorem But.grown {rb wb : Nat} {a b c : World} {row : Option Nat} (h : But rb wb a b) (hg : b.grownBy c row) (hB : rb ≤ b.heap.size) (hr : ∀ k, row = some k → rb ≤ k) : But rb wb a c :=
  h.trans ⟨hg.os, hg.tape, hg.output, hg.size, fun k hk _ => hg.block k (by omega) (fun e => by have := hr k e.symm; omega)⟩
theorem but_set (rb : Nat) (w : World) (b i : Nat) (x : Value) : But rb b w (w.setCell ⟨b, i, none⟩ x) := ⟨rfl, rfl, rfl, by simp [World.setCell], fun k _ hn => Below.heap_setCell _ ⟨b, i, none⟩ _ _ hn⟩
theorem But.below {rb wb B : Nat} {a b : World} (h : But rb wb a b) (h1 : B ≤ wb) (h2 : wb < rb) : Below B a b := ⟨h.os, h.tape, h.output, h.size, fun k hk => h.block k (by omega) (by omega)⟩
section
variable {ty int : TypeId} {w : World} {rb wb : Nat} {to sv lv : Value} {S : TS}
theorem Mem.low (h : Mem ty int rb w wb to S sv lv) (hrb : wb < rb) {v : Nat} (hv : v < 1000) (a b : Nat) : Mem ty int rb (w.setCell ⟨wb, 1002 + v, none⟩ (.int .i64 (if b < a then (b : Int) else (a : Int)))).drew wb to (S.setLow v (min a b)) sv lv := by
  have e : (if b < a then (b : Int) else (a : Int)) = ((min a b : Nat) : Int) := by split <;> omega
  rw [e]
  exact ⟨h.blk.setLow hv (min a b), own_set h.st hrb, own_set h.ls hrb, h.dis⟩
theorem Mem.drew (h : Mem ty int rb w wb to S sv lv) : Mem ty int rb w.drew wb to S sv lv := ⟨h.blk, h.st, h.ls, h.dis⟩
/-- The group of some vertices is told, which are open no more. -/
def TS.mark (T : TS) (q : List Nat) : TS :=
  { T with opn := fun z => T.opn z && !q.contains z, group := fun z => if q.contains z then T.least.length else T.group z }
theorem TS.mark_nil (T : TS) : T.mark [] = T := by
  unfold TS.mark
  cases T
  simp
theorem Mem.opn1 {q : List Nat} (h : Mem ty int rb w wb to (S.mark q) sv lv) {x : Nat} (hx : x < 1000) : Wk ty (w.setCell ⟨wb, 2002 + x, none⟩ (.bool false)) wb ⟨to, S.count, S.index, S.low, (S.mark (q ++ [x])).opn, sv, lv, (S.mark q).group⟩ := by
  have h1 := h.blk.setOpn hx false
  have e : upd (S.mark q).opn x false = (S.mark (q ++ [x])).opn := by
    funext z
    unfold upd TS.mark
    dsimp only
    by_cases e : z = x
    · subst e; simp
    · simp [e]
  rw [e] at h1
  exact h1
theorem Mem.grp1 (hrb : wb < rb) {q : List Nat} {x : Nat} (hx : x < 1000) (h : Wk ty w wb ⟨to, S.count, S.index, S.low, (S.mark (q ++ [x])).opn, sv, lv, (S.mark q).group⟩)
    (st : w.ownsRow rb int 1 sv (zs S.stack).length ((zs S.stack).map (Value.int .i64))) (ls : w.ownsRow rb int 1 lv (zs S.least).length ((zs S.least).map (Value.int .i64)))
    (dis : ∀ k, sv.ownBlock = some k → lv.ownBlock ≠ some k) :
    Mem ty int rb (w.setCell ⟨wb, 3004 + x, none⟩ (.int .i64 (((zs S.least).length : Nat) : Int))).drew wb to (S.mark (q ++ [x])) sv lv := by
  have h1 := h.setGroup hx S.least.length
  have e : upd (S.mark q).group x S.least.length = (S.mark (q ++ [x])).group := by
    funext z
    unfold upd TS.mark
    dsimp only
    by_cases e : z = x
    · subst e; simp
    · simp [e]
  rw [zs_len S.least]
  dsimp only at h1
  rw [e] at h1
  exact ⟨h1, own_set st hrb, own_set ls hrb, dis⟩
end
theorem Ints.set {w : World} {A : Option Addr} {l : List Int} (h : Ints w A l) {b i : Nat} {x : Value} (hb : ∀ c o, A = some ⟨c, o, none⟩ → c ≠ b) : Ints (w.setCell ⟨b, i, none⟩ x) A l :=
  Row.keep h (by simp [World.setCell]) (fun c o e _ => Below.heap_setCell _ ⟨b, i, none⟩ _ _ (hb c o e))
theorem own_cut {w : World} {base : Nat} {e : TypeId} {A : Option Addr} {n cap k : Nat} {xs : List Value} (h : w.ownsRow base e 1 (.slice A n cap) n xs) (hk : k ≤ n) : w.ownsRow base e 1 (.slice A k cap) k (xs.take k) := by
  refine ⟨by have := h.1; rw [List.length_take]; omega, ?_⟩
  rcases h.2 with ⟨h1, h2⟩ | ⟨g, cap', cur, h1, hb, hg, hle, hmax, hsz, htk⟩
  · injection h1 with h3 h4 h5
    exact .inl ⟨by rw [h3, h5, show k = 0 by omega], by omega⟩
  · injection h1 with h3 h4 h5
    subst h3 h5
    refine .inr ⟨g, cap, cur, rfl, hb, hg, by omega, hmax, hsz, ?_⟩
    rw [← htk, List.take_take]
    congr 1
    omega

end Go.Proofs.YtbfggmeppakcgaaGreat

/- The order in which groups are told. Plain facts of finite lists; no program in sight. -/
namespace Go.Proofs.YtbfggmeppakcgaaGreat

/-! ### The order of the groups -/
section
variable (n : Nat) (m : Nat → Nat → Bool)
def compL (a : Nat) : List Nat := (List.range n).filter fun j => j == a || (m j a && m a j)
def freeB (done : Nat → Bool) (a : Nat) : Bool := (List.range n).all fun i => !(m a i && !done i && !m i a)
def selB (done : Nat → Bool) : Option Nat := (List.range n).find? fun a => !done a && freeB n m done a
def addDone (done : Nat → Bool) (a : Nat) : Nat → Bool := fun i => done i || (compL n m a).contains i
def selGo : Nat → (Nat → Bool) → List (List Nat)
  | 0, _ => []
  | f + 1, done => match selB n m done with | none => [] | some a => compL n m a :: selGo f (addDone n m done a)
end
theorem filter_lt {p q : Nat → Bool} : ∀ l : List Nat, (∀ x ∈ l, p x = true → q x = true) → (∃ x ∈ l, q x = true ∧ p x = false) → (l.filter p).length < (l.filter q).length
  | [], _, ⟨x, hx, _⟩ => by cases hx
  | y :: l, h, ⟨x, hx, h1, h2⟩ => by
    have hle : ∀ l : List Nat, (∀ x ∈ l, p x = true → q x = true) → (l.filter p).length ≤ (l.filter q).length := by
      intro l
      induction l with
      | nil => simp
      | cons z l ih =>
        intro h
        have := ih (fun x hx => h x (by simp [hx]))
        cases hp : p z
        · cases hq : q z <;> simp [hp, hq] <;> omega
        · have := h z (by simp) hp
          simp [hp, this]
          omega
    have hl := hle l (fun x hx => h x (by simp [hx]))
    rcases List.mem_cons.1 hx with e | hx
    · subst e
      simp [h1, h2]
      omega
    · have ih := filter_lt l (fun x hx => h x (by simp [hx])) ⟨x, hx, h1, h2⟩
      cases hp : p y
      · cases hq : q y <;> simp [hp, hq] <;> omega
      · have := h y (by simp) hp
        simp [hp, this]
        omega
section
variable {succ : Nat → List Nat} {n : Nat} {m : Nat → Nat → Bool} {done : Nat → Bool}
theorem freeB_iff (hm : ∀ i j, i < n → (m i j = true ↔ SR succ i j)) {a : Nat} (ha : a < n) : freeB n m done a = true ↔ ∀ i, i < n → SR succ a i → done i = true ∨ SR succ i a := by
  unfold freeB
  rw [List.all_eq_true]
  constructor
  · intro h i hi hr
    have h1 := h i (by simpa using hi)
    have h2 := (hm a i ha).2 hr
    cases hd : done i
    · rw [h2, hd] at h1
      have h3 : m i a = true := by simpa using h1
      exact .inr ((hm i a hi).1 h3)
    · exact .inl rfl
  · intro h i hi
    simp only [List.mem_range] at hi
    cases h1 : m a i
    · simp
    · rcases h i hi ((hm a i ha).1 h1) with h2 | h2
      · simp [h2]
      · simp [(hm i a hi).2 h2]
theorem mem_comp (hm : ∀ i j, i < n → (m i j = true ↔ SR succ i j)) {a x : Nat} (ha : a < n) : x ∈ compL n m a ↔ x < n ∧ RS succ x a ∧ RS succ a x := by
  unfold compL
  rw [List.mem_filter, List.mem_range]
  constructor
  · rintro ⟨h1, h2⟩
    refine ⟨h1, ?_⟩
    simp only [Bool.or_eq_true, beq_iff_eq, Bool.and_eq_true] at h2
    rcases h2 with rfl | ⟨h2, h3⟩
    · exact ⟨RS.refl _, RS.refl _⟩
    · exact ⟨.inr ((hm x a h1).1 h2), .inr ((hm a x ha).1 h3)⟩
  · rintro ⟨h1, h2, h3⟩
    refine ⟨h1, ?_⟩
    simp only [Bool.or_eq_true, beq_iff_eq, Bool.and_eq_true]
    rcases h2 with rfl | h2
    · exact .inl rfl
    · rcases h3 with rfl | h3
      · exact .inl rfl
      · exact .inr ⟨(hm x a h1).2 h2, (hm a x ha).2 h3⟩
theorem comp_eq (hm : ∀ i j, i < n → (m i j = true ↔ SR succ i j)) {a b : Nat} (ha : a < n) (hb : b < n) (h1 : RS succ a b) (h2 : RS succ b a) : compL n m a = compL n m b := by
  unfold compL
  apply List.filter_congr
  intro x hx
  have hxn : x < n := by simpa using hx
  have e1 := mem_comp hm (x := x) ha
  have e2 := mem_comp hm (x := x) hb
  unfold compL at e1 e2
  rw [List.mem_filter] at e1 e2
  rw [Bool.eq_iff_iff]
  constructor
  · intro h
    obtain ⟨_, h3, h4⟩ := e1.1 ⟨hx, h⟩
    exact (e2.2 ⟨hxn, h3.trans h1, h2.trans h4⟩).2
  · intro h
    obtain ⟨_, h3, h4⟩ := e2.1 ⟨hx, h⟩
    exact (e1.2 ⟨hxn, h3.trans h2, h1.trans h4⟩).2
/-- Who is done leads to none that is not. -/
def DoneOk (succ : Nat → List Nat) (done : Nat → Bool) : Prop := ∀ x, done x = true → ∀ y ∈ succ x, done y = true
theorem DoneOk.reach (h : DoneOk succ done) {x y : Nat} (hr : RS succ x y) (hx : done x = true) : done y = true := RS.closed (P := fun x => done x = true) h hr hx
theorem sel_exists (hm : ∀ i j, i < n → (m i j = true ↔ SR succ i j)) : ∀ (c a : Nat), ((List.range n).filter fun j => j == a || m a j).length ≤ c → a < n → done a = false → ∃ b, selB n m done = some b := by
  intro c
  induction c with
  | zero =>
    intro a hc ha _
    exfalso
    have : a ∈ (List.range n).filter fun j => j == a || m a j := List.mem_filter.2 ⟨by simpa using ha, by simp⟩
    have := List.length_pos_of_mem this
    omega
  | succ c ih =>
    intro a hc ha hd
    cases hf : freeB n m done a
    · have hnf : ¬ ∀ i, i < n → SR succ a i → done i = true ∨ SR succ i a := fun h => by rw [(freeB_iff hm ha).2 h] at hf; cases hf
      have hex : ∃ i, i < n ∧ SR succ a i ∧ done i = false ∧ ¬ SR succ i a := by
        apply Classical.byContradiction
        intro hno
        apply hnf
        intro i hi hr
        cases hdi : done i
        · right
          apply Classical.byContradiction
          intro hns
          exact hno ⟨i, hi, hr, hdi, hns⟩
        · exact .inl rfl
      obtain ⟨i, hi, hr, hdi, hns⟩ := hex
      refine ih i ?_ hi hdi
      have hlt := filter_lt (p := fun j => j == i || m i j) (q := fun j => j == a || m a j) (List.range n) (fun x hx hp => ?_) ⟨a, by simpa using ha, by simp, ?_⟩
      · omega
      · simp only [Bool.or_eq_true, beq_iff_eq] at hp ⊢
        rcases hp with rfl | hp
        · exact .inr ((hm a x ha).2 hr)
        · exact .inr ((hm a x ha).2 (hr.trans ((hm i x hi).1 hp)))
      · rw [Bool.eq_false_iff]
        intro hp
        simp only [Bool.or_eq_true, beq_iff_eq] at hp
        rcases hp with rfl | hp
        · exact hns hr
        · exact hns ((hm i a hi).1 hp)
    · unfold selB
      cases hfi : (List.range n).find? fun a => !done a && freeB n m done a with
      | some b => exact ⟨b, rfl⟩
      | none =>
        rw [List.find?_eq_none] at hfi
        have := hfi a (by simpa using ha)
        rw [hd, hf] at this
        simp at this
end

end Go.Proofs.YtbfggmeppakcgaaGreat

/- The groups told one after another: by the program (groups by number, the first that waits for none) and by the definition. Plain facts; no program in sight. -/
namespace Go.Proofs.YtbfggmeppakcgaaGreat

/-! ### The groups by number -/
section
variable {n : Nat} {m : Nat → Nat → Bool}
theorem freeB_congr {d d' : Nat → Bool} (h : ∀ x, x < n → d x = d' x) (a : Nat) : freeB n m d a = freeB n m d' a := by
  unfold freeB
  rw [Bool.eq_iff_iff, List.all_eq_true, List.all_eq_true]
  constructor
  · intro k i hi
    have := k i hi
    rwa [h i (by simpa using hi)] at this
  · intro k i hi
    have := k i hi
    rwa [← h i (by simpa using hi)] at this
theorem selB_congr {d d' : Nat → Bool} (h : ∀ x, x < n → d x = d' x) : selB n m d = selB n m d' := by
  unfold selB
  have : ∀ l : List Nat, (∀ x ∈ l, x < n) → l.find? (fun a => !d a && freeB n m d a) = l.find? (fun a => !d' a && freeB n m d' a) := by
    intro l
    induction l with
    | nil => intro _; rfl
    | cons y l ih =>
      intro hl
      rw [List.find?_cons, List.find?_cons, ih (fun x hx => hl x (by simp [hx])), h y (hl y (by simp)), freeB_congr h y]
  exact this _ (by simp)
theorem selGo_congr : ∀ (f : Nat) {d d' : Nat → Bool}, (∀ x, x < n → d x = d' x) → selGo n m f d = selGo n m f d'
  | 0, _, _, _ => rfl
  | f + 1, d, d', h => by
    unfold selGo
    rw [selB_congr h]
    cases selB n m d' with
    | none => rfl
    | some a =>
      dsimp only
      rw [selGo_congr f (d := addDone n m d a) (d' := addDone n m d' a) (fun x hx => by simp [addDone, h x hx])]
theorem selGo_none {f : Nat} {d : Nat → Bool} (h : ∀ x, x < n → d x = true) : selGo n m f d = [] := by
  cases f with
  | zero => rfl
  | succ f =>
    unfold selGo
    have : selB n m d = none := by
      unfold selB
      rw [List.find?_eq_none]
      intro x hx
      simp [h x (by simpa using hx)]
    rw [this]
theorem selB_some {d : Nat → Bool} {a : Nat} : selB n m d = some a ↔ a < n ∧ d a = false ∧ freeB n m d a = true ∧ ∀ b, b < a → d b = true ∨ freeB n m d b = false := by
  unfold selB
  rw [List.find?_range_eq_some]
  constructor
  · rintro ⟨h1, h2, h3⟩
    have h1' : d a = false ∧ freeB n m d a = true := by simpa using h1
    refine ⟨by simpa using h2, h1'.1, h1'.2, ?_⟩
    intro b hb
    have := h3 b hb
    cases hd : d b
    · rw [hd] at this
      right
      simpa using this
    · exact .inl rfl
  · rintro ⟨h1, h2, h3, h4⟩
    refine ⟨by simp [h2, h3], by simpa using h1, ?_⟩
    intro b hb
    rcases h4 b hb with h | h <;> simp [h]
end
/-- The groups, each by its number; `least` is the least of each. -/
structure Grp (succ : Nat → List Nat) (n k : Nat) (grp least : Nat → Nat) : Prop where
  lt : ∀ x, x < n → grp x < k
  same : ∀ x y, x < n → y < n → (grp x = grp y ↔ RS succ x y ∧ RS succ y x)
  in_ : ∀ g, g < k → least g < n ∧ grp (least g) = g
  le : ∀ x, x < n → least (grp x) ≤ x
/-- A group's members. -/
def membersL (n : Nat) (grp : Nat → Nat) (g : Nat) : List Nat := (List.range n).filter fun x => grp x == g
/-- Does a group lead to another one that is not told? -/
def waitsB (succ : Nat → List Nat) (n : Nat) (grp : Nat → Nat) (told : Nat → Bool) (g : Nat) : Bool := (membersL n grp g).any fun v => (succ v).any fun u => grp u != g && !told (grp u)
/-- Whose group is told. -/
def doneOf (n : Nat) (grp : Nat → Nat) (told : Nat → Bool) (x : Nat) : Bool := decide (x < n) && told (grp x)
section
variable {succ : Nat → List Nat} {n k : Nat} {m : Nat → Nat → Bool} {grp least : Nat → Nat} {told : Nat → Bool}
theorem doneOf_lt {x : Nat} (hx : x < n) : doneOf n grp told x = told (grp x) := by simp [doneOf, hx]
theorem mem_members {g x : Nat} : x ∈ membersL n grp g ↔ x < n ∧ grp x = g := by simp [membersL]
theorem waitsB_false {g : Nat} : waitsB succ n grp told g = false ↔ ∀ v, v < n → grp v = g → ∀ u ∈ succ v, grp u = g ∨ told (grp u) = true := by
  unfold waitsB
  rw [Bool.eq_false_iff, ne_eq, List.any_eq_true]
  constructor
  · intro h v hv hg u hu
    apply Classical.byContradiction
    intro hno
    apply h
    refine ⟨v, mem_members.2 ⟨hv, hg⟩, List.any_eq_true.2 ⟨u, hu, ?_⟩⟩
    have h1 : grp u ≠ g := fun e => hno (.inl e)
    have h2 : told (grp u) = false := by
      cases ht : told (grp u)
      · rfl
      · exact absurd (.inr ht) hno
    simp [h1, h2]
  · rintro h ⟨v, hv, h2⟩
    obtain ⟨u, hu, h3⟩ := List.any_eq_true.1 h2
    obtain ⟨h4, h5⟩ := mem_members.1 hv
    rcases h v h4 h5 u hu with e | e <;> simp [e] at h3
theorem Grp.members_eq (hG : Grp succ n k grp least) (hm : ∀ i j, i < n → (m i j = true ↔ SR succ i j)) {a : Nat} (ha : a < n) : membersL n grp (grp a) = compL n m a := by
  unfold membersL compL
  apply List.filter_congr
  intro x hx
  have hxn : x < n := by simpa using hx
  have e2 := mem_comp hm (x := x) ha
  unfold compL at e2
  rw [List.mem_filter] at e2
  rw [Bool.eq_iff_iff, beq_iff_eq, hG.same x a hxn ha]
  constructor
  · intro h
    exact (e2.2 ⟨hxn, h.1, h.2⟩).2
  · intro h
    exact (e2.1 ⟨hx, h⟩).2
theorem Grp.waits_iff (hG : Grp succ n k grp least) (hs : ∀ x, x < n → ∀ y ∈ succ x, y < n) (hm : ∀ i j, i < n → (m i j = true ↔ SR succ i j)) (hd : DoneOk succ (doneOf n grp told)) {a : Nat} (ha : a < n) : waitsB succ n grp told (grp a) = false ↔ freeB n m (doneOf n grp told) a = true := by
  rw [waitsB_false, freeB_iff hm ha]
  constructor
  · intro h i hi hr
    have hc : ∀ x, (x < n ∧ (grp x = grp a ∨ told (grp x) = true)) → ∀ y ∈ succ x, (y < n ∧ (grp y = grp a ∨ told (grp y) = true)) := by
      rintro x ⟨hx, hx2⟩ y hy
      have hyn := hs x hx y hy
      refine ⟨hyn, ?_⟩
      rcases hx2 with hx2 | hx2
      · exact h x hx hx2 y hy
      · right
        have := hd x (by rw [doneOf_lt hx]; exact hx2) y hy
        rwa [doneOf_lt hyn] at this
    have := RS.closed (P := fun x => x < n ∧ (grp x = grp a ∨ told (grp x) = true)) hc (.inr hr) ⟨ha, .inl rfl⟩
    rcases this.2 with e | e
    · right
      obtain ⟨h1, _⟩ := (hG.same i a hi ha).1 e
      rcases h1 with rfl | h1
      · exact hr
      · exact h1
    · left
      rw [doneOf_lt hi]
      exact e
  · intro h v hv hg u hu
    have hun := hs v hv u hu
    obtain ⟨h1, h2⟩ := (hG.same v a hv ha).1 hg
    have hr : SR succ a u := by
      rcases h2 with rfl | h2
      · exact .one hu
      · exact .step h2 hu
    rcases h u hun hr with h3 | h3
    · right
      rwa [doneOf_lt hun] at h3
    · left
      exact (hG.same u a hun ha).2 ⟨.inr h3, .inr hr⟩
/-- The first group that is told next. -/
theorem Grp.pick (hG : Grp succ n k grp least) (hs : ∀ x, x < n → ∀ y ∈ succ x, y < n) (hm : ∀ i j, i < n → (m i j = true ↔ SR succ i j)) (hd : DoneOk succ (doneOf n grp told)) {by_ : List Nat} (hby : by_.Pairwise fun x y => least x < least y) (hmem : ∀ g, g ∈ by_ ↔ g < k) {g : Nat} (hg : by_.find? (fun g => !told g && !waitsB succ n grp told g) = some g) : selB n m (doneOf n grp told) = some (least g) ∧ membersL n grp g = compL n m (least g) := by
  have hp := List.find?_some hg
  have hgk := (hmem g).1 (List.mem_of_find?_eq_some hg)
  obtain ⟨hln, hlg⟩ := hG.in_ g hgk
  have hp2 : told g = false ∧ waitsB succ n grp told g = false := by simpa using hp
  refine ⟨?_, ?_⟩
  · rw [selB_some]
    refine ⟨hln, by rw [doneOf_lt hln, hlg]; exact hp2.1, (hG.waits_iff hs hm hd hln).1 (by rw [hlg]; exact hp2.2), ?_⟩
    intro b hb
    have hbn : b < n := by omega
    apply Classical.byContradiction
    intro hno
    have h1 : told (grp b) = false := by
      cases ht : told (grp b)
      · rfl
      · exact absurd (.inl (by rw [doneOf_lt hbn]; exact ht)) hno
    have h2 : freeB n m (doneOf n grp told) b = true := by
      cases ht : freeB n m (doneOf n grp told) b
      · exact absurd (.inr ht) hno
      · rfl
    have h3 := (hG.waits_iff hs hm hd hbn).2 h2
    have hle := hG.le b hbn
    -- the group of b is ahead of g
    have hin := (hmem (grp b)).2 (hG.lt b hbn)
    obtain ⟨_, l1, l2, e, hl1⟩ := List.find?_eq_some_iff_append.1 hg
    rw [e] at hin hby
    rw [List.pairwise_append] at hby
    rcases List.mem_append.1 hin with h4 | h4
    · have := hl1 _ h4
      simp [h1, h3] at this
    · rcases List.mem_cons.1 h4 with h5 | h5
      · rw [h5] at hle
        omega
      · have := (List.pairwise_cons.1 hby.2.1).1 _ h5
        omega
  · have := hG.members_eq hm hln
    rwa [hlg] at this
theorem Grp.some_left (hG : Grp succ n k grp least) (hs : ∀ x, x < n → ∀ y ∈ succ x, y < n) (hm : ∀ i j, i < n → (m i j = true ↔ SR succ i j)) (hd : DoneOk succ (doneOf n grp told)) {by_ : List Nat} (hmem : ∀ g, g ∈ by_ ↔ g < k) {g : Nat} (hg : g < k) (ht : told g = false) : ∃ g', by_.find? (fun g => !told g && !waitsB succ n grp told g) = some g' := by
  obtain ⟨hln, hlg⟩ := hG.in_ g hg
  obtain ⟨b, hb⟩ := sel_exists (done := doneOf n grp told) hm _ (least g) (Nat.le_refl _) hln (by rw [doneOf_lt hln, hlg]; exact ht)
  obtain ⟨h1, h2, h3, _⟩ := selB_some.1 hb
  cases hf : by_.find? (fun g => !told g && !waitsB succ n grp told g) with
  | some g' => exact ⟨g', rfl⟩
  | none =>
    rw [List.find?_eq_none] at hf
    have := hf (grp b) ((hmem _).2 (hG.lt b h1))
    rw [doneOf_lt h1] at h2
    rw [(hG.waits_iff hs hm hd h1).2 h3, h2] at this
    simp at this
end
/-- A group more is told. -/
def tell (told : Nat → Bool) (g : Nat) : Nat → Bool := fun x => told x || x == g
section
variable {succ : Nat → List Nat} {n k : Nat} {m : Nat → Nat → Bool} {grp least : Nat → Nat} {told : Nat → Bool} {out : List (List Nat)}
theorem Grp.done_tell (hG : Grp succ n k grp least) (hm : ∀ i j, i < n → (m i j = true ↔ SR succ i j)) {g : Nat} (hg : g < k) (x : Nat) (hx : x < n) : doneOf n grp (tell told g) x = addDone n m (doneOf n grp told) (least g) x := by
  obtain ⟨hln, hlg⟩ := hG.in_ g hg
  have h1 := hG.members_eq hm hln
  rw [hlg] at h1
  rw [doneOf_lt hx]
  unfold tell addDone
  rw [doneOf_lt hx, ← h1]
  congr 1
  rw [Bool.eq_iff_iff, beq_iff_eq, List.contains_iff_mem, mem_members]
  exact ⟨fun h => ⟨hx, h⟩, fun h => h.2⟩
theorem tell_ok (hs : ∀ x, x < n → ∀ y ∈ succ x, y < n) (hd : DoneOk succ (doneOf n grp told)) {g : Nat} (hw : waitsB succ n grp told g = false) : DoneOk succ (doneOf n grp (tell told g)) := by
  intro x hx y hy
  have hxn : x < n := by
    have : x < n ∧ tell told g (grp x) = true := by simpa [doneOf] using hx
    exact this.1
  rw [doneOf_lt hxn] at hx
  have hyn := hs x hxn y hy
  rw [doneOf_lt hyn]
  unfold tell at hx ⊢
  rw [Bool.or_eq_true, beq_iff_eq] at hx ⊢
  rcases hx with hx | hx
  · left
    have := hd x (by rw [doneOf_lt hxn]; exact hx) y hy
    rwa [doneOf_lt hyn] at this
  · rcases (waitsB_false.1 hw) x hxn hx y hy with h | h
    · exact .inr h
    · exact .inl h
/-- How many groups are told. -/
def toldCount (k : Nat) (told : Nat → Bool) : Nat := ((List.range k).filter told).length
theorem filter_tell_aux (told : Nat → Bool) (g : Nat) (ht : told g = false) : ∀ l : List Nat, l.Nodup → (l.filter (tell told g)).length = (l.filter told).length + if g ∈ l then 1 else 0
  | [], _ => by simp
  | y :: l, h => by
    have hn := List.nodup_cons.1 h
    have ih := filter_tell_aux told g ht l hn.2
    by_cases e : y = g
    · subst e
      have : y ∉ l := hn.1
      simp [tell, ht, this] at ih ⊢
      omega
    · have e1 : tell told g y = told y := by simp [tell, e]
      have e2 : ¬ g = y := fun h => e h.symm
      cases hy : told y
      · rw [List.filter_cons_of_neg (by rw [e1, hy]; simp), List.filter_cons_of_neg (by simp [hy])]
        simpa [e2] using ih
      · rw [List.filter_cons_of_pos (by rw [e1, hy]), List.filter_cons_of_pos hy]
        simp only [List.length_cons, List.mem_cons, e2, false_or]
        omega
theorem toldCount_tell {g : Nat} (hg : g < k) (ht : told g = false) : toldCount k (tell told g) = toldCount k told + 1 := by
  unfold toldCount
  rw [filter_tell_aux told g ht _ List.nodup_range]
  simp [hg]
theorem toldCount_none : toldCount k (fun _ => false) = 0 := by simp [toldCount]
theorem toldCount_le : toldCount k told ≤ k := by
  unfold toldCount
  have := List.length_filter_le told (List.range k)
  simpa using this
theorem toldCount_lt : toldCount k told < k ↔ ∃ g, g < k ∧ told g = false := by
  unfold toldCount
  constructor
  · intro h
    apply Classical.byContradiction
    intro hno
    have : (List.range k).filter told = List.range k := by
      rw [List.filter_eq_self]
      intro g hg
      cases ht : told g
      · exact absurd ⟨g, by simpa using hg, ht⟩ hno
      · rfl
    rw [this] at h
    simp at h
  · rintro ⟨g, hg, ht⟩
    have h1 := List.length_filter_lt_length_iff_exists (p := told) (l := List.range k)
    have := h1.2 ⟨g, by simpa using hg, by simp [ht]⟩
    simpa using this
/-- The groups told so far, and how they go on. -/
structure Telling (succ : Nat → List Nat) (n k : Nat) (m : Nat → Nat → Bool) (grp : Nat → Nat) (told : Nat → Bool) (out : List (List Nat)) : Prop where
  ok : DoneOk succ (doneOf n grp told)
  count : toldCount k told = out.length
  eq : out ++ selGo n m (n - out.length) (doneOf n grp told) = selGo n m n (fun _ => false)
theorem Telling.start : Telling succ n k m grp (fun _ => false) [] := by
  refine ⟨?_, toldCount_none, ?_⟩
  · intro x hx
    simp [doneOf] at hx
  · have e : doneOf n grp (fun _ => false) = fun _ => false := by
      funext x
      simp [doneOf]
    rw [e]
    rfl
theorem Telling.more (h : Telling succ n k m grp told out) (hG : Grp succ n k grp least) (hkn : k ≤ n) (hs : ∀ x, x < n → ∀ y ∈ succ x, y < n) (hm : ∀ i j, i < n → (m i j = true ↔ SR succ i j)) {by_ : List Nat} (hby : by_.Pairwise fun x y => least x < least y) (hmem : ∀ g, g ∈ by_ ↔ g < k) {g : Nat} (hg : by_.find? (fun g => !told g && !waitsB succ n grp told g) = some g) : Telling succ n k m grp (tell told g) (out ++ [membersL n grp g]) := by
  obtain ⟨h1, h2⟩ := hG.pick hs hm h.ok hby hmem hg
  have hp := List.find?_some hg
  have hgk := (hmem g).1 (List.mem_of_find?_eq_some hg)
  have hp2 : told g = false ∧ waitsB succ n grp told g = false := by simpa using hp
  have hlt : toldCount k told < k := toldCount_lt.2 ⟨g, hgk, hp2.1⟩
  have hc := h.count
  refine ⟨tell_ok hs h.ok hp2.2, ?_, ?_⟩
  · rw [toldCount_tell hgk hp2.1, hc]
    simp
  · obtain ⟨f, hf⟩ : ∃ f, n - out.length = f + 1 := ⟨n - out.length - 1, by omega⟩
    have he := h.eq
    have e1 : selGo n m (f + 1) (doneOf n grp told) = compL n m (least g) :: selGo n m f (addDone n m (doneOf n grp told) (least g)) := by
      simp only [selGo, h1]
    rw [hf, e1] at he
    have hf2 : n - (out ++ [membersL n grp g]).length = f := by
      simp
      omega
    rw [hf2, selGo_congr f (hG.done_tell hm hgk), h2, List.append_assoc]
    simpa using he
theorem Telling.done (h : Telling succ n k m grp told out) (hG : Grp succ n k grp least) (hlen : ¬ out.length < k) : out = selGo n m n (fun _ => false) := by
  have he := h.eq
  have hc := h.count
  rw [selGo_none (fun x hx => ?_), List.append_nil] at he
  · exact he
  · rw [doneOf_lt hx]
    cases ht : told (grp x)
    · have := toldCount_lt.2 ⟨grp x, hG.lt x hx, ht⟩
      omega
    · rfl
theorem Telling.next (h : Telling succ n k m grp told out) (hG : Grp succ n k grp least) (hs : ∀ x, x < n → ∀ y ∈ succ x, y < n) (hm : ∀ i j, i < n → (m i j = true ↔ SR succ i j)) {by_ : List Nat} (hmem : ∀ g, g ∈ by_ ↔ g < k) (hlen : out.length < k) : ∃ g', by_.find? (fun g => !told g && !waitsB succ n grp told g) = some g' := by
  obtain ⟨g, hg, ht⟩ := toldCount_lt.1 (by rw [h.count]; exact hlen)
  exact hG.some_left hs hm h.ok hmem hg ht
end
/-- How many are not done. -/
def undone (n : Nat) (done : Nat → Bool) : Nat := ((List.range n).filter fun x => !done x).length
/-- The groups told so far by the definition, and how they go on; nothing before a place can be told. -/
structure RefTold (n : Nat) (m : Nat → Nat → Bool) (done : Nat → Bool) (at_ : Nat) (out : List (List Nat)) : Prop where
  le : at_ ≤ n
  before : ∀ b, b < at_ → done b = true ∨ freeB n m done b = false
  eq : ∃ f, undone n done ≤ f ∧ out ++ selGo n m f done = selGo n m n (fun _ => false)
section
variable {n at_ : Nat} {m : Nat → Nat → Bool} {done : Nat → Bool} {out : List (List Nat)}
theorem undone_none : undone n (fun _ => false) = n := by
  unfold undone
  rw [List.filter_eq_self.2 (by simp)]
  simp
theorem RefTold.start : RefTold n m (fun _ => false) 0 [] := ⟨Nat.zero_le _, fun b hb => absurd hb (Nat.not_lt_zero b), n, by rw [undone_none]; exact Nat.le_refl _, rfl⟩
theorem RefTold.skip (h : RefTold n m done at_ out) (ha : at_ < n) (hs : done at_ = true ∨ freeB n m done at_ = false) : RefTold n m done (at_ + 1) out := by
  refine ⟨ha, ?_, h.eq⟩
  intro b hb
  by_cases e : b = at_
  · subst e
    exact hs
  · exact h.before b (by omega)
theorem undone_add {a : Nat} (ha : a < n) (hd : done a = false) : undone n (addDone n m done a) < undone n done := by
  unfold undone
  refine filter_lt (List.range n) ?_ ⟨a, by simpa using ha, by simp [hd], ?_⟩
  · intro x _ h
    have : done x = false ∧ x ∉ compL n m a := by simpa [addDone] using h
    simp [this.1]
  · have : a ∈ compL n m a := List.mem_filter.2 ⟨by simpa using ha, by simp⟩
    simp [addDone, this]
theorem RefTold.tell (h : RefTold n m done at_ out) (ha : at_ < n) (hd : done at_ = false) (hf : freeB n m done at_ = true) : RefTold n m (addDone n m done at_) 0 (out ++ [compL n m at_]) := by
  refine ⟨Nat.zero_le _, fun b hb => absurd hb (Nat.not_lt_zero b), ?_⟩
  obtain ⟨f, h1, h2⟩ := h.eq
  have h3 := undone_add (m := m) ha hd
  have hsel : selB n m done = some at_ := selB_some.2 ⟨ha, hd, hf, h.before⟩
  obtain ⟨f', rfl⟩ : ∃ f', f = f' + 1 := ⟨f - 1, by omega⟩
  refine ⟨f', by omega, ?_⟩
  have e1 : selGo n m (f' + 1) done = compL n m at_ :: selGo n m f' (addDone n m done at_) := by
    simp only [selGo, hsel]
  rw [e1] at h2
  simpa using h2
theorem RefTold.ended (h : RefTold n m done at_ out) (ha : ¬ at_ < n) : out = selGo n m n (fun _ => false) := by
  obtain ⟨f, _, h2⟩ := h.eq
  have hn : selB n m done = none := by
    unfold selB
    rw [List.find?_eq_none]
    intro x hx
    have hxn : x < n := by simpa using hx
    rcases h.before x (by omega) with e | e <;> simp [e]
  have : selGo n m f done = [] := by
    cases f with
    | zero => rfl
    | succ f => simp only [selGo, hn]
  rw [this, List.append_nil] at h2
  exact h2
theorem addDone_at {a i : Nat} : addDone n m done a i = (done i || (compL n m a).contains i) := rfl
theorem contains_comp {a i : Nat} (hi : i < n) : (compL n m a).contains i = (i == a || (m i a && m a i)) := by
  rw [Bool.eq_iff_iff, List.contains_iff_mem]
  unfold compL
  rw [List.mem_filter]
  simp [hi]
end
/-- The search tells the groups by number. -/
theorem TInv.grps {succ : Nat → List Nat} {n : Nat} {S : TS} (h : TInv succ n S []) (ha : ∀ x, x < n → 0 < S.index x) : Grp succ n S.least.length S.group (fun g => S.least.getD g 0) := by
  obtain ⟨h1, h2, h3⟩ := h.done ha
  refine ⟨h2, h1, ?_, ?_⟩
  · intro g hg
    obtain ⟨h4, h5, _⟩ := h3 g hg
    simp only [List.getD_eq_getElem?_getD, List.getElem?_eq_getElem hg, Option.getD_some]
    exact ⟨h4, h5⟩
  · intro x hx
    obtain ⟨_, _, h6⟩ := h3 _ (h2 x hx)
    simp only [List.getD_eq_getElem?_getD, List.getElem?_eq_getElem (h2 x hx), Option.getD_some]
    exact h6 x hx rfl
section
variable {succ : Nat → List Nat} {n k : Nat} {m : Nat → Nat → Bool} {grp least : Nat → Nat}
theorem Grp.inj (hG : Grp succ n k grp least) {g g' : Nat} (h : g < k) (h' : g' < k) (e : least g = least g') : g = g' := by
  rw [← (hG.in_ g h).2, ← (hG.in_ g' h').2, e]
/-- No more groups than vertices. -/
theorem Grp.le_n (hG : Grp succ n k grp least) : k ≤ n := by
  have hnd : ((List.range k).map least).Nodup := by
    rw [List.nodup_iff_pairwise_ne, List.pairwise_map]
    refine List.Pairwise.imp_of_mem (R := fun a b => a ≠ b) ?_ (List.nodup_iff_pairwise_ne.1 List.nodup_range)
    intro a b ha hb hne e
    exact hne (hG.inj (by simpa using ha) (by simpa using hb) e)
  have hsub : ((List.range k).map least) ⊆ List.range n := by
    intro x hx
    obtain ⟨g, hg, rfl⟩ := List.mem_map.1 hx
    simpa using (hG.in_ g (by simpa using hg)).1
  have := List.Nodup.length_le_of_subset hnd hsub
  simpa using this
theorem Grp.sorted (hG : Grp succ n k grp least) {by_ : List Nat} (hp : List.Perm by_ (List.range k)) (hs : by_.Pairwise fun a b => least a ≤ least b) : (by_.Pairwise fun a b => least a < least b) ∧ ∀ g, g ∈ by_ ↔ g < k := by
  have hmem : ∀ g, g ∈ by_ ↔ g < k := fun g => by rw [hp.mem_iff]; simp
  refine ⟨?_, hmem⟩
  have hnd : by_.Nodup := hp.nodup_iff.2 List.nodup_range
  have h2 := hs.and (List.nodup_iff_pairwise_ne.1 hnd)
  refine List.Pairwise.imp_of_mem ?_ h2
  rintro a b ha hb ⟨h3, h4⟩
  have : least a ≠ least b := fun e => h4 (hG.inj ((hmem a).1 ha) ((hmem b).1 hb) e)
  omega
end
/-- The groups as the definition tells them. -/
def groupsOf (n : Nat) (m : Nat → Nat → Bool) : List (List Nat) := selGo n m n (fun _ => false)
section
variable {succ : Nat → List Nat} {n : Nat} {m : Nat → Nat → Bool}
/-- Each group told is the group of a vertex. -/
theorem selGo_mem : ∀ (f : Nat) (d : Nat → Bool) (g : List Nat), g ∈ selGo n m f d → ∃ a, a < n ∧ d a = false ∧ g = compL n m a
  | 0, _, _, h => by cases h
  | f + 1, d, g, h => by
    cases hs : selB n m d with
    | none =>
      simp only [selGo, hs] at h
      cases h
    | some a =>
      simp only [selGo, hs] at h
      obtain ⟨h1, h2, _, _⟩ := selB_some.1 hs
      rcases List.mem_cons.1 h with e | h
      · exact ⟨a, h1, h2, e⟩
      · obtain ⟨b, h3, h4, h5⟩ := selGo_mem f _ g h
        have : d b = false := by
          have : d b = false ∧ b ∉ compL n m a := by simpa [addDone] using h4
          exact this.1
        exact ⟨b, h3, this, h5⟩
/-- A group has its vertex; its first is in it. -/
theorem comp_self {a : Nat} (ha : a < n) : a ∈ compL n m a := List.mem_filter.2 ⟨by simpa using ha, by simp⟩
/-- A group of one goes round just if its one leads to itself. -/
theorem comp_one (hs : ∀ x, x < n → ∀ y ∈ succ x, y < n) (hm : ∀ i j, i < n → (m i j = true ↔ SR succ i j)) {a x : Nat} (ha : a < n) (he : compL n m a = [x]) : x = a ∧ (SR succ a a ↔ a ∈ succ a) := by
  have hx : x = a := by
    have := comp_self (m := m) ha
    rw [he] at this
    exact (List.mem_singleton.1 this).symm
  refine ⟨hx, ?_, fun h => .one h⟩
  intro h
  have key : ∀ {p q}, SR succ p q → p = a → q = a → a ∈ succ a := by
    intro p q h
    induction h with
    | one h0 =>
      rintro rfl rfl
      exact h0
    | step h1 h2 ih =>
      rename_i b c
      rintro rfl rfl
      have hb : b < n := by
        have hc : ∀ x, x < n → ∀ y ∈ succ x, y < n := hs
        exact RS.closed (P := fun x => x < n) hc (.inr h1) ha
      have : b ∈ compL n m c := (mem_comp hm ha).2 ⟨hb, .inr (.one h2), .inr h1⟩
      rw [he, hx] at this
      have hbc : b = c := List.mem_singleton.1 this
      subst hbc
      exact h2
  exact key h rfl rfl
end

end Go.Proofs.YtbfggmeppakcgaaGreat

/- Contract: whether a group leads to another one that is not told yet. -/
namespace Go.Proofs.YtbfggmeppakcgaaGreat
open Go.RowKit

/-- `w'` is `w`, with more drawn. -/
def Drw (w w' : World) : Prop := ∃ d, w' = w.drewN d
theorem Drw.refl (w : World) : Drw w w := ⟨0, rfl⟩
theorem Drw.on {w a : World} (h : Drw w a) (n : Nat) : Drw w (a.drewN n) := by
  obtain ⟨d, rfl⟩ := h
  exact ⟨d + n, by rw [World.drewN_drewN]⟩
theorem Drw.trans {a b c : World} (h : Drw a b) (k : Drw b c) : Drw a c := by
  obtain ⟨d, rfl⟩ := k
  exact h.on d
theorem Drw.ext {w w' : World} (h : Drw w w') : Ext w w' := by
  obtain ⟨d, rfl⟩ := h
  exact (Ext.refl w).drewN d
theorem any_drop {α : Type} (p : α → Bool) (l : List α) {k : Nat} (h : k < l.length) : (l.drop k).any p = (p (l[k]'h) || (l.drop (k + 1)).any p) := by
  rw [List.drop_eq_getElem_cons h]; rfl

/-- What the search has left, to be read: where each vertex leads, and its group. -/
structure Left (ty int tos : TypeId) (base : Nat) (w : World) (wb b : Nat) (ts : List SlV) (grp : Nat → Nat) : Prop where
  blk : ∃ r, Wk ty w wb r ∧ r.to = .slice (some ⟨b, 0, none⟩) ts.length ts.length ∧ r.group = grp
  to : w.heap[b]? = some (.cells (ts.map (·.val)).toArray tos (0, 0))
  rows : ∀ i (h : i < ts.length), ∃ A cap, (ts[i]'h).val = .slice A (ts[i]'h).l.length cap ∧ (ts[i]'h).l.length ≤ cap ∧ cap ≤ 9223372036854775807 ∧ Ints w A (ts[i]'h).l
section
variable {ty int tos : TypeId} {base : Nat} {w w' : World} {wb b : Nat} {ts : List SlV} {grp : Nat → Nat}
theorem Left.ext (h : Left ty int tos base w wb b ts grp) (e : Ext w w') : Left ty int tos base w' wb b ts grp := by
  obtain ⟨r, h1, h2, h3⟩ := h.blk
  refine ⟨⟨r, h1.keep (e.heap h1.lt), h2, h3⟩, (e.heap (lt_of_obj h.to)).trans h.to, fun i hi => ?_⟩
  obtain ⟨A, cap, g1, g2, g3, g4⟩ := h.rows i hi
  exact ⟨A, cap, g1, g2, g3, RowOf.ext intC g4 e⟩
theorem Left.cell (h : Left ty int tos base w wb b ts grp) {v : Nat} (hv : v < 1000) : w.cell? ⟨wb, 3004 + v, none⟩ = some (.int .i64 (grp v : Int)) := by
  obtain ⟨r, h1, h2, rfl⟩ := h.blk
  exact h1.group_ hv
theorem Left.to_ (h : Left ty int tos base w wb b ts grp) : w.cell? ⟨wb, 0, none⟩ = some (.slice (some ⟨b, 0, none⟩) ts.length ts.length) := by
  obtain ⟨r, h1, h2, h3⟩ := h.blk
  rw [h1.to_, h2]
theorem Left.row (h : Left ty int tos base w wb b ts grp) {v : Nat} (hv : v < ts.length) : ∃ A cap, w.cell? ⟨b, v, none⟩ = some (.slice A (ts[v]'hv).l.length cap) ∧ (ts[v]'hv).l.length ≤ cap ∧ cap ≤ 9223372036854775807 ∧ Ints w A (ts[v]'hv).l := by
  obtain ⟨A, cap, g1, g2, g3, g4⟩ := h.rows v hv
  refine ⟨A, cap, ?_, g2, g3, g4⟩
  rw [← g1]
  simp [World.cell?, h.to, hv]
theorem Left.free (h : Left ty int tos base w wb b ts grp) (i : Nat) : w.frozen? ⟨wb, i, none⟩ = false := by
  obtain ⟨r, h1, h2, h3⟩ := h.blk
  exact h1.free i
theorem Left.keep (h : Left ty int tos base w wb b ts grp) {B : Nat} (k : Below B w w') (h1 : wb < B) (h2 : b < B) (h3 : ∀ i (hi : i < ts.length), ∀ c o n cap, (ts[i]'hi).val = .slice (some ⟨c, o, none⟩) n cap → c < B) : Left ty int tos base w' wb b ts grp := by
  obtain ⟨r, k1, k2, k3⟩ := h.blk
  refine ⟨⟨r, k1.keep (k.block wb h1), k2, k3⟩, (k.block b h2).trans h.to, fun i hi => ?_⟩
  obtain ⟨A, cap, g1, g2, g3, g4⟩ := h.rows i hi
  exact ⟨A, cap, g1, g2, g3, Row.keep g4 k.size (fun c o e hb => k.block c (h3 i hi c o _ _ (e ▸ g1)))⟩
end
theorem Marks.ext {ty : TypeId} {w w' : World} {mb : Nat} {M : Nat → Bool} (h : Marks ty w mb M) (e : Ext w w') : Marks ty w' mb M := (e.heap (lt_of_obj h)).trans h

set_option maxRecDepth 10000 in
set_option maxHeartbeats 4000000 in
theorem g_waits (base wb b mb n g cap : Nat) (A : Option Addr) (ts : List SlV) (grp : Nat → Nat) (told : Nat → Bool) (ms : List Nat) (w : World) (hts : ts.length = n) (hn : n ≤ 1000) (hin : AllIn ts)
    (hL : Left 62 3 30 base w wb b ts grp) (hM : Marks 60 w mb told) (hA : Ints w A (zs ms)) (hms : ∀ x ∈ ms, x < n) (hml : ms.length ≤ 1000) (hg : ∀ x, x < n → grp x < 1000) :
    Calls Tryz.prog 27 #[.pointer (some ⟨wb, 0, none⟩), .int .i64 g, .slice A ms.length cap, .pointer (some ⟨mb, 0, none⟩)] w fun e w' =>
      e = .returned (.bool (ms.any fun v => (succOf ts v).any fun u => grp u != g && !told (grp u))) ∧ Drw w w' := by
  have HL := hide hL
  have HM := hide hM
  have HA := hide hA
  have Hms := hide hms
  have Hg := hide hg
  have Hin := hide hin
  have HQ : Hid (∀ v (hv : v < ts.length), succOf ts v = ((ts[v]'hv).l).map Int.toNat) := hide (fun v hv => by unfold succOf; simp [hv])
  generalize hQf : (fun u => grp u != g && !told (grp u)) = Q at *
  have HQd : Hid (∀ u, Q u = (grp u != g && !told (grp u))) := hide (fun u => by rw [← hQf])
  clear hL hM hA hms hg hin hQf
  generalize hPf : (fun v => (succOf ts v).any Q) = P at *
  have HPd : Hid (∀ v, P v = (succOf ts v).any Q) := hide (fun v => by rw [← hPf])
  clear hPf
  have HR0 : Hid ((ms.drop 0).any P = ms.any P) := hide rfl
  generalize ms.any P = R at *
  go_enter Tryz.func27, Tryz.ntmps27
  go_wp2
  go_loopw [15] (fun i wr => ∃ k : Nat, k ≤ ms.length ∧ i = .int .i64 k ∧ Hid (Drw w wr) ∧ Hid ((ms.drop k).any P = R)) (fun i _ => ms.length - (intOf i).toNat)
  case atStart => exact ⟨0, Nat.zero_le _, rfl, hide (Drw.refl _), HR0⟩
  case round =>
    obtain ⟨k, hk, rfl, HX, HK⟩ := hrel
    by_cases hlt : k < ms.length
    · have hlz : k < (zs ms).length := by rw [zs_len]; exact hlt
      obtain ⟨b1, o1, rfl, hb1, q1⟩ := Ints.at_ (RowOf.ext intC HA.out HX.out.ext) hlz
      rw [zs_get _ hlz hlt] at q1
      have hlt' : (k : Int) < (ms.length : Int) := by omega
      have hvn := Hms.out _ (List.getElem_mem hlt)
      have HK1 : Hid ((P (ms[k]'hlt) || (ms.drop (k + 1)).any P) = R) := hide (by rw [← any_drop]; exact HK.out)
      generalize ms[k]'hlt = v at *
      have hvt : v < ts.length := by omega
      have hv1 : (v : Int) < (ts.length : Int) := by omega
      have hv0 : (0 : Int) ≤ (v : Int) := by omega
      have HL1 := hide (HL.out.ext HX.out.ext)
      have hto := HL1.out.to_
      obtain ⟨A2, c2, q2, h2a, h2b, h2c⟩ := HL1.out.row hvt
      have Hr2 := hide h2c
      have Hsv := hide (HQ.out v hvt)
      have Hl2 := hide (Hin.out _ (List.getElem_mem hvt))
      clear h2c
      generalize (ts[v]'hvt).l = L at *
      have HK2 : Hid ((((L.map Int.toNat).drop 0).any Q || (ms.drop (k + 1)).any P) = R) := hide (by
        have := HK1.out
        rw [HPd.out v, Hsv.out] at this
        exact this)
      have hwr : wb < wr.heap.size := by obtain ⟨r, h1, _⟩ := HL1.out.blk; exact h1.lt
      go_wp2
      go_loopw [27] (fun i wr' => ∃ j : Nat, j ≤ L.length ∧ i = .int .i64 j ∧ Hid (Drw wr wr') ∧ Hid ((((L.map Int.toNat).drop j).any Q || (ms.drop (k + 1)).any P) = R)) (fun i _ => L.length - (intOf i).toNat)
      case atStart => exact ⟨0, Nat.zero_le _, rfl, hide (Drw.refl _), HK2⟩
      case round =>
        obtain ⟨j, hj, rfl, HX2, HJ⟩ := hrel
        by_cases hlt2 : j < L.length
        · obtain ⟨b3, o3, rfl, hb3, q3⟩ := Ints.at_ (RowOf.ext intC Hr2.out HX2.out.ext) hlt2
          have hlt2' : (j : Int) < (L.length : Int) := by omega
          obtain ⟨hu0, hu1⟩ := Hl2.out _ (List.getElem_mem hlt2)
          obtain ⟨u, hu⟩ := Int.eq_ofNat_of_zero_le hu0
          have HJ1 : Hid ((Q u || (((L.map Int.toNat).drop (j + 1)).any Q || (ms.drop (k + 1)).any P)) = R) := hide (by
            have h1 := any_drop Q (L.map Int.toNat) (k := j) (by simpa using hlt2)
            have h2 : (L.map Int.toNat)[j]'(by simpa using hlt2) = u := by simp [hu]
            rw [h2] at h1
            rw [← Bool.or_assoc, ← h1]
            exact HJ.out)
          rw [hu] at q3 hu1
          clear hu hu0
          have hu2 : u < n := by omega
          have hu3 : (u : Int) < 1000 := by omega
          have hu4 : (0 : Int) ≤ (u : Int) := by omega
          have hgu := Hg.out u hu2
          have hq4 := (HL1.out.ext HX2.out.ext).cell (v := u) (by omega)
          have hq5 := (HM.out.ext (HX.out.trans HX2.out).ext).cell hgu
          have HJ2 : Hid (Q u = (grp u != g && !told (grp u))) := hide (HQd.out u)
          generalize grp u = gu at *
          generalize told gu = tg at *
          have hg1 : (gu : Int) < 1000 := by omega
          have hg0 : (0 : Int) ≤ (gu : Int) := by omega
          by_cases hgg : gu = g
          · have hQ : Q u = false := by rw [HJ2.out]; simp [hgg]
            have hd : ((gu : Int) == (g : Int)) = true := by simp; omega
            have hd2 : ((gu : Int) != (g : Int)) = false := by simp; omega
            have HQu := hide hQ
            clear hQ
            subst hgg
            go_wp2
            go_quiet (fail)
            go_wp2
            go_roundw
            case rel => exact ⟨j + 1, hlt2, by go_num, hide (HX2.out.on _), hide (by have := HJ1.out; rw [HQu.out, Bool.false_or] at this; exact this)⟩
            case measure => simp [intOf]; omega
          · have hd : ((gu : Int) == (g : Int)) = false := by simp; omega
            have hd2 : ((gu : Int) != (g : Int)) = true := by simp; omega
            have hd3 : (gu == g) = false := by simpa using hgg
            have hd4 : (gu != g) = true := by simpa using hgg
            cases tg
            · have hR : R = true := by
                have := HJ1.out
                rw [HJ2.out, hd4] at this
                simpa using this.symm
              clear HJ2 HJ1 HJ HK2 HK1 HK HPd HQd HR0
              subst hR
              go_wp2
              go_quiet (fail)
              go_wp2
              go_ret
              exact ⟨rfl, (HX.out.trans HX2.out).on _⟩
            · have HQu : Hid (Q u = false) := hide (by rw [HJ2.out]; simp)
              go_wp2
              go_quiet (fail)
              go_wp2
              go_roundw
              case rel => exact ⟨j + 1, hlt2, by go_num, hide (HX2.out.on _), hide (by have := HJ1.out; rw [HQu.out, Bool.false_or] at this; exact this)⟩
              case measure => simp [intOf]; omega
        · have hge : (L.length : Int) ≤ (j : Int) := by omega
          have HK3 : Hid ((ms.drop (k + 1)).any P = R) := hide (by
            have := HJ.out
            rw [List.drop_eq_nil_of_le (by simp; omega)] at this
            simpa using this)
          go_wp2
          go_roundw
          case rel => exact ⟨k + 1, hlt, by go_num, hide (HX.out.trans HX2.out), HK3⟩
          case measure => simp [intOf]; omega
    · have hge : (ms.length : Int) ≤ (k : Int) := by omega
      have hR : R = false := by
        have := HK.out
        rw [List.drop_eq_nil_of_le (by omega)] at this
        simpa using this.symm
      clear HK HPd HQd HR0
      subst hR
      go_wp2
      go_ret
      exact ⟨rfl, HX.out⟩

end Go.Proofs.YtbfggmeppakcgaaGreat

/- The record of a search, laid anew. -/
namespace Go.Proofs.YtbfggmeppakcgaaGreat
open Go.RowKit

def WR.new (v : Value) : WR := ⟨v, 0, fun _ => 0, fun _ => 0, fun _ => false, .slice none 0 0, .slice none 0 0, fun _ => 0⟩
set_option maxRecDepth 100000 in
theorem new_walk (A : Option Addr) (n c : Nat) : Tryz.zeroCells62.setIfInBounds 0 (.slice A n c) = cellsOf 4004 (WR.new (.slice A n c)).cell := by kernel_rfl
def TS.first : TS := ⟨0, fun _ => 0, fun _ => 0, fun _ => false, [], [], fun _ => 0⟩
theorem Mem.first {ty int : TypeId} {rb wb : Nat} {w : World} {v : Value} (h : Wk ty w wb (WR.new v)) : Mem ty int rb w wb v TS.first (.slice none 0 0) (.slice none 0 0) :=
  ⟨h, World.ownsRow_nil _ _ _ _, World.ownsRow_nil _ _ _ _, by intro k h; cases h⟩

end Go.Proofs.YtbfggmeppakcgaaGreat

/- Contract: how two groups compare, by their least vertices. -/
namespace Go.Proofs.YtbfggmeppakcgaaGreat
open Go.RowKit

set_option maxRecDepth 10000 in
set_option maxHeartbeats 1000000 in
theorem g_cmp (x y : Nat) (wb vb cL : Nat) (AL : Option Addr) (L : List Int) (w : World) (hv : w.cell? ⟨vb, 0, none⟩ = some (.pointer (some ⟨wb, 0, none⟩))) (hl : w.cell? ⟨wb, 3003, none⟩ = some (.slice AL L.length cL))
    (hr : Ints w AL L) (hx : x < L.length) (hy : y < L.length) (hb : ∀ z ∈ L, 0 ≤ z ∧ z < 1000) :
    Calls Tryz.prog 26 #[.int .i64 x, .int .i64 y, .pointer (some ⟨vb, 0, none⟩)] w fun e w' => e = .returned (.int .i64 (L[x]'hx - L[y]'hy)) ∧ ∃ q, w' = w.drewN q := by
  obtain ⟨b1, o1, rfl, hb1, q1⟩ := Ints.at_ hr hx
  obtain ⟨b2, o2, e2, hb2, q2⟩ := Ints.at_ hr hy
  injection e2 with e2
  injection e2 with e3 e4
  rw [← e3, ← e4] at q2
  clear e3 e4
  have h1 := hb _ (List.getElem_mem hx)
  have h2 := hb _ (List.getElem_mem hy)
  clear hr hb
  generalize L[x]'hx = a at *
  generalize L[y]'hy = c at *
  have hx' : (x : Int) < (L.length : Int) := by omega
  have hy' : (y : Int) < (L.length : Int) := by omega
  have hx0 : (0 : Int) ≤ (x : Int) := by omega
  have hy0 : (0 : Int) ≤ (y : Int) := by omega
  obtain ⟨h3, h4⟩ := h1
  obtain ⟨h5, h6⟩ := h2
  have hw : wrap64 (a - c) = a - c := by unfold wrap64; omega
  have hw2 : IntKind.i64.wrap (a - c) = a - c := IntWalk.i64_in _ (by omega)
  go_enter Tryz.func26, Tryz.ntmps26
  go_wp2
  go_quiet (fail)
  go_wp2
  go_ret
  exact ⟨rfl, _, rfl⟩

end Go.Proofs.YtbfggmeppakcgaaGreat
