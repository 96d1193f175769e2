/- Contract: the least of some numbers; the state of a search in memory. -/
import Derived.Test.YtnbnhchgkbbiiaaWlk
import Derived.Test.YtnbnhchgkbbiiaaGrC
namespace Go.Proofs.Ytnbnhchgkbbiiaa
open Go.RowKit

set_option maxHeartbeats 1000000 in
theorem min_i (A : Option Addr) (cap : Nat) (l : List Int) (w : World) (h : Ints w A l) (h0 : 0 < l.length) (hle : l.length ≤ 9223372036854775807) :
    Calls Try.prog 59 #[.slice A l.length cap] w fun e w' => (∃ m, e = .returned (.int .i64 m) ∧ m ∈ l ∧ ∀ x ∈ l, m ≤ x) ∧ w' = w := by
  have Hr := hide h
  have h1 : ¬ (l.length : Int) < 1 := by omega
  have h2 : (0 : Int) < (l.length : Int) := by omega
  obtain ⟨b, o, rfl, hb, hc⟩ := h.at_ h0
  rw [Nat.add_zero] at hc
  have Hf : Hid (∀ x ∈ l.take 1, l[0]'h0 ≤ x) := hide (by
    intro x hx
    rw [List.take_succ_eq_append_getElem h0] at hx
    simp at hx
    omega)
  have Hm0 : Hid (l[0]'h0 ∈ l) := hide (List.getElem_mem h0)
  generalize l[0]'h0 = y0 at *
  clear h
  go_enter Try.func59, Try.ntmps59
  go_wp2
  go_loop [3, 4] (fun m i => ∃ (j : Nat) (q : Int), j ≤ l.length ∧ i = .int .i64 j ∧ m = .int .i64 q ∧ Hid (q ∈ l) ∧ Hid (∀ x ∈ l.take j, q ≤ x)) (fun _ i => l.length - (intOf i).toNat)
  case atStart => exact ⟨1, y0, by omega, rfl, rfl, Hm0, Hf⟩
  case round =>
    obtain ⟨j, q, hj, rfl, rfl, Hq, Hx⟩ := hrel
    by_cases hlt : j < l.length
    · obtain ⟨b2, o2, e2, hb2, hc2⟩ := Hr.out.at_ hlt
      obtain ⟨e3, e4⟩ : b2 = b ∧ o2 = o := by injection e2 with e2; injection e2 with e3 e4; exact ⟨e3.symm, e4.symm⟩
      subst e3 e4
      clear e2
      have hlt' : (j : Int) < (l.length : Int) := by omega
      have Htk : Hid (l.take (j + 1) = l.take j ++ [l[j]'hlt]) := hide (List.take_succ_eq_append_getElem hlt)
      have Hmj : Hid (l[j]'hlt ∈ l) := hide (List.getElem_mem hlt)
      generalize l[j]'hlt = y at *
      have Hn : Hid ((if y < q then y else q) ∈ l ∧ ∀ x ∈ l.take (j + 1), (if y < q then y else q) ≤ x) := hide (by
        refine ⟨?_, fun x hx => ?_⟩
        · split
          · exact Hmj.out
          · exact Hq.out
        · rw [Htk.out] at hx
          rcases List.mem_append.1 hx with hx | hx
          · have := Hx.out x hx; split <;> omega
          · simp at hx; split <;> omega)
      go_wp2
      all_goals
        go_round
        case rel => exact ⟨j + 1, _, hlt, by go_num, rfl, hide Hn.out.1, hide Hn.out.2⟩
        case measure => simp [intOf]; omega
    · have hge : (l.length : Int) ≤ (j : Int) := by omega
      have hjl : j = l.length := by omega
      subst hjl
      have Hall : Hid (∀ x ∈ l, q ≤ x) := hide (by
        have := Hx.out
        rwa [List.take_of_length_le (Nat.le_refl _)] at this)
      go_wp2
      go_ret
      exact ⟨⟨q, rfl, Hq.out, Hall.out⟩, rfl⟩

/-! ### The state of a search in memory -/
def zs (l : List Nat) : List Int := l.map Int.ofNat
theorem zs_get (l : List Nat) {i : Nat} (h : i < (zs l).length) (h' : i < l.length) : (zs l)[i]'h = ((l[i]'h' : Nat) : Int) := by simp [zs]
theorem zs_len (l : List Nat) : (zs l).length = l.length := by simp [zs]
structure Mem (ty int : TypeId) (rb : Nat) (w : World) (wb : Nat) (to : Value) (S : TS) (sv lv : Value) : Prop where
  blk : Wk ty w wb ⟨to, S.count, S.index, S.low, S.opn, sv, lv, S.group⟩
  st : w.ownsRow rb int 1 sv (zs S.stack).length ((zs S.stack).map (Value.int .i64))
  ls : w.ownsRow rb int 1 lv (zs S.least).length ((zs S.least).map (Value.int .i64))
  dis : ∀ k, sv.ownBlock = some k → lv.ownBlock ≠ some k
theorem kept2 {w w' : World} {base : Nat} {e : TypeId} {size : Nat} {sv lv : Value} {n : Nat} {xs : List Value} (h : w.ownsRow base e size lv n xs) (hg : w.grownBy w' sv.ownBlock) (hd : ∀ k, sv.ownBlock = some k → lv.ownBlock ≠ some k) : w'.ownsRow base e size lv n xs := by
  refine h.kept hg ?_
  cases hl : lv.ownBlock with
  | none => exact .inl rfl
  | some k => exact .inr (fun e => hd k e.symm hl)
theorem own_set {w : World} {x : Value} {base b i : Nat} {e : TypeId} {size : Nat} {v : Value} {n : Nat} {xs : List Value} (h : w.ownsRow base e size v n xs) (hb : b < base) : (w.setCell ⟨b, i, none⟩ x).ownsRow base e size v n xs :=
  h.kept (grown_set w b i x) (by
    cases hv : v.ownBlock with
    | none => exact .inl rfl
    | some k => exact .inr (fun e => by have := (h.lt k hv).1; injection e with e; omega))
theorem own_ext_drew {w : World} {base : Nat} {e : TypeId} {size : Nat} {v : Value} {n : Nat} {xs : List Value} (h : w.ownsRow base e size v n xs) : w.drew.ownsRow base e size v n xs := h
/-- Below block `rb` all is as it was, but block `wb`. -/
structure But (rb wb : Nat) (w w' : World) : Prop where
  os : w'.os = w.os
  tape : w'.tape = w.tape
  output : w'.output = w.output
  size : w.heap.size ≤ w'.heap.size
  block : ∀ k, k < rb → k ≠ wb → w'.heap[k]? = w.heap[k]?
theorem But.refl (rb wb : Nat) (w : World) : But rb wb w w := ⟨rfl, rfl, rfl, Nat.le_refl _, fun _ _ _ => rfl⟩
theorem But.trans {rb wb : Nat} {a b c : World} (h : But rb wb a b) (k : But rb wb b c) : But rb wb a c :=
  ⟨k.os.trans h.os, k.tape.trans h.tape, k.output.trans h.output, Nat.le_trans h.size k.size, fun i hi hn => (k.block i hi hn).trans (h.block i hi hn)⟩
theorem But.drew {rb wb : Nat} {a b : World} (h : But rb wb a b) : But rb wb a b.drew := ⟨h.os, h.tape, h.output, h.size, h.block⟩
theorem But.alloc {rb wb : Nat} {a b : World} (h : But rb wb a b) (hB : rb ≤ b.heap.size) (o : Obj) : But rb wb a (b.alloc o) :=
  h.trans ⟨rfl, rfl, rfl, by simp, fun k hk _ => Below.heap_alloc _ _ _ (by omega)⟩
theorem But.grown {rb wb : Nat} {a b c : World} {row : Option Nat} (h : But rb wb a b) (hg : b.grownBy c row) (hB : rb ≤ b.heap.size) (hr : ∀ k, row = some k → rb ≤ k) : But rb wb a c :=
  h.trans ⟨hg.os, hg.tape, hg.output, hg.size, fun k hk _ => hg.block k (by omega) (fun e => by have := hr k e.symm; omega)⟩
theorem but_set (rb : Nat) (w : World) (b i : Nat) (x : Value) : But rb b w (w.setCell ⟨b, i, none⟩ x) := ⟨rfl, rfl, rfl, by simp [World.setCell], fun k _ hn => Below.heap_setCell _ ⟨b, i, none⟩ _ _ hn⟩
theorem But.below {rb wb B : Nat} {a b : World} (h : But rb wb a b) (h1 : B ≤ wb) (h2 : wb < rb) : Below B a b := ⟨h.os, h.tape, h.output, h.size, fun k hk => h.block k (by omega) (by omega)⟩
section
variable {ty int : TypeId} {w : World} {rb wb : Nat} {to sv lv : Value} {S : TS}
theorem Mem.low (h : Mem ty int rb w wb to S sv lv) (hrb : wb < rb) {v : Nat} (hv : v < 1000) (a b : Nat) : Mem ty int rb (w.setCell ⟨wb, 1002 + v, none⟩ (.int .i64 (if b < a then (b : Int) else (a : Int)))).drew wb to (S.setLow v (min a b)) sv lv := by
  have e : (if b < a then (b : Int) else (a : Int)) = ((min a b : Nat) : Int) := by split <;> omega
  rw [e]
  exact ⟨h.blk.setLow hv (min a b), own_set h.st hrb, own_set h.ls hrb, h.dis⟩
theorem Mem.drew (h : Mem ty int rb w wb to S sv lv) : Mem ty int rb w.drew wb to S sv lv := ⟨h.blk, h.st, h.ls, h.dis⟩
/-- The group of some vertices is told, which are open no more. -/
def TS.mark (T : TS) (q : List Nat) : TS :=
  { T with opn := fun z => T.opn z && !q.contains z, group := fun z => if q.contains z then T.least.length else T.group z }
theorem TS.mark_nil (T : TS) : T.mark [] = T := by
  unfold TS.mark
  cases T
  simp
theorem Mem.opn1 {q : List Nat} (h : Mem ty int rb w wb to (S.mark q) sv lv) {x : Nat} (hx : x < 1000) : Wk ty (w.setCell ⟨wb, 2002 + x, none⟩ (.bool false)) wb ⟨to, S.count, S.index, S.low, (S.mark (q ++ [x])).opn, sv, lv, (S.mark q).group⟩ := by
  have h1 := h.blk.setOpn hx false
  have e : upd (S.mark q).opn x false = (S.mark (q ++ [x])).opn := by
    funext z
    unfold upd TS.mark
    dsimp only
    by_cases e : z = x
    · subst e; simp
    · simp [e]
  rw [e] at h1
  exact h1
theorem Mem.grp1 (hrb : wb < rb) {q : List Nat} {x : Nat} (hx : x < 1000) (h : Wk ty w wb ⟨to, S.count, S.index, S.low, (S.mark (q ++ [x])).opn, sv, lv, (S.mark q).group⟩)
    (st : w.ownsRow rb int 1 sv (zs S.stack).length ((zs S.stack).map (Value.int .i64))) (ls : w.ownsRow rb int 1 lv (zs S.least).length ((zs S.least).map (Value.int .i64)))
    (dis : ∀ k, sv.ownBlock = some k → lv.ownBlock ≠ some k) :
    Mem ty int rb (w.setCell ⟨wb, 3004 + x, none⟩ (.int .i64 (((zs S.least).length : Nat) : Int))).drew wb to (S.mark (q ++ [x])) sv lv := by
  have h1 := h.setGroup hx S.least.length
  have e : upd (S.mark q).group x S.least.length = (S.mark (q ++ [x])).group := by
    funext z
    unfold upd TS.mark
    dsimp only
    by_cases e : z = x
    · subst e; simp
    · simp [e]
  rw [zs_len S.least]
  dsimp only at h1
  rw [e] at h1
  exact ⟨h1, own_set st hrb, own_set ls hrb, dis⟩
end
theorem Ints.set {w : World} {A : Option Addr} {l : List Int} (h : Ints w A l) {b i : Nat} {x : Value} (hb : ∀ c o, A = some ⟨c, o, none⟩ → c ≠ b) : Ints (w.setCell ⟨b, i, none⟩ x) A l :=
  Row.keep h (by simp [World.setCell]) (fun c o e _ => Below.heap_setCell _ ⟨b, i, none⟩ _ _ (hb c o e))
theorem own_cut {w : World} {base : Nat} {e : TypeId} {A : Option Addr} {n cap k : Nat} {xs : List Value} (h : w.ownsRow base e 1 (.slice A n cap) n xs) (hk : k ≤ n) : w.ownsRow base e 1 (.slice A k cap) k (xs.take k) := by
  refine ⟨by have := h.1; rw [List.length_take]; omega, ?_⟩
  rcases h.2 with ⟨h1, h2⟩ | ⟨g, cap', cur, h1, hb, hg, hle, hmax, hsz, htk⟩
  · injection h1 with h3 h4 h5
    exact .inl ⟨by rw [h3, h5, show k = 0 by omega], by omega⟩
  · injection h1 with h3 h4 h5
    subst h3 h5
    refine .inr ⟨g, cap, cur, rfl, hb, hg, by omega, hmax, hsz, ?_⟩
    rw [← htk, List.take_take]
    congr 1
    omega

end Go.Proofs.Ytnbnhchgkbbiiaa
