/- A range over a function: what a round keeps. No program in sight. -/
import Derived.Test.YtbfggmeppakcgaaGreatJA10
import Derived.Test.YtbfggmeppakcgaaGreatProg
import Derived.RangeFuncNested
import Derived.RangeFuncBound
import Derived.RangeFuncCalls
import Derived.RangeFuncLeaves
import Derived.Shelf.Abstract
import Derived.Shelf.RegionOpen
import Derived.OwnWalkIn
import Derived.TacticsInMore
import Derived.LoopNIn
import Derived.LoopIn
/- A range over a function: what a round keeps. No program in sight. -/
namespace Go.Proofs.YtbfggmeppakcgaaGreat
open Go.RowKit Go.Shelf

theorem room_of_none {F : Fence} (hd : F.depth = none) (k : Nat) : F.room k := fun d h => by rw [hd] at h; cases h
theorem RoundIn.anyDepth {F : Fence} (hd : F.depth = none) {m m' : Nat} {P : Program} {l : Nat} {f : FuncId} {tmps : Array Value} {assign body : Code} {w : World} {R : Ending → World → Prop}
    (h : RoundIn F m P l f tmps assign body w R) : RoundIn F m' P l f tmps assign body w R := ⟨h.1, fun c cs _ => h.2 c cs (room_of_none hd _)⟩
theorem YieldAt.anyDepth {F : Fence} (hd : F.depth = none) {m : Nat} (m' : Nat) {P : Program} {l : Nat} {args : Array Value} {W : World} {R : Ending → World → Prop} (h : YieldAt F m P l args W R) : YieldAt F m' P l args W R := by
  obtain ⟨fn, tmps, assign, body, hy, hR⟩ := h
  exact ⟨fn, tmps, assign, body, hy, RoundIn.anyDepth hd hR⟩

/-- What a round keeps: all that lay below `n₀`, and all cells but those of block `R`. -/
structure Kc (n₀ R : Nat) (W W' : World) : Prop where
  below : Below n₀ W W'
  cells : ∀ k o, k ≠ R → W.heap[k]? = some o → o.isCells = true → W'.heap[k]? = some o
section
variable {n₀ R : Nat} {A B C : World}
theorem Kc.refl (n₀ R : Nat) (A : World) : Kc n₀ R A A := ⟨Below.refl _ _, fun _ _ _ h _ => h⟩
theorem Kc.trans (h : Kc n₀ R A B) (k : Kc n₀ R B C) : Kc n₀ R A C := ⟨h.below.trans k.below, fun i o hi ho hc => k.cells i o hi (h.cells i o hi ho hc) hc⟩
theorem Kc.alloc (h : Kc n₀ R A B) (hn : n₀ ≤ B.heap.size) (o : Obj) : Kc n₀ R A (B.alloc o) :=
  h.trans ⟨(Below.refl _ B).alloc hn o, fun _ _ _ ho _ => (Below.heap_alloc _ _ _ (Array.getElem?_eq_some_iff.1 ho).1).trans ho⟩
theorem Kc.put (h : Kc n₀ R A B) {l : Nat} {o : Obj} (o' : Obj) (hn : n₀ ≤ l) (hl : B.heap[l]? = some o) (ho : o.isCells = false) : Kc n₀ R A (B.putObj l o') :=
  h.trans ⟨(Below.refl _ B).grown (grownBy_putObj' B l o') (by have := (Array.getElem?_eq_some_iff.1 hl).1; omega) (fun k e => by cases e; exact hn), fun i o2 _ h2 hc => by
    refine (World.putObj_heap_other (fun e => ?_)).trans h2
    subst e
    rw [hl] at h2
    cases h2
    rw [ho] at hc
    cases hc⟩
theorem Kc.size (h : Kc n₀ R A B) : A.heap.size ≤ B.heap.size := h.below.size
end

end Go.Proofs.YtbfggmeppakcgaaGreat

/- A range over a function: the walk over a tree's nodes, each with its level; whether a tree is not too deep. -/
namespace Go.Proofs.YtbfggmeppakcgaaGreat
open Go.RowKit Go.Shelf

attribute [local go_sem] Oper.semAt_some

/-- All nodes, each with its level. -/
noncomputable def Tree.lev : Tree → Nat → List (Nat × Tree) := Tree.fold fun t l d => (d, t) :: (l.map fun f => f (d + 1)).flatten
noncomputable def levs (l : List Tree) (d : Nat) : List (Nat × Tree) := (l.map fun k => k.lev d).flatten
theorem lev_eq (t : Tree) (d : Nat) : t.lev d = (d, t) :: levs t.kids (d + 1) := by
  unfold Tree.lev
  rw [Tree.fold_eq]
  simp only [levs, List.map_map]
  rfl
theorem levs_take (l : List Tree) (d : Nat) {k : Nat} (h : k < l.length) : levs (l.take (k + 1)) d = levs (l.take k) d ++ (l[k]'h).lev d := by
  unfold levs
  rw [List.take_succ_eq_append_getElem h, List.map_append, List.flatten_append]
  congr 1
  simp
theorem levs_split (l : List Tree) (d k : Nat) : levs l d = levs (l.take k) d ++ levs (l.drop k) d := by
  unfold levs
  rw [← List.flatten_append, ← List.map_append, List.take_append_drop]
theorem lev_low (c : Nat) : ∀ (t : Tree) (d : Nat), (∀ p ∈ t.lev d, p.1 ≤ c) ↔ d + t.depth ≤ c + 1 := by
  intro t
  induction t using Tree.ind with
  | h t ih =>
  intro d
  rw [lev_eq, Tree.depth_eq]
  have hmax : ∀ (l : List Nat) (m : Nat), l.foldr max 0 ≤ m ↔ ∀ x ∈ l, x ≤ m := by
    intro l m
    induction l with
    | nil => simp
    | cons x l ih => simp only [List.foldr_cons, List.mem_cons, forall_eq_or_imp]; rw [← ih]; omega
  have hk : (∀ p ∈ levs t.kids (d + 1), p.1 ≤ c) ↔ ∀ k ∈ t.kids, d + 1 + k.depth ≤ c + 1 := by
    unfold levs
    constructor
    · intro h k hk
      exact (ih k hk (d + 1)).1 (fun p hp => h p (List.mem_flatten.2 ⟨_, List.mem_map.2 ⟨k, hk, rfl⟩, hp⟩))
    · intro h p hp
      obtain ⟨_, hl, hp⟩ := List.mem_flatten.1 hp
      obtain ⟨k, hk, rfl⟩ := List.mem_map.1 hl
      exact (ih k hk (d + 1)).2 (h k hk) p hp
  simp only [List.mem_cons, forall_eq_or_imp]
  rw [hk]
  constructor
  · rintro ⟨h1, h2⟩
    have : (t.kids.map Tree.depth).foldr max 0 ≤ c - d := (hmax _ _).2 (fun x hx => by
      obtain ⟨k, hk, rfl⟩ := List.mem_map.1 hx
      have := h2 k hk
      omega)
    omega
  · intro h
    refine ⟨by omega, fun k hk => ?_⟩
    have := (hmax (t.kids.map Tree.depth) ((t.kids.map Tree.depth).foldr max 0)).1 (Nat.le_refl _) k.depth (List.mem_map.2 ⟨k, hk, rfl⟩)
    omega
theorem depth_le_size (t : Tree) : t.depth ≤ t.size := by
  induction t using Tree.ind with
  | h t ih =>
  rw [Tree.depth_eq, Tree.size_eq]
  have : ∀ l : List Tree, (∀ k ∈ l, k.depth ≤ k.size) → (l.map Tree.depth).foldr max 0 ≤ (l.map Tree.size).sum := by
    intro l
    induction l with
    | nil => simp
    | cons x l ih2 =>
      intro h
      have h1 := ih2 (fun k hk => h k (List.mem_cons_of_mem _ hk))
      have h2 := h x (List.mem_cons_self ..)
      simp only [List.map_cons, List.foldr_cons, List.sum_cons]
      omega
  have := this t.kids ih
  omega

section
variable {n₀ R : Nat} {A B C : World}
theorem Kc.box (h : Kc n₀ R A B) {b : Nat} {t : Tree} (k : NBox A b t) (hb : b ≠ R) : NBox B b t := h.cells b _ hb k rfl
end

set_option maxRecDepth 10000 in
set_option maxHeartbeats 2000000 in
theorem n_walk_in (F : Fence) (hd : F.depth = none) (h6 : F.fn 81) (hro : F.round = none) (l n₀ R N : Nat) (w0 : World) (hw0 : n₀ = w0.heap.size) (J Jx : List (Nat × Tree) → World → Prop)
    (hJa : ∀ pre W o, J pre W → J pre (W.alloc o))
    (hY : ∀ m pre x W, J pre W → pre.length < N → YieldAt F m Tryz.prog l #[.int .i64 ((x : Nat × Tree).1 : Nat), treeV x.2] W fun e W' =>
      (e = .returned (.bool true) ∧ J (pre ++ [x]) W' ∧ Kc n₀ R W W') ∨ (e = .returned (.bool false) ∧ Jx (pre ++ [x]) W')) (t : Tree) :
    ∀ (n d : Nat) (pre : List (Nat × Tree)) (W : World), NodeIn w0 t → Below n₀ w0 W → R < W.heap.size → J pre W → d + t.size ≤ 1000000 → pre.length + (t.lev d).length ≤ N →
      CallsIn F n Tryz.prog 81 #[treeV t, .int .i64 d, .func (.yield l) #[] #[]] W fun e W' =>
        (e = .returned (.bool true) ∧ J (pre ++ t.lev d) W' ∧ Kc n₀ R W W') ∨ (e = .returned (.bool false) ∧ ∃ q, q <+: t.lev d ∧ Jx (pre ++ q) W') := by
  induction t using Tree.ind with
  | h t ih =>
  intro n d pre W ht hB hRW hJ hsz hN
  have IH := hide ih
  have hdd : ∀ k : Nat, (F.depth.isSome = true → 1 ≤ k) := fun k h => by rw [hd] at h; cases h
  have hlv := lev_eq t d
  have hn0 : n₀ ≤ W.heap.size := by have := hB.size; omega
  have HB0 : Hid (NBox (W.alloc (.cells #[.int .i64 t.kind, .int .i64 t.pos, .int .i64 t.n, encStr t.text, .slice t.A t.kids.length t.cap] 28)) W.heap.size t) := hide (at_newB _ _ _ rfl)
  have K0 : Hid (Kc n₀ R W (W.alloc (.cells #[.int .i64 t.kind, .int .i64 t.pos, .int .i64 t.n, encStr t.text, .slice t.A t.kids.length t.cap] 28))) := hide ((Kc.refl _ _ _).alloc hn0 _)
  have hJ1 := hJa pre W (.cells #[.int .i64 t.kind, .int .i64 t.pos, .int .i64 t.n, encStr t.text, .slice t.A t.kids.length t.cap] 28) hJ
  obtain ⟨fn, tmps, assign, body, hy, hR⟩ := hY (n - 1) pre (d, t) _ hJ1 (by rw [hlv] at hN; simp at hN; omega)
  have HT := hide ht
  have HBw := hide hB
  have HR := hide hR
  clear ih hB hR hJ hJ1
  unfold treeV
  unfold treeV at hy
  have hle := ht.le
  have hmx := ht.max
  have HK := hide ht.nodes
  dsimp only at hy
  generalize hA0 : t.A = A0 at *
  have HA0 := hide hA0
  clear hA0 ht
  refine callsIn_of_wp Tryz.func81 rfl h6 ?_ hro
  simp only [Tryz.ntmps81, List.size_toArray, List.length_cons, List.length_nil, Nat.reduceAdd, Nat.reduceSub, Array.replicate_succ, Array.replicate_zero, List.push_toArray, List.append_toArray, List.nil_append, List.cons_append]
  gi_wp2
  refine HR.out.mono ?_
  rintro e W2 (⟨rfl, hJ2, hk2⟩ | ⟨rfl, hJx2⟩)
  · have K2 := hide (K0.out.trans hk2)
    have HB2 := hide (hk2.box HB0.out (by omega))
    have HJ2 := hide hJ2
    have HJa := hide hJa
    have hc4 := HB2.out.c4
    rw [HA0.out] at hc4
    have HLT := hide (fun k (hk : k < t.kids.length) => levs_take t.kids (d + 1) hk)
    have HLS := hide (fun k => levs_split t.kids (d + 1) k)
    have Hlv := hide hlv
    have HNl := hide hN
    have Hsz := hide (fun k (hk : k ∈ t.kids) => Tree.size_kid hk)
    have hW2 : W.heap.size < W2.heap.size := HB2.out.lt
    clear hJ2 hk2 hlv hJa hN HR hY
    gi_wp2
    gi_loopw [17] (fun i wr => ∃ k : Nat, k ≤ t.kids.length ∧ i = .int .i64 k ∧ Hid (J (pre ++ (d, t) :: levs (t.kids.take k) (d + 1)) wr) ∧ Hid (Kc n₀ R W2 wr)) (fun i _ => t.kids.length - (intOf i).toNat)
    case atStart => exact ⟨0, Nat.zero_le _, rfl, hide (by simpa [levs] using HJ2.out), hide (Kc.refl _ _ _)⟩
    case round =>
      obtain ⟨k, hk, rfl, HJ, HKc⟩ := hrel
      have HB3 := hide (HKc.out.box HB2.out (by omega))
      by_cases hlt : k < t.kids.length
      · have hlt' : (k : Int) < (t.kids.length : Int) := by omega
        have HKw : Hid (Below n₀ w0 wr) := hide ((HBw.out.trans K2.out.below).trans HKc.out.below)
        obtain ⟨b, o, rfl, hb, q0, q1, q2, q3, q4⟩ := (HK.out.old (hw0 ▸ HKw.out)).at_ hlt
        have hck := List.getElem_mem hlt
        have hcs := Hsz.out _ hck
        have Hst := hide (HLT.out k hlt)
        have HsN : pre.length + (levs (t.kids.take k) (d + 1)).length + 1 + ((t.kids[k]'hlt).lev (d + 1)).length ≤ N := by
          have h1 := HNl.out
          have h2 := congrArg List.length (HLS.out (k + 1))
          rw [Hlv.out] at h1
          rw [Hst.out] at h2
          simp only [List.length_cons, List.length_append] at h1 h2
          omega
        have HC := hide (IH.out _ hck (n - 1) (d + 1) _ (wr.alloc (.cells #[.int .i64 (t.kids[k]'hlt).kind, .int .i64 (t.kids[k]'hlt).pos, .int .i64 (t.kids[k]'hlt).n, encStr (t.kids[k]'hlt).text, .slice (t.kids[k]'hlt).A (t.kids[k]'hlt).kids.length (t.kids[k]'hlt).cap] 28))
          (HK.out.kids _ hck) (HKw.out.alloc (by have := HKw.out.size; omega) _) (by have := HKc.out.size; simp; omega) (HJa.out _ _ _ HJ.out) (by omega) (by simp only [List.length_append, List.length_cons]; omega))
        have HAl : Hid (Kc n₀ R W2 (wr.alloc (.cells #[.int .i64 (t.kids[k]'hlt).kind, .int .i64 (t.kids[k]'hlt).pos, .int .i64 (t.kids[k]'hlt).n, encStr (t.kids[k]'hlt).text, .slice (t.kids[k]'hlt).A (t.kids[k]'hlt).kids.length (t.kids[k]'hlt).cap] 28))) := hide (HKc.out.alloc (by have := HKw.out.size; omega) _)
        have Hpl := hide (HLS.out k)
        have Hpd : Hid (levs (t.kids.drop k) (d + 1) = (t.kids[k]'hlt).lev (d + 1) ++ levs (t.kids.drop (k + 1)) (d + 1)) := hide (by unfold levs; rw [List.drop_eq_getElem_cons hlt]; rfl)
        clear hck HsN
        generalize t.kids[k]'hlt = c at *
        have hd1 : (d : Int) + 1 ≤ 2000000 := by omega
        have hd0 : (0 : Int) ≤ (d : Int) := by omega
        have ha : 1 ≤ n ∨ True := .inr trivial
        gi_wp2_with fail
        refine HC.out.mono ?_
        rintro e W4 (⟨rfl, hJ4, hk4⟩ | ⟨rfl, q, hq, hJx4⟩)
        · have K4 := hide (HAl.out.trans hk4)
          have HJ4 := hide hJ4
          clear hJ4 hk4
          gi_wp2
          go_roundw
          case rel => exact ⟨k + 1, hlt, by go_num, hide (by rw [Hst.out]; simpa using HJ4.out), K4⟩
          case measure => simp [intOf]; omega
        · gi_wp2
          go_ret
          refine .inr ⟨rfl, (d, t) :: levs (t.kids.take k) (d + 1) ++ q, ?_, by simpa using hJx4⟩
          obtain ⟨r, hr⟩ := hq
          rw [Hlv.out, Hpl.out, Hpd.out, ← hr]
          exact ⟨r ++ levs (t.kids.drop (k + 1)) (d + 1), by simp⟩
      · have hge : ¬ (k : Int) < (t.kids.length : Int) := by omega
        have hkk : t.kids.take k = t.kids := List.take_of_length_le (by omega)
        have HF : Hid (J (pre ++ t.lev d) wr) := hide (by have := HJ.out; rw [hkk, ← Hlv.out] at this; exact this)
        clear hkk
        gi_wp2
        go_ret
        exact .inl ⟨rfl, HF.out, by rw [← hw0]; exact K2.out.trans HKc.out⟩
  · gi_wp2
    go_ret
    exact .inr ⟨rfl, [(d, t)], by rw [hlv]; exact ⟨_, rfl⟩, hJx2⟩

theorem n_all_in (F : Fence) (n d : Nat) (h4 : F.fn 66) (hro : F.round = none) (t : Tree) (w : World) :
    CallsIn F n Tryz.prog 66 #[treeV t, .int .i64 d] w fun e w' => e = .returned (.func (.func 80) #[] #[.pointer (some ⟨w.heap.size, 0, none⟩), .pointer (some ⟨w.heap.size + 1, 0, none⟩)]) ∧
      w' = (w.alloc (.cells #[.int .i64 t.kind, .int .i64 t.pos, .int .i64 t.n, encStr t.text, .slice t.A t.kids.length t.cap] 28)).alloc (.cells #[.int .i64 d] 3) := by
  unfold treeV
  refine callsIn_of_wp Tryz.func66 rfl h4 ?_ hro
  simp only [Tryz.ntmps66, List.size_toArray, List.length_cons, List.length_nil, Nat.reduceAdd, Nat.reduceSub, Array.replicate_succ, Array.replicate_zero, List.push_toArray, List.append_toArray, List.nil_append, List.cons_append]
  gi_wp2
  go_ret
  exact ⟨rfl, rfl⟩

set_option maxHeartbeats 1000000 in
theorem n_all1_in (F : Fence) (hd : F.depth = none) (n : Nat) (h5 : F.fn 80) (h6 : F.fn 81) (hro : F.round = none) (l d Bt Bl n₀ R : Nat) (w0 : World) (hw0 : n₀ = w0.heap.size) (t : Tree) (J Jx : List (Nat × Tree) → World → Prop)
    (hJa : ∀ pre W o, J pre W → J pre (W.alloc o))
    (hY : ∀ pre x W, J pre W → pre.length < (t.lev d).length → YieldAt F (n - 1) Tryz.prog l #[.int .i64 ((x : Nat × Tree).1 : Nat), treeV x.2] W fun e W' =>
      (e = .returned (.bool true) ∧ J (pre ++ [x]) W' ∧ Kc n₀ R W W') ∨ (e = .returned (.bool false) ∧ Jx (pre ++ [x]) W'))
    (W : World) (hBt : NBox W Bt t) (hBl : W.cell? ⟨Bl, 0, none⟩ = some (.int .i64 d)) (ht : NodeIn w0 t) (hB : Below n₀ w0 W) (hR : R < W.heap.size) (hsz : d + t.size ≤ 1000000) (h0 : J [] W) :
    CallsIn F n Tryz.prog 80 #[.func (.yield l) #[] #[], .pointer (some ⟨Bt, 0, none⟩), .pointer (some ⟨Bl, 0, none⟩)] W fun e W' => (∃ v, e = .returned v) ∧
      ((∃ ys, ys = t.lev d ∧ J ys W') ∨ (∃ pre, pre <+: t.lev d ∧ Jx pre W')) := by
  have hp := hide (n_walk_in F hd h6 hro l n₀ R (t.lev d).length w0 hw0 J Jx hJa (fun m pre x W hj hl => YieldAt.anyDepth hd m (hY pre x W hj hl)) t (n - 1) d [] W ht hB hR h0 hsz (by simp))
  have c0 := hBt.c0
  have c1 := hBt.c1
  have c2 := hBt.c2
  have c3 := hBt.c3
  have c4 := hBt.c4
  have HY := hide hY
  clear hY hJa hBt ht hB h0 hw0
  refine callsIn_of_wp Tryz.func80 rfl h5 ?_ hro
  simp only [Tryz.ntmps80, List.size_toArray, List.length_cons, List.length_nil, Nat.reduceAdd, Nat.reduceSub, Array.replicate_succ, Array.replicate_zero, List.push_toArray, List.append_toArray, List.nil_append, List.cons_append]
  gi_wp2_with fail
  refine hp.out.mono ?_
  rintro e W1 (⟨rfl, hJ1, _⟩ | ⟨rfl, q, hq, hx⟩)
  · gi_wp2
    go_end0
    exact ⟨⟨_, rfl⟩, .inl ⟨_, rfl, by simpa using hJ1⟩⟩
  · gi_wp2
    go_end0
    exact ⟨⟨_, rfl⟩, .inr ⟨q, hq, by simpa using hx⟩⟩

theorem n_all_stops (F : Fence) (hd : F.depth = none) (n : Nat) (h5 : F.fn 80) (h6 : F.fn 81) (hro : F.round = none) (d Bt Bl n₀ R : Nat) (w0 w : World) (hw0 : n₀ = w0.heap.size) (t : Tree)
    (hBt : NBox w Bt t) (hBl : w.cell? ⟨Bl, 0, none⟩ = some (.int .i64 d)) (hl : Bl < w.heap.size) (ht : NodeIn w0 t) (hB : Below n₀ w0 w) (hR : R < w.heap.size) (hsz : d + t.size ≤ 1000000) :
    SeqStopsK F n Tryz.prog 80 #[.pointer (some ⟨Bt, 0, none⟩), .pointer (some ⟨Bl, 0, none⟩)] (fun x : Nat × Tree => #[Value.int .i64 (x.1 : Nat), treeV x.2]) (Kc n₀ R) (fun ys => ys = t.lev d) (fun pre => pre <+: t.lev d) (t.lev d).length w := fun l J Jx W hW hJ _ hY h0 =>
  n_all1_in F hd n h5 h6 hro l d Bt Bl n₀ R w0 hw0 t J Jx (fun pre W o h => hJ pre W _ none h (World.grownBy_alloc W o none) (fun r e => by cases e)) hY W ((hW.block Bt hBt.lt).trans hBt) ((hW.cell (p := ⟨Bl, 0, none⟩) hl).trans hBl) ht
    (hB.trans (hW.mono (by have := hB.size; omega))) (by have := hW.size; omega) hsz h0

end Go.Proofs.YtbfggmeppakcgaaGreat

/- Contract: whether a tree is not too deep. -/
namespace Go.Proofs.YtbfggmeppakcgaaGreat
open Go.RowKit Go.Shelf

attribute [local go_sem] Oper.semAt_some

theorem cell_of_boxB {W : World} {B : Nat} {v : Value} {t : TypeId} (h : W.heap[B]? = some (.cells #[v] t (0, 0))) : W.cell? ⟨B, 0, none⟩ = some v ∧ W.frozen? ⟨B, 0, none⟩ = false := by
  constructor <;> simp [World.cell?, World.frozen?, h]
theorem cell_newB (W : World) (v : Value) (t : TypeId) : (W.alloc (.cells #[v] t)).cell? ⟨W.heap.size, 0, none⟩ = some v ∧ (W.alloc (.cells #[v] t)).frozen? ⟨W.heap.size, 0, none⟩ = false :=
  cell_of_boxB (World.alloc_heap_new W _)
theorem cell_allocB {W : World} {a : Addr} {v : Value} (o : Obj) (h : W.cell? a = some v) : (W.alloc o).cell? a = some v := cell_kept h (World.grownBy_alloc W o none) (fun r e => by cases e)
theorem frozen_allocB {W : World} {a : Addr} {v : Value} (o : Obj) (h : W.cell? a = some v) (hf : W.frozen? a = false) : (W.alloc o).frozen? a = false := (frozen_kept h (World.grownBy_alloc W o none) (fun r e => by cases e)).trans hf

/-- Not too deep? -/
noncomputable def lowB (t : Tree) : Bool := decide (t.depth ≤ 100)
theorem lowB_all (t : Tree) : lowB t = decide (∀ p ∈ t.lev 1, p.1 ≤ 100) := by
  unfold lowB
  have := lev_low 100 t 1
  apply decide_eq_decide.2
  rw [this]
  omega

def AllLow (l : List (Nat × Tree)) : Prop := ∀ p ∈ l, p.1 ≤ 100
theorem AllLow.snoc {l : List (Nat × Tree)} {x : Nat × Tree} (h : AllLow l) (hx : x.1 ≤ 100) : AllLow (l ++ [x]) := fun y hy => (List.mem_append.1 hy).elim (h y) (fun e => by rw [List.mem_singleton] at e; subst e; exact hx)

set_option maxRecDepth 100000 in
set_option maxHeartbeats 2000000 in
theorem n_low_in (F : Fence) (hd : F.depth = none) (n : Nat) (h3 : F.fn 53) (h4 : F.fn 66) (h5 : F.fn 80) (h6 : F.fn 81) (hro : F.round = none) (hn : 3 ≤ n) (t : Tree) (w : World) (ht : NodeIn w t) (hsz : t.size ≤ 100000) :
    CallsIn F n Tryz.prog 53 #[treeV t] w fun e W' => e = .returned (.bool (lowB t)) ∧ Below w.heap.size w W' := by
  have h1 : 1 ≤ n := by omega
  rw [lowB_all]
  have HA := hide (fun w' => n_all_in F (n - 1) 1 h4 hro t w')
  have Ht := hide ht
  have hsz1 : 1 + t.size ≤ 1000000 := by omega
  clear ht
  unfold treeV at *
  refine callsIn_of_wp_marks Tryz.func53 rfl h3 ?_ hro
  simp only [Tryz.ntmps53, List.size_toArray, List.length_cons, List.length_nil, Nat.reduceAdd, Nat.reduceSub, Array.replicate_succ, Array.replicate_zero, List.push_toArray, List.append_toArray, List.nil_append, List.cons_append]
  gi_wp2_with fail
  refine (HA.out _).mono ?_
  rintro e w' ⟨rfl, rfl⟩
  gi_wp2
  have hB0 : Below w.heap.size w (((((w.alloc (.cells #[.int .i64 t.kind, .int .i64 t.pos, .int .i64 t.n, encStr t.text, .slice t.A t.kids.length t.cap] 28)).alloc (.cells #[.bool false] 4)).alloc (.cells #[.int .i64 t.kind, .int .i64 t.pos, .int .i64 t.n, encStr t.text, .slice t.A t.kids.length t.cap] 28)).alloc (.cells #[.int .i64 ((1 : Nat) : Int)] 3))) := ((((Below.refl _ w).alloc (Nat.le_refl _) _).alloc (by simp) _).alloc (by simp; omega) _).alloc (by simp; omega) _
  have hbx : NBox (((((w.alloc (.cells #[.int .i64 t.kind, .int .i64 t.pos, .int .i64 t.n, encStr t.text, .slice t.A t.kids.length t.cap] 28)).alloc (.cells #[.bool false] 4)).alloc (.cells #[.int .i64 t.kind, .int .i64 t.pos, .int .i64 t.n, encStr t.text, .slice t.A t.kids.length t.cap] 28)).alloc (.cells #[.int .i64 ((1 : Nat) : Int)] 3))) (w.heap.size + 1 + 1) t := by
    refine (Below.heap_alloc _ _ _ (by simp)).trans ?_
    exact at_newB _ _ _ (by simp)
  have hbl : (((((w.alloc (.cells #[.int .i64 t.kind, .int .i64 t.pos, .int .i64 t.n, encStr t.text, .slice t.A t.kids.length t.cap] 28)).alloc (.cells #[.bool false] 4)).alloc (.cells #[.int .i64 t.kind, .int .i64 t.pos, .int .i64 t.n, encStr t.text, .slice t.A t.kids.length t.cap] 28)).alloc (.cells #[.int .i64 ((1 : Nat) : Int)] 3))).cell? ⟨w.heap.size + 1 + 1 + 1, 0, none⟩ = some (.int .i64 ((1 : Nat) : Int)) := (cell_of_boxB (at_newB _ _ _ (by simp))).1
  have hrc : (((((w.alloc (.cells #[.int .i64 t.kind, .int .i64 t.pos, .int .i64 t.n, encStr t.text, .slice t.A t.kids.length t.cap] 28)).alloc (.cells #[.bool false] 4)).alloc (.cells #[.int .i64 t.kind, .int .i64 t.pos, .int .i64 t.n, encStr t.text, .slice t.A t.kids.length t.cap] 28)).alloc (.cells #[.int .i64 ((1 : Nat) : Int)] 3))).cell? ⟨w.heap.size + 1, 0, none⟩ = some (.bool false) ∧ (((((w.alloc (.cells #[.int .i64 t.kind, .int .i64 t.pos, .int .i64 t.n, encStr t.text, .slice t.A t.kids.length t.cap] 28)).alloc (.cells #[.bool false] 4)).alloc (.cells #[.int .i64 t.kind, .int .i64 t.pos, .int .i64 t.n, encStr t.text, .slice t.A t.kids.length t.cap] 28)).alloc (.cells #[.int .i64 ((1 : Nat) : Int)] 3))).frozen? ⟨w.heap.size + 1, 0, none⟩ = false := by
    have := cell_newB (w.alloc (.cells #[.int .i64 t.kind, .int .i64 t.pos, .int .i64 t.n, encStr t.text, .slice t.A t.kids.length t.cap] 28)) (.bool false) 4
    simp only [World.size_alloc] at this
    exact ⟨cell_allocB _ (cell_allocB _ this.1), frozen_allocB _ (cell_allocB _ this.1) (frozen_allocB _ this.1 this.2)⟩
  have hsz0 : (((((w.alloc (.cells #[.int .i64 t.kind, .int .i64 t.pos, .int .i64 t.n, encStr t.text, .slice t.A t.kids.length t.cap] 28)).alloc (.cells #[.bool false] 4)).alloc (.cells #[.int .i64 t.kind, .int .i64 t.pos, .int .i64 t.n, encStr t.text, .slice t.A t.kids.length t.cap] 28)).alloc (.cells #[.int .i64 ((1 : Nat) : Int)] 3))).heap.size = w.heap.size + 4 := by simp
  have HS := hide (n_all_stops F hd (n - 1) h5 h6 hro 1 (w.heap.size + 1 + 1) (w.heap.size + 1 + 1 + 1) w.heap.size (w.heap.size + 1) w (((((w.alloc (.cells #[.int .i64 t.kind, .int .i64 t.pos, .int .i64 t.n, encStr t.text, .slice t.A t.kids.length t.cap] 28)).alloc (.cells #[.bool false] 4)).alloc (.cells #[.int .i64 t.kind, .int .i64 t.pos, .int .i64 t.n, encStr t.text, .slice t.A t.kids.length t.cap] 28)).alloc (.cells #[.int .i64 ((1 : Nat) : Int)] 3))) rfl t hbx hbl (by rw [hsz0]; omega) Ht.out hB0 (by rw [hsz0]; omega) hsz1)
  generalize (((((w.alloc (.cells #[.int .i64 t.kind, .int .i64 t.pos, .int .i64 t.n, encStr t.text, .slice t.A t.kids.length t.cap] 28)).alloc (.cells #[.bool false] 4)).alloc (.cells #[.int .i64 t.kind, .int .i64 t.pos, .int .i64 t.n, encStr t.text, .slice t.A t.kids.length t.cap] 28)).alloc (.cells #[.int .i64 ((1 : Nat) : Int)] 3))) = w1 at *
  refine wpIn_rangeFunc_ownF hro h1 (gf := 80) (lb := #[.pointer (some ⟨w.heap.size + 1 + 1, 0, none⟩), .pointer (some ⟨w.heap.size + 1 + 1 + 1, 0, none⟩)]) rfl h5 (enters_of Tryz.func80 (by kernel_rfl) rfl)
    HS.out (fun h k => h.trans k) (fun W l o o' hl hW ho _ => (Kc.refl _ _ W).put o' (by omega) hW ho) (Below.refl _ _) (fun _ => rfl)
    (fun pre W => (AllLow pre ∧ W.cell? ⟨w.heap.size + 1, 0, none⟩ = some (.bool false) ∧ W.frozen? ⟨w.heap.size + 1, 0, none⟩ = false) ∧ Below w.heap.size w W)
    (fun c pre W => (c = .ret ∧ (∃ p ∈ pre, ¬ p.1 ≤ 100) ∧ W.cell? ⟨w.heap.size + 1, 0, none⟩ = some (.bool false)) ∧ Below w.heap.size w W)
    (OwnFrom.and (Own.from (fun s A B row hs hg hr => ⟨hs.1, cell_kept hs.2.1 hg hr, (frozen_kept hs.2.1 hg hr).trans hs.2.2⟩) _) (ownFrom_below (Nat.le_refl _) (by omega)))
    (fun c => OwnFrom.and (Own.from (fun s A B row hs hg hr => ⟨hs.1, hs.2.1, cell_kept hs.2.2 hg hr⟩) _) (ownFrom_below (Nat.le_refl _) (by omega)))
    ⟨⟨(by intro p hp; cases hp), hrc.1, hrc.2⟩, hB0⟩
    (fun x => { tmps := #[.agg #[.int .i64 t.kind, .int .i64 t.pos, .int .i64 t.n, encStr t.text, .slice t.A t.kids.length t.cap], .pointer (some ⟨w.heap.size, 0, none⟩), .pointer (some ⟨w.heap.size + 1, 0, none⟩), .int .i64 (x.1 : Nat), .agg #[.int .i64 t.kind, .int .i64 t.pos, .int .i64 t.n, encStr t.text, .slice t.A t.kids.length t.cap], .func (.func 80) #[] #[.pointer (some ⟨w.heap.size + 1 + 1, 0, none⟩), .pointer (some ⟨w.heap.size + 1 + 1 + 1, 0, none⟩)], .int .i64 (x.1 : Nat), treeV x.2, undef, undef], defers := [] }) ?assign ?body ?done ?stop
  case assign =>
    intro l x W K hK
    gi_wp2
    exact hK
  case body =>
    rintro l pre x W ⟨⟨hp, hcr, hfr⟩, hB⟩ _
    by_cases hx : x.1 ≤ 100
    · have hx1 : ¬ (x.1 : Int) > 100 := by omega
      gi_wp2
      exact ⟨KeepsOthers.refl _, Kc.refl _ _ _, ⟨AllLow.snoc hp hx, hcr, hfr⟩, hB⟩
    · have hx1 : (x.1 : Int) > 100 := by omega
      gi_wp2
      exact ⟨KeepsOthers.setCell _ _ _, ⟨rfl, ⟨x, by simp, hx⟩, World.cell?_setCell_same' _ _ _ (by rw [hcr]; rfl)⟩, hB.setCell (p := ⟨w.heap.size + 1, 0, none⟩) (by simp) _⟩
  case done =>
    rintro D ys W hD rfl ⟨⟨hne, hcr, hfr⟩, hB⟩ hK
    gi_wp2
    have hK' := (KeepsOthers.setCell W ⟨w.heap.size + 1, 0, none⟩ (.bool true)).same D _ hK rfl
    refine ⟨by simp, .inl ⟨_, _, rfl, run_takeDeferred hK', ?_⟩⟩
    have hc5 := cell_kept (World.cell?_setCell_same' W ⟨w.heap.size + 1, 0, none⟩ (.bool true) (by rw [hcr]; rfl)) (grownBy_putObj' _ D (.deferred none)) (fun r e => by cases e; exact ⟨_, hK', rfl⟩)
    refine ⟨.bool true, ?_, by rw [decide_eq_true (p := ∀ p ∈ t.lev 1, p.1 ≤ 100) hne], (hB.setCell (p := ⟨w.heap.size + 1, 0, none⟩) (by simp) _).trans (belowK_b (w := w) (Nat.le_refl _) _ D _ _ (by omega) hK' rfl rfl)⟩
    simp [results, Tryz.f53, go_sem, hc5]
  case stop =>
    rintro D c pre W hD hpre ⟨⟨rfl, ⟨p, hp, hp1⟩, hcr⟩, hB⟩ hK
    gi_wp2
    refine ⟨by simp, .inl ⟨_, _, rfl, run_takeDeferred hK, ?_⟩⟩
    have hc5 := cell_kept hcr (grownBy_putObj' _ D (.deferred none)) (fun r e => by cases e; exact ⟨_, hK, rfl⟩)
    refine ⟨.bool false, ?_, by rw [decide_eq_false (fun h => hp1 (h p (hpre.subset hp)))], hB.trans (belowK_b (w := w) (Nat.le_refl _) W D _ _ (by omega) hK rfl rfl)⟩
    simp [results, Tryz.f53, go_sem, hc5]

theorem n_low (t : Tree) (w : World) (h : NodeIn w t) (hsz : t.size ≤ 100000) :
    Calls Tryz.prog 53 #[treeV t] w fun e w' => e = .returned (.bool (lowB t)) ∧ Ext w w' := by
  refine (callsIn_wide (n := 3)).1 ((n_low_in Fence.wide rfl 3 trivial trivial trivial trivial rfl (Nat.le_refl _) t w h hsz).mono ?_)
  rintro e w' ⟨he, hB⟩
  exact ⟨he, Ext.of_below hB (Nat.le_refl _)⟩

end Go.Proofs.YtbfggmeppakcgaaGreat

/- Contract on nodes: whether a tree is an expression. -/
namespace Go.Proofs.YtbfggmeppakcgaaGreat
open Go.RowKit Go.Shelf

theorem n_isexp (t : Tree) : Asks 54 expB t := by
  have key : ∀ n (t : Tree), t.size ≤ n → Asks 54 expB t := by
    intro n
    induction n with
    | zero => intro t h; have := t.size_pos; omega
    | succ n IH =>
      intro t hsz
      have ih : ∀ k : Tree, k.size < t.size → Asks 54 expB k := fun k hk => IH k (by omega)
      by_cases h0 : t.kind = 21
      · exact n_exp_var t h0
      by_cases h1 : t.kind = 22
      · exact n_exp_con t h1
      by_cases h2 : t.kind = 23
      · exact n_exp_int t h2
      by_cases h3 : t.kind = 24
      · exact n_exp_app t h3 ih
      by_cases h4 : t.kind = 25
      · exact n_exp_lam t h4 ih
      by_cases h5 : t.kind = 26
      · exact n_exp_let t h5 ih
      by_cases h6 : t.kind = 27
      · exact n_exp_case t h6 ih
      by_cases h7 : t.kind = 28
      · exact n_exp_if t h7 ih
      exact n_exp_else t h0 h1 h2 h3 h4 h5 h6 h7
  exact key t.size t (Nat.le_refl _)

/-- What `nodes.Exp` tells. -/
noncomputable def isExpB (t : Tree) : Bool := lowB t && expB t
theorem n_exp (t : Tree) (w : World) (h : NodeIn w t) (hsz : t.size ≤ 100000) : Calls Tryz.prog 36 #[treeV t] w fun e w' => e = .returned (.bool (isExpB t)) ∧ Ext w w' := by
  have HE : Hid (isExpB t = (lowB t && expB t)) := hide rfl
  have H0 := hide (fun w' (e : Ext w w') => hide (n_low t w' (h.ext e) hsz))
  have H1 := hide (fun w' (e : Ext w w') => hide (n_isexp t w' (h.ext e)))
  have HB0 := hide (NBox.new w t)
  have X0 : Hid (Ext w (w.alloc (.cells #[.int .i64 t.kind, .int .i64 t.pos, .int .i64 t.n, encStr t.text, .slice t.A t.kids.length t.cap] 28))) := hide ((Ext.refl w).alloc _)
  generalize isExpB t = R at *
  generalize lowB t = B0 at *
  generalize expB t = B1 at *
  unfold treeV at *
  clear h
  cases B0
  · have hR : R = false := by rw [HE.out]; simp
    clear HE
    subst hR
    go_enter Tryz.func36, Tryz.ntmps36
    go_wp2_with fail
    refine (H0.out _ X0.out).out.mono ?_
    rintro e w1 ⟨rfl, hx⟩
    go_wp2
    go_ret
    exact ⟨rfl, X0.out.trans hx⟩
  · have hR : R = B1 := by rw [HE.out]; simp
    clear HE
    subst hR
    go_enter Tryz.func36, Tryz.ntmps36
    go_wp2_with fail
    refine (H0.out _ X0.out).out.mono ?_
    rintro e w1 ⟨rfl, hx⟩
    have X1 := hide (X0.out.trans hx)
    have HB1 := hide (HB0.out.ext hx)
    clear hx
    have c0 := HB1.out.c0
    have c1 := HB1.out.c1
    have c2 := HB1.out.c2
    have c3 := HB1.out.c3
    have c4 := HB1.out.c4
    go_wp2_with fail
    refine (H1.out _ X1.out).out.mono ?_
    rintro e w2 ⟨rfl, hx⟩
    go_wp2
    go_ret
    exact ⟨rfl, X1.out.trans hx⟩

end Go.Proofs.YtbfggmeppakcgaaGreat
