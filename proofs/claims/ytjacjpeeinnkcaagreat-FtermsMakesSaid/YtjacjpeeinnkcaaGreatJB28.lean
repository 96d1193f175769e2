/- Contract: the walk over a term's parts, each with its level, as a range over a function asks it. -/
import Derived.Test.YtjacjpeeinnkcaaGreatJB27
/- Contract: the walk over a term's parts, each with its level, as a range over a function asks it. -/
namespace Go.Proofs.YtjacjpeeinnkcaaGreat
open Go.RowKit Go.Shelf

attribute [local go_sem] Oper.semAt_some

/-- All parts, each with its level. -/
noncomputable def Tm.lev : Tm → Nat → List (Nat × Tm) := Tm.fold fun t l d => (d, t) :: (l.map fun f => f (d + 1)).flatten
noncomputable def mlevs (l : List Tm) (d : Nat) : List (Nat × Tm) := (l.map fun k => k.lev d).flatten
theorem mlev_eq (t : Tm) (d : Nat) : t.lev d = (d, t) :: mlevs t.kids (d + 1) := by
  unfold Tm.lev
  rw [Tm.fold_eq]
  simp only [mlevs, List.map_map]
  rfl
theorem mlevs_take (l : List Tm) (d : Nat) {k : Nat} (h : k < l.length) : mlevs (l.take (k + 1)) d = mlevs (l.take k) d ++ (l[k]'h).lev d := by
  unfold mlevs
  rw [List.take_succ_eq_append_getElem h, List.map_append, List.flatten_append]
  congr 1
  simp
theorem mlevs_split (l : List Tm) (d k : Nat) : mlevs l d = mlevs (l.take k) d ++ mlevs (l.drop k) d := by
  unfold mlevs
  rw [← List.flatten_append, ← List.map_append, List.take_append_drop]
theorem mlev_low (c : Nat) : ∀ (t : Tm) (d : Nat), (∀ p ∈ t.lev d, p.1 ≤ c) ↔ d + t.depth ≤ c + 1 := by
  intro t
  induction t using Tm.ind with
  | h t ih =>
  intro d
  rw [mlev_eq, Tm.depth_eq]
  have hmax : ∀ (l : List Nat) (m : Nat), l.foldr max 0 ≤ m ↔ ∀ x ∈ l, x ≤ m := by
    intro l m
    induction l with
    | nil => simp
    | cons x l ih => simp only [List.foldr_cons, List.mem_cons, forall_eq_or_imp]; rw [← ih]; omega
  have hk : (∀ p ∈ mlevs t.kids (d + 1), p.1 ≤ c) ↔ ∀ k ∈ t.kids, d + 1 + k.depth ≤ c + 1 := by
    unfold mlevs
    constructor
    · intro h k hk
      exact (ih k hk (d + 1)).1 (fun p hp => h p (List.mem_flatten.2 ⟨_, List.mem_map.2 ⟨k, hk, rfl⟩, hp⟩))
    · intro h p hp
      obtain ⟨_, hl, hp⟩ := List.mem_flatten.1 hp
      obtain ⟨k, hk, rfl⟩ := List.mem_map.1 hl
      exact (ih k hk (d + 1)).2 (h k hk) p hp
  simp only [List.mem_cons, forall_eq_or_imp]
  rw [hk]
  constructor
  · rintro ⟨h1, h2⟩
    have : (t.kids.map Tm.depth).foldr max 0 ≤ c - d := (hmax _ _).2 (fun x hx => by
      obtain ⟨k, hk, rfl⟩ := List.mem_map.1 hx
      have := h2 k hk
      omega)
    omega
  · intro h
    refine ⟨by omega, fun k hk => ?_⟩
    have := (hmax (t.kids.map Tm.depth) ((t.kids.map Tm.depth).foldr max 0)).1 (Nat.le_refl _) k.depth (List.mem_map.2 ⟨k, hk, rfl⟩)
    omega
theorem mdepth_le (t : Tm) : t.depth ≤ t.size := by
  induction t using Tm.ind with
  | h t ih =>
  rw [Tm.depth_eq, Tm.size_eq]
  have : ∀ l : List Tm, (∀ k ∈ l, k.depth ≤ k.size) → (l.map Tm.depth).foldr max 0 ≤ (l.map Tm.size).sum := by
    intro l
    induction l with
    | nil => simp
    | cons x l ih2 =>
      intro h
      have h1 := ih2 (fun k hk => h k (List.mem_cons_of_mem _ hk))
      have h2 := h x (List.mem_cons_self ..)
      simp only [List.map_cons, List.foldr_cons, List.sum_cons]
      omega
  have := this t.kids ih
  omega

theorem mlev_len (t : Tm) : ∀ d, (t.lev d).length = t.size := by
  induction t using Tm.ind with
  | h t ih =>
  intro d
  rw [mlev_eq, Tm.size_eq, List.length_cons]
  congr 1
  unfold mlevs
  rw [List.length_flatten, List.map_map]
  congr 1
  exact List.map_congr_left (fun k hk => ih k hk (d + 1))

section
variable {n₀ R : Nat} {A B C : World}
theorem Kc.tmbox (h : Kc n₀ R A B) {b : Nat} {t : Tm} (k : TmBox A b t) (hb : b ≠ R) : TmBox B b t := h.cells b _ hb k rfl
end

set_option maxRecDepth 10000 in
set_option maxHeartbeats 2000000 in
theorem m_each_in (F : Fence) (hd : F.depth = none) (h6 : F.fn 197) (hro : F.round = none) (l n₀ R N : Nat) (w0 : World) (hw0 : n₀ = w0.heap.size) (J Jx : List (Nat × Tm) → World → Prop)
    (hJa : ∀ pre W o, J pre W → J pre (W.alloc o))
    (hY : ∀ m pre x W, J pre W → pre.length < N → YieldAt F m Tryz.prog l #[.int .i64 ((x : Nat × Tm).1 : Nat), tmV x.2] W fun e W' =>
      (e = .returned (.bool true) ∧ J (pre ++ [x]) W' ∧ Kc n₀ R W W') ∨ (e = .returned (.bool false) ∧ Jx (pre ++ [x]) W')) (t : Tm) :
    ∀ (n d : Nat) (pre : List (Nat × Tm)) (W : World), TmIn w0 t → Below n₀ w0 W → R < W.heap.size → J pre W → d + t.size ≤ 1000000 → pre.length + (t.lev d).length ≤ N →
      CallsIn F n Tryz.prog 197 #[tmV t, .int .i64 d, .func (.yield l) #[] #[]] W fun e W' =>
        (e = .returned (.bool true) ∧ J (pre ++ t.lev d) W' ∧ Kc n₀ R W W') ∨ (e = .returned (.bool false) ∧ ∃ q, q <+: t.lev d ∧ Jx (pre ++ q) W') := by
  induction t using Tm.ind with
  | h t ih =>
  intro n d pre W ht hB hRW hJ hsz hN
  have IH := hide ih
  have hdd : ∀ k : Nat, (F.depth.isSome = true → 1 ≤ k) := fun k h => by rw [hd] at h; cases h
  have hlv := mlev_eq t d
  have hn0 : n₀ ≤ W.heap.size := by have := hB.size; omega
  have HB0 : Hid (TmBox (W.alloc (.cells #[.int .i64 t.kind, .int .i64 t.n, encStr t.name, .slice t.V t.vars.length t.vc, .slice t.T t.types.length t.tc, .slice t.A t.kids.length t.cap] 31)) W.heap.size t) := hide (at_newB _ _ _ rfl)
  have K0 : Hid (Kc n₀ R W (W.alloc (.cells #[.int .i64 t.kind, .int .i64 t.n, encStr t.name, .slice t.V t.vars.length t.vc, .slice t.T t.types.length t.tc, .slice t.A t.kids.length t.cap] 31))) := hide ((Kc.refl _ _ _).alloc hn0 _)
  have hJ1 := hJa pre W (.cells #[.int .i64 t.kind, .int .i64 t.n, encStr t.name, .slice t.V t.vars.length t.vc, .slice t.T t.types.length t.tc, .slice t.A t.kids.length t.cap] 31) hJ
  obtain ⟨fn, tmps, assign, body, hy, hR⟩ := hY (n - 1) pre (d, t) _ hJ1 (by rw [hlv] at hN; simp at hN; omega)
  have HT := hide ht
  have HBw := hide hB
  have HR := hide hR
  clear ih hB hR hJ hJ1
  unfold tmV
  unfold tmV at hy
  have hle := ht.hd.le
  have hmx := ht.hd.max
  have HK := hide ht.all
  dsimp only at hy
  generalize hA0 : t.A = A0 at *
  have HA0 := hide hA0
  clear hA0 ht
  refine callsIn_of_wp Tryz.func197 rfl h6 ?_ hro
  simp only [Tryz.ntmps197, List.size_toArray, List.length_cons, List.length_nil, Nat.reduceAdd, Nat.reduceSub, Array.replicate_succ, Array.replicate_zero, List.push_toArray, List.append_toArray, List.nil_append, List.cons_append]
  gi_wp2
  refine HR.out.mono ?_
  rintro e W2 (⟨rfl, hJ2, hk2⟩ | ⟨rfl, hJx2⟩)
  · have K2 := hide (K0.out.trans hk2)
    have HB2 := hide (hk2.tmbox HB0.out (by omega))
    have HJ2 := hide hJ2
    have HJa := hide hJa
    have hc4 := HB2.out.cells.2.2.2.2.2
    rw [HA0.out] at hc4
    have HLT := hide (fun k (hk : k < t.kids.length) => mlevs_take t.kids (d + 1) hk)
    have HLS := hide (fun k => mlevs_split t.kids (d + 1) k)
    have Hlv := hide hlv
    have HNl := hide hN
    have Hsz := hide (fun k (hk : k ∈ t.kids) => Tm.size_kid hk)
    have hW2 : W.heap.size < W2.heap.size := HB2.out.lt
    clear hJ2 hk2 hlv hJa hN HR hY
    gi_wp2
    gi_loopw [17] (fun i wr => ∃ k : Nat, k ≤ t.kids.length ∧ i = .int .i64 k ∧ Hid (J (pre ++ (d, t) :: mlevs (t.kids.take k) (d + 1)) wr) ∧ Hid (Kc n₀ R W2 wr)) (fun i _ => t.kids.length - (intOf i).toNat)
    case atStart => exact ⟨0, Nat.zero_le _, rfl, hide (by simpa [mlevs] using HJ2.out), hide (Kc.refl _ _ _)⟩
    case round =>
      obtain ⟨k, hk, rfl, HJ, HKc⟩ := hrel
      have HB3 := hide (HKc.out.tmbox HB2.out (by omega))
      by_cases hlt : k < t.kids.length
      · have hlt' : (k : Int) < (t.kids.length : Int) := by omega
        have HKw : Hid (Below n₀ w0 wr) := hide ((HBw.out.trans K2.out.below).trans HKc.out.below)
        obtain ⟨b, o, rfl, hb, q0, q1, q2, q3, q4, q5⟩ := (HK.out.old (hw0 ▸ HKw.out)).at_ hlt
        have hck := List.getElem_mem hlt
        have hcs := Hsz.out _ hck
        have Hst := hide (HLT.out k hlt)
        have HsN : pre.length + (mlevs (t.kids.take k) (d + 1)).length + 1 + ((t.kids[k]'hlt).lev (d + 1)).length ≤ N := by
          have h1 := HNl.out
          have h2 := congrArg List.length (HLS.out (k + 1))
          rw [Hlv.out] at h1
          rw [Hst.out] at h2
          simp only [List.length_cons, List.length_append] at h1 h2
          omega
        have HC := hide (IH.out _ hck (n - 1) (d + 1) _ (wr.alloc (.cells #[.int .i64 (t.kids[k]'hlt).kind, .int .i64 (t.kids[k]'hlt).n, encStr (t.kids[k]'hlt).name, .slice (t.kids[k]'hlt).V (t.kids[k]'hlt).vars.length (t.kids[k]'hlt).vc, .slice (t.kids[k]'hlt).T (t.kids[k]'hlt).types.length (t.kids[k]'hlt).tc, .slice (t.kids[k]'hlt).A (t.kids[k]'hlt).kids.length (t.kids[k]'hlt).cap] 31))
          (HK.out.kids _ hck) (HKw.out.alloc (by have := HKw.out.size; omega) _) (by have := HKc.out.size; simp; omega) (HJa.out _ _ _ HJ.out) (by omega) (by simp only [List.length_append, List.length_cons]; omega))
        have HAl : Hid (Kc n₀ R W2 (wr.alloc (.cells #[.int .i64 (t.kids[k]'hlt).kind, .int .i64 (t.kids[k]'hlt).n, encStr (t.kids[k]'hlt).name, .slice (t.kids[k]'hlt).V (t.kids[k]'hlt).vars.length (t.kids[k]'hlt).vc, .slice (t.kids[k]'hlt).T (t.kids[k]'hlt).types.length (t.kids[k]'hlt).tc, .slice (t.kids[k]'hlt).A (t.kids[k]'hlt).kids.length (t.kids[k]'hlt).cap] 31))) := hide (HKc.out.alloc (by have := HKw.out.size; omega) _)
        have Hpl := hide (HLS.out k)
        have Hpd : Hid (mlevs (t.kids.drop k) (d + 1) = (t.kids[k]'hlt).lev (d + 1) ++ mlevs (t.kids.drop (k + 1)) (d + 1)) := hide (by unfold mlevs; rw [List.drop_eq_getElem_cons hlt]; rfl)
        clear hck HsN
        generalize t.kids[k]'hlt = c at *
        have hd1 : (d : Int) + 1 ≤ 2000000 := by omega
        have hd0 : (0 : Int) ≤ (d : Int) := by omega
        have ha : 1 ≤ n ∨ True := .inr trivial
        gi_wp2_with fail
        refine HC.out.mono ?_
        rintro e W4 (⟨rfl, hJ4, hk4⟩ | ⟨rfl, q, hq, hJx4⟩)
        · have K4 := hide (HAl.out.trans hk4)
          have HJ4 := hide hJ4
          clear hJ4 hk4
          gi_wp2
          go_roundw
          case rel => exact ⟨k + 1, hlt, by go_num, hide (by rw [Hst.out]; simpa using HJ4.out), K4⟩
          case measure => simp [intOf]; omega
        · gi_wp2
          go_ret
          refine .inr ⟨rfl, (d, t) :: mlevs (t.kids.take k) (d + 1) ++ q, ?_, by simpa using hJx4⟩
          obtain ⟨r, hr⟩ := hq
          rw [Hlv.out, Hpl.out, Hpd.out, ← hr]
          exact ⟨r ++ mlevs (t.kids.drop (k + 1)) (d + 1), by simp⟩
      · have hge : ¬ (k : Int) < (t.kids.length : Int) := by omega
        have hkk : t.kids.take k = t.kids := List.take_of_length_le (by omega)
        have HF : Hid (J (pre ++ t.lev d) wr) := hide (by have := HJ.out; rw [hkk, ← Hlv.out] at this; exact this)
        clear hkk
        gi_wp2
        go_ret
        exact .inl ⟨rfl, HF.out, by rw [← hw0]; exact K2.out.trans HKc.out⟩
  · gi_wp2
    go_ret
    exact .inr ⟨rfl, [(d, t)], by rw [hlv]; exact ⟨_, rfl⟩, hJx2⟩

end Go.Proofs.YtjacjpeeinnkcaaGreat

/- Contracts: the way over a term's parts, as a range over it asks. -/
namespace Go.Proofs.YtjacjpeeinnkcaaGreat
open Go.RowKit Go.Shelf

attribute [local go_sem] Oper.semAt_some

set_option maxHeartbeats 1000000 in
theorem m_nodes_in (F : Fence) (n : Nat) (h4 : F.fn 57) (hro : F.round = none) (t : Tm) (w : World) :
    CallsIn F n Tryz.prog 57 #[tmV t] w fun e w' => e = .returned (.func (.func 119) #[tmV t] #[]) ∧ w' = w.alloc (.cells #[.int .i64 t.kind, .int .i64 t.n, encStr t.name, .slice t.V t.vars.length t.vc, .slice t.T t.types.length t.tc, .slice t.A t.kids.length t.cap] 31) := by
  unfold tmV
  refine callsIn_of_wp Tryz.func57 rfl h4 ?_ hro
  simp only [Tryz.ntmps57, List.size_toArray, List.length_cons, List.length_nil, Nat.reduceAdd, Nat.reduceSub, Array.replicate_succ, Array.replicate_zero, List.push_toArray, List.append_toArray, List.nil_append, List.cons_append]
  gi_wp2
  go_ret
  exact ⟨rfl, rfl⟩

set_option maxHeartbeats 2000000 in
theorem m_all_in (F : Fence) (hd : F.depth = none) (n : Nat) (h5 : F.fn 119) (h6 : F.fn 197) (hro : F.round = none) (l n₀ R : Nat) (w0 : World) (hw0 : n₀ = w0.heap.size) (t : Tm) (J Jx : List (Nat × Tm) → World → Prop)
    (hJa : ∀ pre W o, J pre W → J pre (W.alloc o))
    (hY : ∀ pre x W, J pre W → pre.length < (t.lev 1).length → YieldAt F (n - 1) Tryz.prog l #[.int .i64 ((x : Nat × Tm).1 : Nat), tmV x.2] W fun e W' =>
      (e = .returned (.bool true) ∧ J (pre ++ [x]) W' ∧ Kc n₀ R W W') ∨ (e = .returned (.bool false) ∧ Jx (pre ++ [x]) W'))
    (W : World) (ht : TmIn w0 t) (hB : Below n₀ w0 W) (hR : R < W.heap.size) (hsz : 1 + t.size ≤ 1000000) (h0 : J [] W) :
    CallsIn F n Tryz.prog 119 #[tmV t, .func (.yield l) #[] #[]] W fun e W' => (∃ v, e = .returned v) ∧
      ((∃ ys, ys = t.lev 1 ∧ J ys W') ∨ (∃ pre, pre <+: t.lev 1 ∧ Jx pre W')) := by
  have hp := hide (fun W' (e : Ext W W') (h : J [] W') => m_each_in F hd h6 hro l n₀ R (t.lev 1).length w0 hw0 J Jx hJa (fun m pre x W hj hl => YieldAt.anyDepth hd m (hY pre x W hj hl)) t (n - 1) 1 [] W' ht (hB.trans (e.below.mono (by have := hB.size; omega))) (by have := e.size; omega) h hsz (by simp))
  have HJ := hide (fun o => hJa [] W o h0)
  clear hY hJa ht hB h0 hw0
  unfold tmV at *
  refine callsIn_of_wp Tryz.func119 rfl h5 ?_ hro
  simp only [Tryz.ntmps119, List.size_toArray, List.length_cons, List.length_nil, Nat.reduceAdd, Nat.reduceSub, Array.replicate_succ, Array.replicate_zero, List.push_toArray, List.append_toArray, List.nil_append, List.cons_append]
  gi_wp2_with fail
  refine (hp.out _ ((Ext.refl W).alloc _) (HJ.out _)).mono ?_
  rintro e W1 (⟨rfl, hJ1, _⟩ | ⟨rfl, q, hq, hx⟩)
  · gi_wp2
    go_end0
    exact ⟨⟨_, rfl⟩, .inl ⟨_, rfl, by simpa using hJ1⟩⟩
  · gi_wp2
    go_end0
    exact ⟨⟨_, rfl⟩, .inr ⟨q, hq, by simpa using hx⟩⟩

end Go.Proofs.YtjacjpeeinnkcaaGreat

/- Contract: how great a term is. -/
namespace Go.Proofs.YtjacjpeeinnkcaaGreat
open Go.RowKit Go.Shelf

attribute [local go_sem] Oper.semAt_some

theorem cell_boxM {W : World} {B : Nat} {v : Value} {t : TypeId} (h : W.heap[B]? = some (.cells #[v] t (0, 0))) : W.cell? ⟨B, 0, none⟩ = some v ∧ W.frozen? ⟨B, 0, none⟩ = false := by
  constructor <;> simp [World.cell?, World.frozen?, h]
theorem box_set {W : World} {B : Nat} {v u : Value} {t : TypeId} (h : W.heap[B]? = some (.cells #[v] t (0, 0))) : (W.setCell ⟨B, 0, none⟩ u).heap[B]? = some (.cells #[u] t (0, 0)) := by
  have := blk_setCell h 0 u
  simpa using this
theorem box_put {W : World} {B l : Nat} {v : Value} {t : TypeId} {o o' : Obj} (h : W.heap[B]? = some (.cells #[v] t (0, 0))) (hl : W.heap[l]? = some o) (ho : o.isCells = false) : (W.putObj l o').heap[B]? = some (.cells #[v] t (0, 0)) := by
  refine (World.putObj_heap_other (fun e => ?_)).trans h
  subst e
  rw [hl] at h
  cases h
  cases ho
theorem box_alloc {W : World} {B : Nat} {v : Value} {t : TypeId} (o : Obj) (h : W.heap[B]? = some (.cells #[v] t (0, 0))) : (W.alloc o).heap[B]? = some (.cells #[v] t (0, 0)) := (Below.heap_alloc _ _ _ (Array.getElem?_eq_some_iff.1 h).1).trans h
theorem below_put {n₀ : Nat} {w W : World} {l : Nat} (o' : Obj) (h : Below n₀ w W) (hn : n₀ ≤ w.heap.size) (hB : n₀ ≤ l) : Below n₀ w (W.putObj l o') :=
  h.grown (grownBy_putObj' W l o') (Nat.le_trans hn h.size) (fun k e => by cases e; exact hB)

theorem Kc.setM {n₀ R : Nat} (h : n₀ ≤ R) (W : World) (v : Value) : Kc n₀ R W (W.setCell ⟨R, 0, none⟩ v) :=
  ⟨(Below.refl _ W).setCell (p := ⟨R, 0, none⟩) h v, fun _ _ hk ho _ => (Below.heap_setCell _ _ _ _ hk).trans ho⟩

set_option maxRecDepth 100000 in
set_option maxHeartbeats 4000000 in
theorem m_size_in (F : Fence) (hd : F.depth = none) (n : Nat) (h3 : F.fn 20) (h4 : F.fn 57) (h5 : F.fn 119) (h6 : F.fn 197) (hro : F.round = none) (hn : 3 ≤ n) (t : Tm) (w : World) (ht : TmIn w t) (hsz : t.size ≤ 100000) :
    CallsIn F n Tryz.prog 20 #[tmV t] w fun e W' => e = .returned (.int .i64 t.size) ∧ Below w.heap.size w W' := by
  have h1 : 1 ≤ n := by omega
  have HA := hide (fun w' => m_nodes_in F (n - 1) h4 hro t w')
  have Ht := hide ht
  have hsz1 : 1 + t.size ≤ 1000000 := by omega
  clear ht
  unfold tmV at *
  refine callsIn_of_wp_marks Tryz.func20 rfl h3 ?_ hro
  simp only [Tryz.ntmps20, List.size_toArray, List.length_cons, List.length_nil, Nat.reduceAdd, Nat.reduceSub, Array.replicate_succ, Array.replicate_zero, List.push_toArray, List.append_toArray, List.nil_append, List.cons_append]
  gi_wp2_with fail
  refine (HA.out _).mono ?_
  rintro e w' ⟨rfl, rfl⟩
  gi_wp2
  have hB0 : Below w.heap.size w (((w.alloc (.cells #[.int .i64 t.kind, .int .i64 t.n, encStr t.name, .slice t.V t.vars.length t.vc, .slice t.T t.types.length t.tc, .slice t.A t.kids.length t.cap] 31)).alloc (.cells #[.int .i64 0] 3)).alloc (.cells #[.int .i64 t.kind, .int .i64 t.n, encStr t.name, .slice t.V t.vars.length t.vc, .slice t.T t.types.length t.tc, .slice t.A t.kids.length t.cap] 31)) := (((Below.refl _ w).alloc (Nat.le_refl _) _).alloc (by simp) _).alloc (by simp; omega) _
  have hR : (((w.alloc (.cells #[.int .i64 t.kind, .int .i64 t.n, encStr t.name, .slice t.V t.vars.length t.vc, .slice t.T t.types.length t.tc, .slice t.A t.kids.length t.cap] 31)).alloc (.cells #[.int .i64 0] 3)).alloc (.cells #[.int .i64 t.kind, .int .i64 t.n, encStr t.name, .slice t.V t.vars.length t.vc, .slice t.T t.types.length t.tc, .slice t.A t.kids.length t.cap] 31)).heap[w.heap.size + 1]? = some (.cells #[.int .i64 0] 3 (0, 0)) := box_alloc _ (at_newB _ _ _ (by simp))
  have hs : (((w.alloc (.cells #[.int .i64 t.kind, .int .i64 t.n, encStr t.name, .slice t.V t.vars.length t.vc, .slice t.T t.types.length t.tc, .slice t.A t.kids.length t.cap] 31)).alloc (.cells #[.int .i64 0] 3)).alloc (.cells #[.int .i64 t.kind, .int .i64 t.n, encStr t.name, .slice t.V t.vars.length t.vc, .slice t.T t.types.length t.tc, .slice t.A t.kids.length t.cap] 31)).heap.size = w.heap.size + 3 := by simp
  have HM := hide (fun l J Jx W (h1 : Below w.heap.size w W) hJ hY (h2 : w.heap.size + 1 < W.heap.size) h0 => m_all_in F hd (n - 1) h5 h6 hro l w.heap.size (w.heap.size + 1) w rfl t J Jx hJ hY W Ht.out h1 h2 hsz1 h0)
  unfold tmV at HM
  generalize ((w.alloc (.cells #[.int .i64 t.kind, .int .i64 t.n, encStr t.name, .slice t.V t.vars.length t.vc, .slice t.T t.types.length t.tc, .slice t.A t.kids.length t.cap] 31)).alloc (.cells #[.int .i64 0] 3)).alloc (.cells #[.int .i64 t.kind, .int .i64 t.n, encStr t.name, .slice t.V t.vars.length t.vc, .slice t.T t.types.length t.tc, .slice t.A t.kids.length t.cap] 31) = w1 at *
  refine range_bound (Kp := Kc w.heap.size (w.heap.size + 1)) (encs := fun x : Nat × Tm => #[Value.int .i64 (x.1 : Nat), tmV x.2]) (S := fun ys => ys = t.lev 1) (Sp := fun pre => pre <+: t.lev 1) (N := (t.lev 1).length) hro h1 rfl h5 (enters_of Tryz.func119 (by kernel_rfl) rfl)
    (fun l J Jx W hW hJ hY h0 => HM.out l J Jx W (hB0.trans (hW.mono (by omega))) hJ hY (by have := hW.size; omega) h0) (fun h k => h.trans k) (fun W l o o' hl hW ho => (Kc.refl _ _ W).put o' (by omega) hW ho) (fun _ => rfl)
    (fun pre W => W.heap[w.heap.size + 1]? = some (.cells #[.int .i64 pre.length] 3 (0, 0)) ∧ Below w.heap.size w W) (fun _ _ => False)
    ⟨fun s W o h => ⟨box_alloc _ h.1, h.2.alloc h.2.size _⟩, fun s W l o o' h hB hl ho => ⟨box_put h.1 hl ho, below_put o' h.2 (Nat.le_refl _) (by omega)⟩⟩
    ⟨fun _ _ _ h => h, fun _ _ _ _ _ h _ _ _ => h⟩ ⟨hR, hB0⟩
    (fun x => { tmps := #[.agg #[.int .i64 t.kind, .int .i64 t.n, encStr t.name, .slice t.V t.vars.length t.vc, .slice t.T t.types.length t.tc, .slice t.A t.kids.length t.cap], .pointer (some ⟨w.heap.size, 0, none⟩), .int .i64 0, .pointer (some ⟨w.heap.size + 1, 0, none⟩), .agg #[.int .i64 t.kind, .int .i64 t.n, encStr t.name, .slice t.V t.vars.length t.vc, .slice t.T t.types.length t.tc, .slice t.A t.kids.length t.cap], .func (.func 119) #[.agg #[.int .i64 t.kind, .int .i64 t.n, encStr t.name, .slice t.V t.vars.length t.vc, .slice t.T t.types.length t.tc, .slice t.A t.kids.length t.cap]] #[], .int .i64 (x.1 : Nat), tmV x.2, undef, undef, undef], defers := [] }) ?assign ?body ?done ?stop
  case assign =>
    intro l x W K hK
    gi_wp2
    simpa using hK
  case body =>
    rintro l pre x W ⟨hc, hB⟩ hlen
    obtain ⟨c0, f0⟩ := cell_boxM hc
    rw [mlev_len] at hlen
    have hp1 : ((pre ++ [x]).length : Int) = (pre.length : Int) + 1 := by simp
    have hlo : (pre.length : Int) ≤ 100000 := by omega
    have HC := hide (box_set (u := .int .i64 ((pre ++ [x]).length : Int)) hc)
    rw [hp1] at HC
    gi_wp2
    exact ⟨KeepsOthers.setCell _ _ _, Kc.setM (by omega) W _, by rw [hp1]; exact HC.out, hB.setCell (p := ⟨w.heap.size + 1, 0, none⟩) (by simp) _⟩
  case done =>
    rintro D ys W hD rfl ⟨hc, hB⟩ hK
    obtain ⟨c0, f0⟩ := cell_boxM hc
    rw [mlev_len] at c0
    gi_wp2
    refine ⟨by simp, .inl ⟨_, _, rfl, run_takeDeferred hK, ?_⟩⟩
    refine ⟨.int .i64 t.size, ?_, rfl, hB.trans (belowK_b (w := w) (Nat.le_refl _) W D _ _ (by omega) hK rfl rfl)⟩
    simp [results, Tryz.f20, go_sem]
  case stop =>
    rintro D pre W hD hpre h hK
    exact h.elim

theorem m_size (t : Tm) (w : World) (h : TmIn w t) (hsz : t.size ≤ 100000) :
    Calls Tryz.prog 20 #[tmV t] w fun e w' => e = .returned (.int .i64 t.size) ∧ Ext w w' := by
  refine (callsIn_wide (n := 3)).1 ((m_size_in Fence.wide rfl 3 trivial trivial trivial trivial rfl (Nat.le_refl _) t w h hsz).mono ?_)
  rintro e w' ⟨he, hB⟩
  exact ⟨he, Ext.of_below hB (Nat.le_refl _)⟩

end Go.Proofs.YtjacjpeeinnkcaaGreat

/- Contract: whether a term may be. -/
namespace Go.Proofs.YtjacjpeeinnkcaaGreat
open Go.RowKit Go.Shelf

attribute [local go_sem] Oper.semAt_some

/-- Not too many, and none too deep. -/
def AllDeep (l : List (Nat × Tm)) : Prop := l.length ≤ 4096 ∧ ∀ p ∈ l, p.1 ≤ 400
theorem AllDeep.snoc {l : List (Nat × Tm)} {x : Nat × Tm} (h : AllDeep l) (hl : l.length + 1 ≤ 4096) (hx : x.1 ≤ 400) : AllDeep (l ++ [x]) :=
  ⟨by simpa using hl, fun y hy => (List.mem_append.1 hy).elim (h.2 y) (fun e => by rw [List.mem_singleton] at e; subst e; exact hx)⟩
theorem legalM_deep (t : Tm) : legalM t = (@decide (AllDeep (t.lev 1)) (Classical.propDecidable _) && t.tb.term) := by
  unfold legalM
  congr 1
  have h1 := mlev_low 400 t 1
  have h2 := mlev_len t 1
  have : AllDeep (t.lev 1) ↔ (t.size ≤ 4096 ∧ t.depth ≤ 400) := by
    unfold AllDeep
    rw [h1, h2]
    omega
  by_cases h : AllDeep (t.lev 1)
  · rw [@decide_eq_true _ (Classical.propDecidable _) h]
    have := this.1 h
    simp [this.1, this.2]
  · rw [@decide_eq_false _ (Classical.propDecidable _) h]
    have h3 : ¬ (t.size ≤ 4096 ∧ t.depth ≤ 400) := fun k => h (this.2 k)
    by_cases h4 : t.size ≤ 4096
    · have : ¬ t.depth ≤ 400 := fun k => h3 ⟨h4, k⟩
      simp [this]
    · simp [h4]
theorem tmbox_alloc {W : World} {b : Nat} {t : Tm} (o : Obj) (h : TmBox W b t) : TmBox (W.alloc o) b t := h.ext ((Ext.refl _).alloc _)
theorem tmbox_put {W : World} {B l : Nat} {t : Tm} {o o' : Obj} (h : TmBox W B t) (hl : W.heap[l]? = some o) (ho : o.isCells = false) : TmBox (W.putObj l o') B t := by
  refine (World.putObj_heap_other (fun e => ?_)).trans h
  subst e
  unfold TmBox at h
  rw [hl] at h
  cases h
  cases ho
theorem tmbox_set {W : World} {B c i : Nat} {t : Tm} {v : Value} (h : TmBox W B t) (hc : c ≠ B) : TmBox (W.setCell ⟨c, i, none⟩ v) B t :=
  h.kept (grown_cell W c i v) (fun e => hc (by injection e))
theorem box_other {W : World} {B c i : Nat} {v u : Value} {t : TypeId} (h : W.heap[B]? = some (.cells #[v] t (0, 0))) (hc : c ≠ B) : (W.setCell ⟨c, i, none⟩ u).heap[B]? = some (.cells #[v] t (0, 0)) :=
  ((grown_cell W c i u).block B (lt_of_obj h) (fun e => hc (by injection e with e; exact e.symm))).trans h

set_option maxRecDepth 100000 in
set_option maxHeartbeats 8000000 in
theorem m_legal_in (t : Tm) (w : World) (ht : TmIn w t) (hf : FewM t) (hsz : t.size ≤ 100000) :
    CallsIn Fence.wide 4 Tryz.prog 18 #[tmV t] w fun e W' => e = .returned (.bool (legalM t)) ∧ Below w.heap.size w W' := by
  have h1 : 1 ≤ 4 := by omega
  have hn1 : Fence.wide.fn 18 := trivial
  have h5 : Fence.wide.fn 119 := trivial
  have h4 : Fence.wide.fn 57 := trivial
  have h7 : Fence.wide.fn 58 := trivial
  have hd0 : Fence.wide.depth = none := rfl
  rw [legalM_deep]
  have HA := hide (fun w' => m_nodes_in Fence.wide 3 trivial rfl t w')
  have Ht := hide ht
  have HT := hide (fun w' (e : Below w.heap.size w w') => hide ((callsIn_wide (n := 3)).2 (m_isterm t w' (ht.old e) hf)))
  have hsz1 : 1 + t.size ≤ 1000000 := by omega
  have HB0 := hide (TmBox.new w t)
  clear ht hf
  dsimp only at HT
  generalize t.tb.term = RT at *
  unfold tmV at *
  refine callsIn_of_wp_marks Tryz.func18 rfl hn1 ?_ rfl
  simp only [Tryz.ntmps18, List.size_toArray, List.length_cons, List.length_nil, Nat.reduceAdd, Nat.reduceSub, Array.replicate_succ, Array.replicate_zero, List.push_toArray, List.append_toArray, List.nil_append, List.cons_append]
  gi_wp2_with fail
  refine (HA.out _).mono ?_
  rintro e w' ⟨rfl, rfl⟩
  gi_wp2
  have hB0 : Below w.heap.size w ((((w.alloc (.cells #[.int .i64 t.kind, .int .i64 t.n, encStr t.name, .slice t.V t.vars.length t.vc, .slice t.T t.types.length t.tc, .slice t.A t.kids.length t.cap] 31)).alloc (.cells #[.bool false] 4)).alloc (.cells #[.int .i64 0] 3)).alloc (.cells #[.int .i64 t.kind, .int .i64 t.n, encStr t.name, .slice t.V t.vars.length t.vc, .slice t.T t.types.length t.tc, .slice t.A t.kids.length t.cap] 31)) := ((((Below.refl _ w).alloc (Nat.le_refl _) _).alloc (by simp) _).alloc (by simp; omega) _).alloc (by simp; omega) _
  have hR : ((((w.alloc (.cells #[.int .i64 t.kind, .int .i64 t.n, encStr t.name, .slice t.V t.vars.length t.vc, .slice t.T t.types.length t.tc, .slice t.A t.kids.length t.cap] 31)).alloc (.cells #[.bool false] 4)).alloc (.cells #[.int .i64 0] 3)).alloc (.cells #[.int .i64 t.kind, .int .i64 t.n, encStr t.name, .slice t.V t.vars.length t.vc, .slice t.T t.types.length t.tc, .slice t.A t.kids.length t.cap] 31)).heap[w.heap.size + 1 + 1]? = some (.cells #[.int .i64 0] 3 (0, 0)) := box_alloc _ (at_newB _ _ _ (by simp))
  have hRb : ((((w.alloc (.cells #[.int .i64 t.kind, .int .i64 t.n, encStr t.name, .slice t.V t.vars.length t.vc, .slice t.T t.types.length t.tc, .slice t.A t.kids.length t.cap] 31)).alloc (.cells #[.bool false] 4)).alloc (.cells #[.int .i64 0] 3)).alloc (.cells #[.int .i64 t.kind, .int .i64 t.n, encStr t.name, .slice t.V t.vars.length t.vc, .slice t.T t.types.length t.tc, .slice t.A t.kids.length t.cap] 31)).heap[w.heap.size + 1]? = some (.cells #[.bool false] 4 (0, 0)) := box_alloc _ (box_alloc _ (at_newB _ _ _ (by simp)))
  have hRt : TmBox ((((w.alloc (.cells #[.int .i64 t.kind, .int .i64 t.n, encStr t.name, .slice t.V t.vars.length t.vc, .slice t.T t.types.length t.tc, .slice t.A t.kids.length t.cap] 31)).alloc (.cells #[.bool false] 4)).alloc (.cells #[.int .i64 0] 3)).alloc (.cells #[.int .i64 t.kind, .int .i64 t.n, encStr t.name, .slice t.V t.vars.length t.vc, .slice t.T t.types.length t.tc, .slice t.A t.kids.length t.cap] 31)) w.heap.size t := tmbox_alloc _ (tmbox_alloc _ (tmbox_alloc _ HB0.out))
  have hs : ((((w.alloc (.cells #[.int .i64 t.kind, .int .i64 t.n, encStr t.name, .slice t.V t.vars.length t.vc, .slice t.T t.types.length t.tc, .slice t.A t.kids.length t.cap] 31)).alloc (.cells #[.bool false] 4)).alloc (.cells #[.int .i64 0] 3)).alloc (.cells #[.int .i64 t.kind, .int .i64 t.n, encStr t.name, .slice t.V t.vars.length t.vc, .slice t.T t.types.length t.tc, .slice t.A t.kids.length t.cap] 31)).heap.size = w.heap.size + 4 := by simp
  have HM := hide (fun l J Jx W (h1 : Below w.heap.size w W) hJ hY (h2 : w.heap.size + 1 + 1 < W.heap.size) h0 => m_all_in Fence.wide rfl 3 trivial trivial rfl l w.heap.size (w.heap.size + 1 + 1) w rfl t J Jx hJ hY W Ht.out h1 h2 hsz1 h0)
  unfold tmV at HM
  generalize (((w.alloc (.cells #[.int .i64 t.kind, .int .i64 t.n, encStr t.name, .slice t.V t.vars.length t.vc, .slice t.T t.types.length t.tc, .slice t.A t.kids.length t.cap] 31)).alloc (.cells #[.bool false] 4)).alloc (.cells #[.int .i64 0] 3)).alloc (.cells #[.int .i64 t.kind, .int .i64 t.n, encStr t.name, .slice t.V t.vars.length t.vc, .slice t.T t.types.length t.tc, .slice t.A t.kids.length t.cap] 31) = w1 at *
  refine range_bound (Kp := Kc w.heap.size (w.heap.size + 1 + 1)) (encs := fun x : Nat × Tm => #[Value.int .i64 (x.1 : Nat), tmV x.2]) (S := fun ys => ys = t.lev 1) (Sp := fun pre => pre <+: t.lev 1) (N := (t.lev 1).length) rfl h1 rfl h5 (enters_of Tryz.func119 (by kernel_rfl) rfl)
    (fun l J Jx W hW hJ hY h0 => HM.out l J Jx W (hB0.trans (hW.mono (by omega))) hJ hY (by have := hW.size; omega) h0) (fun h k => h.trans k) (fun W l o o' hl hW ho => (Kc.refl _ _ W).put o' (by omega) hW ho) (fun _ => rfl)
    (fun pre W => W.heap[w.heap.size + 1 + 1]? = some (.cells #[.int .i64 pre.length] 3 (0, 0)) ∧ W.heap[w.heap.size + 1]? = some (.cells #[.bool false] 4 (0, 0)) ∧ TmBox W w.heap.size t ∧ AllDeep pre ∧ Below w.heap.size w W)
    (fun pre W => W.heap[w.heap.size + 1]? = some (.cells #[.bool false] 4 (0, 0)) ∧ ¬ AllDeep pre ∧ Below w.heap.size w W)
    ⟨fun s W o h => ⟨box_alloc _ h.1, box_alloc _ h.2.1, tmbox_alloc _ h.2.2.1, h.2.2.2.1, h.2.2.2.2.alloc h.2.2.2.2.size _⟩, fun s W l o o' h hB hl ho => ⟨box_put h.1 hl ho, box_put h.2.1 hl ho, tmbox_put h.2.2.1 hl ho, h.2.2.2.1, below_put o' h.2.2.2.2 (Nat.le_refl _) (by omega)⟩⟩
    ⟨fun s W o h => ⟨box_alloc _ h.1, h.2.1, h.2.2.alloc h.2.2.size _⟩, fun s W l o o' h hB hl ho => ⟨box_put h.1 hl ho, h.2.1, below_put o' h.2.2 (Nat.le_refl _) (by omega)⟩⟩ ⟨hR, hRb, hRt, ⟨by simp, by simp⟩, hB0⟩
    (fun x => { tmps := #[.agg #[.int .i64 t.kind, .int .i64 t.n, encStr t.name, .slice t.V t.vars.length t.vc, .slice t.T t.types.length t.tc, .slice t.A t.kids.length t.cap], .pointer (some ⟨w.heap.size, 0, none⟩), .pointer (some ⟨w.heap.size + 1, 0, none⟩), .pointer (some ⟨w.heap.size + 1 + 1, 0, none⟩), .int .i64 (x.1 : Nat), .agg #[.int .i64 t.kind, .int .i64 t.n, encStr t.name, .slice t.V t.vars.length t.vc, .slice t.T t.types.length t.tc, .slice t.A t.kids.length t.cap], .func (.func 119) #[.agg #[.int .i64 t.kind, .int .i64 t.n, encStr t.name, .slice t.V t.vars.length t.vc, .slice t.T t.types.length t.tc, .slice t.A t.kids.length t.cap]] #[], .int .i64 (x.1 : Nat), tmV x.2, undef, undef, undef, undef, undef, undef, undef, undef, undef, undef], defers := [] }) ?assign ?body ?done ?stop
  case assign =>
    intro l x W K hK
    gi_wp2
    unfold tmV at hK
    simpa using hK
  case body =>
    rintro l pre x W ⟨hc, hcb, hct, hD, hB⟩ hlen
    obtain ⟨c0, f0⟩ := cell_boxM hc
    obtain ⟨b0, fb0⟩ := cell_boxM hcb
    have hlo := hD.1
    have hp1 : ((pre ++ [x]).length : Int) = (pre.length : Int) + 1 := by simp
    have HC := hide (box_set (u := .int .i64 ((pre ++ [x]).length : Int)) hc)
    rw [hp1] at HC
    have HCb := hide (box_other (c := w.heap.size + 1 + 1) (i := 0) (u := .int .i64 ((pre.length : Int) + 1)) hcb (by omega))
    have HCt := hide (tmbox_set (c := w.heap.size + 1 + 1) (i := 0) (v := .int .i64 ((pre.length : Int) + 1)) hct (by omega))
    have HBs := hide (hB.setCell (p := ⟨w.heap.size + 1 + 1, 0, none⟩) (by show w.heap.size ≤ w.heap.size + 1 + 1; omega) (.int .i64 ((pre.length : Int) + 1)))
    have HK := hide (KeepsOthers.setCell W ⟨w.heap.size + 1 + 1, 0, none⟩ (.int .i64 ((pre.length : Int) + 1)))
    have HKc := hide (Kc.setM (n₀ := w.heap.size) (R := w.heap.size + 1 + 1) (by omega) W (.int .i64 ((pre.length : Int) + 1)))
    obtain ⟨d0, e0⟩ := cell_boxM HC.out
    obtain ⟨d1, e1⟩ := cell_boxM HCb.out
    have HD := hide hD
    clear hD hc hcb hct hB
    by_cases hn : pre.length + 1 ≤ 4096
    · have hn1 : ¬ ((pre.length : Int) + 1 > 4096) := by omega
      by_cases hx : x.1 ≤ 400
      · have hx1 : ¬ ((x.1 : Int) > 400) := by omega
        gi_wp2
        exact ⟨HK.out, HKc.out, by rw [hp1]; exact HC.out, HCb.out, HCt.out, HD.out.snoc hn hx, HBs.out⟩
      · have hx1 : ((x.1 : Int) > 400) := by omega
        gi_wp2
        exact ⟨HK.out.trans (KeepsOthers.setCell _ _ _), box_set HCb.out, fun h => hx (h.2 x (by simp)), HBs.out.setCell (p := ⟨w.heap.size + 1, 0, none⟩) (by simp) _⟩
    · have hn1 : ((pre.length : Int) + 1 > 4096) := by omega
      gi_wp2
      exact ⟨HK.out.trans (KeepsOthers.setCell _ _ _), box_set HCb.out, fun h => hn (by have := h.1; simp at this; omega), HBs.out.setCell (p := ⟨w.heap.size + 1, 0, none⟩) (by simp) _⟩
  case done =>
    rintro D ys W hD rfl ⟨hc, hcb, hct, hDp, hB⟩ hK
    obtain ⟨e0, e1, e2, e3, e4, e5⟩ := hct.cells
    have HTW := HT.out W hB
    have HB := hide hB
    have HDp := hide hDp
    clear hB hDp hc HT
    gi_wp2_with fail
    refine HTW.out.mono ?_
    rintro e w2 ⟨rfl, hx⟩
    have hcb2 := (hx.heap (lt_of_obj hcb)).trans hcb
    obtain ⟨b0, fb0⟩ := cell_boxM hcb2
    have hK2 := (hx.heap (lt_of_obj hK)).trans hK
    have HX := hide hx
    clear hx hcb hK hct e0 e1 e2 e3 e4 e5
    gi_wp2
    have hK' := (KeepsOthers.setCell w2 ⟨w.heap.size + 1, 0, none⟩ (.bool RT)).same D _ hK2 rfl
    refine ⟨by simp, .inl ⟨_, _, rfl, run_takeDeferred hK', ?_⟩⟩
    have hc5 := cell_kept (World.cell?_setCell_same' w2 ⟨w.heap.size + 1, 0, none⟩ (.bool RT) (by rw [b0]; rfl)) (grownBy_putObj' _ D (.deferred none)) (fun r e => by cases e; exact ⟨_, hK', rfl⟩)
    refine ⟨.bool RT, ?_, by rw [@decide_eq_true _ (Classical.propDecidable _) HDp.out, Bool.true_and], ((HB.out.trans (HX.out.below.mono HB.out.size)).setCell (p := ⟨w.heap.size + 1, 0, none⟩) (by simp) _).trans (belowK_b (w := w) (Nat.le_refl _) _ D _ _ (by omega) hK' rfl rfl)⟩
    simp [results, Tryz.f18, go_sem, hc5]
  case stop =>
    rintro D pre W hD hpre ⟨hcb, hnd, hB⟩ hK
    obtain ⟨b0, fb0⟩ := cell_boxM hcb
    have HN : Hid (¬ AllDeep (t.lev 1)) := hide (fun h => hnd ⟨Nat.le_trans hpre.length_le h.1, fun p hp => h.2 p (hpre.subset hp)⟩)
    clear hnd hpre
    gi_wp2
    refine ⟨by simp, .inl ⟨_, _, rfl, run_takeDeferred hK, ?_⟩⟩
    have hc5 := cell_kept b0 (grownBy_putObj' _ D (.deferred none)) (fun r e => by cases e; exact ⟨_, hK, rfl⟩)
    refine ⟨.bool false, ?_, by rw [@decide_eq_false _ (Classical.propDecidable _) HN.out, Bool.false_and], hB.trans (belowK_b (w := w) (Nat.le_refl _) W D _ _ (by omega) hK rfl rfl)⟩
    simp [results, Tryz.f18, go_sem, hc5]

theorem m_legal (t : Tm) (w : World) (h : TmIn w t) (hf : FewM t) (hsz : t.size ≤ 100000) :
    Calls Tryz.prog 18 #[tmV t] w fun e w' => e = .returned (.bool (legalM t)) ∧ Ext w w' := by
  refine (callsIn_wide (n := 4)).1 ((m_legal_in t w h hf hsz).mono ?_)
  rintro e w' ⟨he, hB⟩
  exact ⟨he, Ext.of_below hB (Nat.le_refl _)⟩

end Go.Proofs.YtjacjpeeinnkcaaGreat

/- Contracts: a term's text: names, applications. -/
namespace Go.Proofs.YtjacjpeeinnkcaaGreat
open Go.RowKit Go.Shelf

/-- The function tells of a term this text. -/
def TextsTo (t : Tm) (s : Str) : Prop := ∀ w, TmIn w t → Calls Tryz.prog 105 #[tmV t] w fun e w' => e = .returned (encStr s) ∧ Ext w w'

set_option maxRecDepth 10000 in
set_option maxHeartbeats 2000000 in
theorem txt_var (t : Tm) (h1 : (t.kind == 1) = true) : TextsTo t t.name := by
  intro w h
  have HB0 := hide (TmBox.new w t)
  have X0 : Hid (Ext w (w.alloc (.cells #[.int .i64 t.kind, .int .i64 t.n, encStr t.name, .slice t.V t.vars.length t.vc, .slice t.T t.types.length t.tc, .slice t.A t.kids.length t.cap] 31))) := hide ((Ext.refl w).alloc _)
  obtain ⟨c0, c1, c2, c3, c4, c5⟩ := HB0.out.cells
  clear h
  unfold tmV
  go_enter Tryz.func105, Tryz.ntmps105
  go_wp2
  go_ret
  exact ⟨rfl, X0.out⟩

set_option maxRecDepth 10000 in
set_option maxHeartbeats 8000000 in
theorem txt_app (t : Tm) (h4 : (t.kind == 4) = true) (h0 : 0 < t.kids.length) (h1 : 1 < t.kids.length) (sf sa : Str) (hf : TextsTo (t.kids[0]'h0) sf) (ha : TextsTo (t.kids[1]'h1) sa) (hl : sf.length + sa.length ≤ 1000000) : TextsTo t ([40] ++ (sf ++ [32] ++ sa) ++ [41]) := by
  intro w h
  obtain ⟨W, hW⟩ : ∃ W, W = w.alloc (.cells #[.int .i64 t.kind, .int .i64 t.n, encStr t.name, .slice t.V t.vars.length t.vc, .slice t.T t.types.length t.tc, .slice t.A t.kids.length t.cap] 31) := ⟨_, rfl⟩
  have HW := hide hW.symm
  have HB0 : Hid (TmBox W w.heap.size t) := hide (by rw [hW]; exact TmBox.new w t)
  have X0 : Hid (Ext w W) := hide (by rw [hW]; exact (Ext.refl w).alloc _)
  clear hW
  obtain ⟨c0, c1, c2, c3, c4, c5⟩ := HB0.out.cells
  have n1 : (t.kind == 1) = false := by simp at h4 ⊢; omega
  have n2 : (t.kind == 2) = false := by simp at h4 ⊢; omega
  have n3 : (t.kind == 14) = false := by simp at h4 ⊢; omega
  have n4 : (t.kind == 3) = false := by simp at h4 ⊢; omega
  have HK := hide h.all
  obtain ⟨b, o, hA, hb, q0, q1, q2, q3, q4, q5⟩ := (HK.out.ext X0.out).at_ h0
  obtain ⟨b', o', hA', hb', r0, r1, r2, r3, r4, r5⟩ := (HK.out.ext X0.out).at_ h1
  have hbo : (⟨b', o', none⟩ : Addr) = ⟨b, o, none⟩ := Option.some.inj (hA'.symm.trans hA)
  cases hbo
  clear hA' hb'
  have HF := hide (fun w' (e : Ext w w') => hide (hf w' ((HK.out.kids _ (List.getElem_mem h0)).ext e)))
  have HA := hide (fun w' (e : Ext w w') => hide (ha w' ((HK.out.kids _ (List.getElem_mem h1)).ext e)))
  have i0 : (0 : Int) < (t.kids.length : Int) := by omega
  have i1 : (1 : Int) < (t.kids.length : Int) := by omega
  have hs1 : ¬ ((⟨sf.toArray⟩ : ByteArray).size + (⟨#[32]⟩ : ByteArray).size > 9223372036854775807) := by rw [ba_size sf]; show ¬ (sf.length + 1 > _); omega
  have e1 : (ByteArray.mk sf.toArray ++ ByteArray.mk #[32]) = ByteArray.mk (sf ++ ([32] : Str) : Str).toArray := ByteArray.mk_append_mk sf ([32] : Str)
  have hs2 : ¬ ((⟨(sf ++ ([32] : Str) : Str).toArray⟩ : ByteArray).size + (⟨sa.toArray⟩ : ByteArray).size > 9223372036854775807) := by
    rw [ba_size (sf ++ ([32] : Str)), ba_size sa]
    simp only [List.length_append, List.length_cons, List.length_nil]
    omega
  have e2 : (ByteArray.mk (sf ++ ([32] : Str) : Str).toArray ++ ByteArray.mk sa.toArray) = ByteArray.mk (sf ++ ([32] : Str) ++ sa : Str).toArray := ByteArray.mk_append_mk (sf ++ ([32] : Str)) sa
  have hs3 : ¬ ((⟨#[40]⟩ : ByteArray).size + (⟨(sf ++ ([32] : Str) ++ sa : Str).toArray⟩ : ByteArray).size > 9223372036854775807) := by
    rw [ba_size (sf ++ ([32] : Str) ++ sa)]
    show ¬ (1 + _ > _)
    simp only [List.length_append, List.length_cons, List.length_nil]
    omega
  have e3 : (ByteArray.mk #[40] ++ ByteArray.mk (sf ++ ([32] : Str) ++ sa : Str).toArray) = ByteArray.mk (([40] : Str) ++ (sf ++ ([32] : Str) ++ sa) : Str).toArray := ByteArray.mk_append_mk ([40] : Str) (sf ++ ([32] : Str) ++ sa)
  have hs4 : ¬ ((⟨(([40] : Str) ++ (sf ++ ([32] : Str) ++ sa) : Str).toArray⟩ : ByteArray).size + (⟨#[41]⟩ : ByteArray).size > 9223372036854775807) := by
    rw [ba_size (([40] : Str) ++ (sf ++ ([32] : Str) ++ sa))]
    show ¬ (_ + 1 > _)
    simp only [List.length_append, List.length_cons, List.length_nil]
    omega
  have e4 : (ByteArray.mk (([40] : Str) ++ (sf ++ ([32] : Str) ++ sa) : Str).toArray ++ ByteArray.mk #[41]) = ByteArray.mk (([40] : Str) ++ (sf ++ ([32] : Str) ++ sa) ++ ([41] : Str) : Str).toArray := ByteArray.mk_append_mk (([40] : Str) ++ (sf ++ ([32] : Str) ++ sa)) ([41] : Str)
  have hq1 : ¬ (9223372036854775807 < sf.length + 1) := by omega
  have hq2 : ¬ (9223372036854775807 < (sf ++ ([32] : Str)).length + sa.length) := by simp only [List.length_append, List.length_cons, List.length_nil]; omega
  have hq3 : ¬ (9223372036854775807 < 1 + (sf ++ ([32] : Str) ++ sa).length) := by simp only [List.length_append, List.length_cons, List.length_nil]; omega
  have hq4 : ¬ (9223372036854775807 < (([40] : Str) ++ (sf ++ ([32] : Str) ++ sa)).length + 1) := by simp only [List.length_append, List.length_cons, List.length_nil]; omega
  generalize (([40] : Str) ++ (sf ++ ([32] : Str) ++ sa) ++ ([41] : Str) : Str) = s4 at *
  generalize (([40] : Str) ++ (sf ++ ([32] : Str) ++ sa) : Str) = s3 at *
  generalize (sf ++ ([32] : Str) ++ sa : Str) = s2 at *
  generalize (sf ++ ([32] : Str) : Str) = s1 at *
  generalize t.kids[0]'h0 = ka at *
  generalize t.kids[1]'h1 = kb at *
  have HS : Hid (∀ w', Ext W w' → (w'.cell? ⟨w.heap.size, 5, none⟩ = some (.slice (some ⟨b, o, none⟩) t.kids.length t.cap) ∧
      w'.cell? ⟨b, o, none⟩ = some (.int .i64 ka.kind) ∧ w'.cell? ⟨b, o + 1, none⟩ = some (.int .i64 ka.n) ∧ w'.cell? ⟨b, o + 2, none⟩ = some (.string ⟨ka.name.toArray⟩) ∧ w'.cell? ⟨b, o + 3, none⟩ = some (.slice ka.V ka.vars.length ka.vc) ∧ w'.cell? ⟨b, o + 4, none⟩ = some (.slice ka.T ka.types.length ka.tc) ∧ w'.cell? ⟨b, o + 5, none⟩ = some (.slice ka.A ka.kids.length ka.cap) ∧
      w'.cell? ⟨b, o + 6, none⟩ = some (.int .i64 kb.kind) ∧ w'.cell? ⟨b, o + 6 + 1, none⟩ = some (.int .i64 kb.n) ∧ w'.cell? ⟨b, o + 6 + 2, none⟩ = some (.string ⟨kb.name.toArray⟩) ∧ w'.cell? ⟨b, o + 6 + 3, none⟩ = some (.slice kb.V kb.vars.length kb.vc) ∧ w'.cell? ⟨b, o + 6 + 4, none⟩ = some (.slice kb.T kb.types.length kb.tc) ∧ w'.cell? ⟨b, o + 6 + 5, none⟩ = some (.slice kb.A kb.kids.length kb.cap))) := hide (by
    rw [hA] at c5
    have z0 : o + 0 * 6 = o := by omega
    have z1 : o + 1 * 6 = o + 6 := by omega
    rw [z0] at q0 q1 q2 q3 q4 q5
    rw [z1] at r0 r1 r2 r3 r4 r5
    exact fun w' e => ⟨e.cell c5, e.cell q0, e.cell q1, e.cell q2, e.cell q3, e.cell q4, e.cell q5, e.cell r0, e.cell r1, e.cell r2, e.cell r3, e.cell r4, e.cell r5⟩)
  rw [hA] at c5
  clear q0 q1 q2 q3 q4 q5 r0 r1 r2 r3 r4 r5 hb hA h hf ha HK HB0
  unfold tmV at HF HA ⊢
  go_enter Tryz.func105, Tryz.ntmps105
  go_upto_region 1 with fail
  rw [HW.out]
  obtain ⟨p0, p1, p2, p3, p4, p5, p6, p7, p8, p9, p10, p11, p12⟩ := HS.out _ (Ext.refl W)
  clear c5 HW
  go_upto_region 13 with fail
  go_region_held3 (fun w' : World => (w'.cell? ⟨w.heap.size, 5, none⟩ = some (.slice (some ⟨b, o, none⟩) t.kids.length t.cap) ∧ w'.cell? ⟨b, o, none⟩ = some (.int .i64 ka.kind) ∧ w'.cell? ⟨b, o + 1, none⟩ = some (.int .i64 ka.n) ∧ w'.cell? ⟨b, o + 2, none⟩ = some (.string ⟨ka.name.toArray⟩) ∧ w'.cell? ⟨b, o + 3, none⟩ = some (.slice ka.V ka.vars.length ka.vc) ∧ w'.cell? ⟨b, o + 4, none⟩ = some (.slice ka.T ka.types.length ka.tc) ∧ w'.cell? ⟨b, o + 5, none⟩ = some (.slice ka.A ka.kids.length ka.cap) ∧ w'.cell? ⟨b, o + 6, none⟩ = some (.int .i64 kb.kind) ∧ w'.cell? ⟨b, o + 6 + 1, none⟩ = some (.int .i64 kb.n) ∧ w'.cell? ⟨b, o + 6 + 2, none⟩ = some (.string ⟨kb.name.toArray⟩) ∧ w'.cell? ⟨b, o + 6 + 3, none⟩ = some (.slice kb.V kb.vars.length kb.vc) ∧ w'.cell? ⟨b, o + 6 + 4, none⟩ = some (.slice kb.T kb.types.length kb.tc) ∧ w'.cell? ⟨b, o + 6 + 5, none⟩ = some (.slice kb.A kb.kids.length kb.cap))) (first | assumption | (exact HS.out _ (Ext.refl W).drew)) (first
    | (go_at_call 105
       with_reducible refine Calls.mono (HF.out _ ?e).out ?_
       case e => first | (refine Ext.trans X0.out ?_; (repeat (first | exact Ext.refl _ | exact Ext.pre (by simp) | exact Ext.alloc (by assumption) _ | refine Ext.alloc ?_ _ | refine Ext.more ?_ _ _ | refine Ext.drew ?_ | refine Ext.drewN ?_ _)); done) | (refine Ext.trans (X0.out.trans X8.out) ?_; (repeat (first | exact Ext.refl _ | exact Ext.pre (by simp) | exact Ext.alloc (by assumption) _ | refine Ext.alloc ?_ _ | refine Ext.more ?_ _ _ | refine Ext.drew ?_ | refine Ext.drewN ?_ _)); done)
       rintro e w7 ⟨rfl, hx7⟩
       have X7 : Hid (Ext W w7) := hide (by
         refine Ext.trans ?_ hx7
         first | (refine Ext.trans (Ext.refl W) ?_; (repeat (first | exact Ext.refl _ | exact Ext.pre (by simp) | exact Ext.alloc (by assumption) _ | refine Ext.alloc ?_ _ | refine Ext.more ?_ _ _ | refine Ext.drew ?_ | refine Ext.drewN ?_ _)); done) | (refine Ext.trans X8.out ?_; (repeat (first | exact Ext.refl _ | exact Ext.pre (by simp) | exact Ext.alloc (by assumption) _ | refine Ext.alloc ?_ _ | refine Ext.more ?_ _ _ | refine Ext.drew ?_ | refine Ext.drewN ?_ _)); done))
       have K7 := HS.out _ X7.out
       clear hx7)
    | (go_at_call 105
       with_reducible refine Calls.mono (HA.out _ ?e).out ?_
       case e => first | (refine Ext.trans X0.out ?_; (repeat (first | exact Ext.refl _ | exact Ext.pre (by simp) | exact Ext.alloc (by assumption) _ | refine Ext.alloc ?_ _ | refine Ext.more ?_ _ _ | refine Ext.drew ?_ | refine Ext.drewN ?_ _)); done) | (refine Ext.trans (X0.out.trans X7.out) ?_; (repeat (first | exact Ext.refl _ | exact Ext.pre (by simp) | exact Ext.alloc (by assumption) _ | refine Ext.alloc ?_ _ | refine Ext.more ?_ _ _ | refine Ext.drew ?_ | refine Ext.drewN ?_ _)); done)
       rintro e w8 ⟨rfl, hx8⟩
       have X8 : Hid (Ext W w8) := hide (by
         refine Ext.trans ?_ hx8
         first | (refine Ext.trans (Ext.refl W) ?_; (repeat (first | exact Ext.refl _ | exact Ext.pre (by simp) | exact Ext.alloc (by assumption) _ | refine Ext.alloc ?_ _ | refine Ext.more ?_ _ _ | refine Ext.drew ?_ | refine Ext.drewN ?_ _)); done) | (refine Ext.trans X7.out ?_; (repeat (first | exact Ext.refl _ | exact Ext.pre (by simp) | exact Ext.alloc (by assumption) _ | refine Ext.alloc ?_ _ | refine Ext.more ?_ _ _ | refine Ext.drew ?_ | refine Ext.drewN ?_ _)); done))
       have K8 := HS.out _ X8.out
       clear hx8))
  all_goals
    go_wp2
    go_ret
    first
      | exact ⟨rfl, X0.out.trans X7.out⟩
      | exact ⟨rfl, X0.out.trans X8.out⟩
      | exact ⟨rfl, X0.out.trans (X7.out.trans (by repeat (first | exact Ext.refl _ | exact Ext.pre (by simp) | exact Ext.alloc (by assumption) _ | refine Ext.alloc ?_ _ |  refine Ext.more ?_ _ _ | refine Ext.drew ?_ | refine Ext.drewN ?_ _)))⟩
      | exact ⟨rfl, X0.out.trans (X8.out.trans (by repeat (first | exact Ext.refl _ | exact Ext.pre (by simp) | exact Ext.alloc (by assumption) _ | refine Ext.alloc ?_ _ |  refine Ext.more ?_ _ _ | refine Ext.drew ?_ | refine Ext.drewN ?_ _)))⟩

end Go.Proofs.YtjacjpeeinnkcaaGreat
