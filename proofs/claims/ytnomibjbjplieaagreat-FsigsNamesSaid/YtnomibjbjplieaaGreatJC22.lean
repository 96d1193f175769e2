/- A range over a function: what a round keeps. No program in sight. -/
import Derived.Test.YtnomibjbjplieaaGreatJC21
import Derived.Test.YtnomibjbjplieaaGreatProg
import Derived.RangeFuncNested
import Derived.RangeFuncBound
import Derived.RangeFuncCalls
import Derived.RangeFuncLeaves
import Derived.Shelf.Abstract
import Derived.Shelf.RegionOpen
import Derived.OwnWalkIn
import Derived.TacticsInMore
import Derived.LoopNIn
import Derived.LoopIn
/- A range over a function: what a round keeps. No program in sight. -/
namespace Go.Proofs.YtnomibjbjplieaaGreat
open Go.RowKit Go.Shelf

theorem room_of_none {F : Fence} (hd : F.depth = none) (k : Nat) : F.room k := fun d h => by rw [hd] at h; cases h
theorem RoundIn.anyDepth {F : Fence} (hd : F.depth = none) {m m' : Nat} {P : Program} {l : Nat} {f : FuncId} {tmps : Array Value} {assign body : Code} {w : World} {R : Ending → World → Prop}
    (h : RoundIn F m P l f tmps assign body w R) : RoundIn F m' P l f tmps assign body w R := ⟨h.1, fun c cs _ => h.2 c cs (room_of_none hd _)⟩
theorem YieldAt.anyDepth {F : Fence} (hd : F.depth = none) {m : Nat} (m' : Nat) {P : Program} {l : Nat} {args : Array Value} {W : World} {R : Ending → World → Prop} (h : YieldAt F m P l args W R) : YieldAt F m' P l args W R := by
  obtain ⟨fn, tmps, assign, body, hy, hR⟩ := h
  exact ⟨fn, tmps, assign, body, hy, RoundIn.anyDepth hd hR⟩

/-- What a round keeps: all that lay below `n₀`, and all cells but those of block `R`. -/
structure Kc (n₀ R : Nat) (W W' : World) : Prop where
  below : Below n₀ W W'
  cells : ∀ k o, k ≠ R → W.heap[k]? = some o → o.isCells = true → W'.heap[k]? = some o
section
variable {n₀ R : Nat} {A B C : World}
theorem Kc.refl (n₀ R : Nat) (A : World) : Kc n₀ R A A := ⟨Below.refl _ _, fun _ _ _ h _ => h⟩
theorem Kc.trans (h : Kc n₀ R A B) (k : Kc n₀ R B C) : Kc n₀ R A C := ⟨h.below.trans k.below, fun i o hi ho hc => k.cells i o hi (h.cells i o hi ho hc) hc⟩
theorem Kc.alloc (h : Kc n₀ R A B) (hn : n₀ ≤ B.heap.size) (o : Obj) : Kc n₀ R A (B.alloc o) :=
  h.trans ⟨(Below.refl _ B).alloc hn o, fun _ _ _ ho _ => (Below.heap_alloc _ _ _ (Array.getElem?_eq_some_iff.1 ho).1).trans ho⟩
theorem Kc.put (h : Kc n₀ R A B) {l : Nat} {o : Obj} (o' : Obj) (hn : n₀ ≤ l) (hl : B.heap[l]? = some o) (ho : o.isCells = false) : Kc n₀ R A (B.putObj l o') :=
  h.trans ⟨(Below.refl _ B).grown (grownBy_putObj' B l o') (by have := (Array.getElem?_eq_some_iff.1 hl).1; omega) (fun k e => by cases e; exact hn), fun i o2 _ h2 hc => by
    refine (World.putObj_heap_other (fun e => ?_)).trans h2
    subst e
    rw [hl] at h2
    cases h2
    rw [ho] at hc
    cases hc⟩
theorem Kc.size (h : Kc n₀ R A B) : A.heap.size ≤ B.heap.size := h.below.size
end

end Go.Proofs.YtnomibjbjplieaaGreat

/- Contracts: a slice of types from behind, told to a function; a function's type, of the program. -/
namespace Go.Proofs.YtnomibjbjplieaaGreat
open Go.RowKit Go.Shelf

attribute [local go_sem] Oper.semAt_some

/-- All places from behind, down to one. -/
def downF (n k : Nat) : List (Fin n) := ((List.finRange n).drop k).reverse
theorem downF_all (n : Nat) : downF n n = [] := by unfold downF; rw [List.drop_of_length_le (by simp)]; rfl
theorem downF_len (n k : Nat) : (downF n k).length = n - k := by unfold downF; simp
theorem downF_step {n k : Nat} (h : k < n) : downF n k = downF n (k + 1) ++ [⟨k, h⟩] := by
  unfold downF
  rw [List.drop_eq_getElem_cons (by simpa using h), List.reverse_cons]
  simp
noncomputable def accP (ts : List Ty) (q : Ty.Pure) (pre : List (Fin ts.length)) : Ty.Pure := pre.foldl (fun p i => arrP (ts[i.val]'i.isLt).pure p) q
theorem accP_down (ts : List Ty) (q : Ty.Pure) : ∀ d k, d + k = ts.length → accP ts q (downF ts.length k) = funP (ts.drop k) q := by
  intro d
  induction d with
  | zero =>
    intro k h
    have : k = ts.length := by omega
    subst this
    rw [downF_all, List.drop_length]
    rfl
  | succ d ih =>
    intro k h
    have hk : k < ts.length := by omega
    rw [downF_step hk, funP_drop ts q hk, ← ih (k + 1) (by omega)]
    unfold accP
    rw [List.foldl_append]
    rfl

set_option maxRecDepth 10000 in
set_option maxHeartbeats 2000000 in
theorem back_in (F : Fence) (hd : F.depth = none) (n : Nat) (h5 : F.fn 84) (hro : F.round = none) (l Bs n₀ R : Nat) (w0 : World) (hw0 : n₀ = w0.heap.size) (A : Option Addr) (cap : Nat) (ts : List Ty) (hts : ts.length ≤ 1000000) (J Jx : List (Fin ts.length) → World → Prop)
    (hY : ∀ pre x W, J pre W → pre.length < ts.length → YieldAt F (n - 1) Tryz.prog l #[.int .i64 ((x : Fin ts.length).val : Int), tyV (ts[x.val]'x.isLt)] W fun e W' =>
      (e = .returned (.bool true) ∧ J (pre ++ [x]) W' ∧ Kc n₀ R W W') ∨ (e = .returned (.bool false) ∧ Jx (pre ++ [x]) W'))
    (W : World) (hBs : W.heap[Bs]? = some (.cells #[.slice A ts.length cap] 30 (0, 0))) (hne : Bs ≠ R) (ht : TysIn w0 A ts) (hB : Below n₀ w0 W) (h0 : J [] W) :
    CallsIn F n Tryz.prog 84 #[.func (.yield l) #[] #[], .pointer (some ⟨Bs, 0, none⟩)] W fun e W' => (∃ v, e = .returned v) ∧
      ((∃ ys, ys = downF ts.length 0 ∧ J ys W') ∨ (∃ pre, True ∧ Jx pre W')) := by
  have hdd : ∀ k : Nat, (F.depth.isSome = true → 1 ≤ k) := fun k h => by rw [hd] at h; cases h
  have c0 := bytes_block hBs 0
  simp only [List.getElem?_toArray, List.getElem?_cons_zero] at c0
  have HY := hide hY
  have HBs := hide hBs
  have HT := hide ht
  have HB := hide hB
  have H0 := hide h0
  clear hY hBs ht hB h0
  refine callsIn_of_wp Tryz.func84 rfl h5 ?_ hro
  simp only [Tryz.ntmps84, List.size_toArray, List.length_cons, List.length_nil, Nat.reduceAdd, Nat.reduceSub, Array.replicate_succ, Array.replicate_zero, List.push_toArray, List.append_toArray, List.nil_append, List.cons_append]
  gi_wp2
  gi_loopw [3] (fun i wr => ∃ (k : Nat) (v : Int), k ≤ ts.length ∧ i = .int .i64 v ∧ v = (k : Int) - 1 ∧ Hid (J (downF ts.length k) wr) ∧ Hid (Kc n₀ R W wr)) (fun i _ => (intOf i + 1).toNat)
  case atStart => exact ⟨ts.length, (ts.length : Int) - 1, Nat.le_refl _, rfl, rfl, hide (by rw [downF_all]; exact H0.out), hide (Kc.refl _ _ _)⟩
  case round =>
    obtain ⟨k, v, hk, rfl, hv, HJ, HK⟩ := hrel
    by_cases hk0 : k = 0
    · have hlt : ¬ v ≥ 0 := by omega
      have HJ0 : Hid (J (downF ts.length 0) wr) := hide (hk0 ▸ HJ.out)
      clear hv
      gi_wp2
      go_end0
      exact ⟨⟨_, rfl⟩, .inl HJ0.out⟩
    · obtain ⟨m, hm⟩ : ∃ m, k = m + 1 := ⟨k - 1, by omega⟩
      subst hm
      have hml : m < ts.length := by omega
      have hvm : v = (m : Int) := by omega
      subst hvm
      have hge : (m : Int) ≥ 0 := by omega
      have hml' : (m : Int) < (ts.length : Int) := by omega
      have hm0 : (0 : Int) ≤ (m : Int) := by omega
      have hcs := HK.out.cells Bs _ hne HBs.out rfl
      have c1 := bytes_block hcs 0
      simp only [List.getElem?_toArray, List.getElem?_cons_zero] at c1
      obtain ⟨b, o, hAl, hb, q0, q1, q2⟩ := (HT.out.old (hw0 ▸ (HB.out.trans HK.out.below))).at_ hml
      have hlen : (downF ts.length (m + 1)).length < ts.length := by rw [downF_len]; omega
      obtain ⟨fn, tmps, assign, body, hy, hR⟩ := HY.out _ ⟨m, hml⟩ wr HJ.out hlen
      have HR := hide hR
      have HD := hide (downF_step hml)
      unfold tyV at hy
      dsimp only at hy
      clear hR hlen hv hcs
      generalize ts[m]'hml = x at *
      subst hAl
      gi_wp2
      refine HR.out.mono ?_
      rintro e W2 (⟨rfl, hJ2, hk2⟩ | ⟨rfl, hJx2⟩)
      · have HJ2 := hide hJ2
        have K2 := hide (HK.out.trans hk2)
        clear hJ2 hk2
        gi_wp2
        go_roundw
        case rel => exact ⟨m, (m : Int) - 1, by omega, by go_num, rfl, hide (by rw [HD.out]; exact HJ2.out), K2⟩
        case measure => simp [intOf]
      · have HJx := hide hJx2
        clear hJx2
        gi_wp2
        ((try simp only [Exit.inBlock, Exit.then]); refine bodyPost_ret (results_none rfl _ _ _) rfl ?_)
        exact ⟨⟨_, rfl⟩, .inr ⟨_, trivial, HJx.out⟩⟩

theorem back_make (F : Fence) (n : Nat) (h4 : F.fn 54) (hro : F.round = none) (A : Option Addr) (m cap : Nat) (w : World) :
    CallsIn F n Tryz.prog 54 #[.slice A m cap] w fun e w' => e = .returned (.func (.func 84) #[] #[.pointer (some ⟨w.heap.size, 0, none⟩)]) ∧ w' = w.alloc (.cells #[.slice A m cap] 30) := by
  refine callsIn_of_wp Tryz.func54 rfl h4 ?_ hro
  simp only [Tryz.ntmps54, List.size_toArray, List.length_cons, List.length_nil, Nat.reduceAdd, Nat.reduceSub, Array.replicate_succ, Array.replicate_zero, List.push_toArray, List.append_toArray, List.nil_append, List.cons_append]
  gi_wp2
  go_ret
  exact ⟨rfl, rfl⟩

theorem back_stops (F : Fence) (hd : F.depth = none) (n : Nat) (h5 : F.fn 84) (hro : F.round = none) (Bs n₀ R : Nat) (w0 w : World) (hw0 : n₀ = w0.heap.size) (A : Option Addr) (cap : Nat) (ts : List Ty) (hts : ts.length ≤ 1000000)
    (hBs : w.heap[Bs]? = some (.cells #[.slice A ts.length cap] 30 (0, 0))) (hne : Bs ≠ R) (ht : TysIn w0 A ts) (hB : Below n₀ w0 w) :
    SeqStopsK F n Tryz.prog 84 #[.pointer (some ⟨Bs, 0, none⟩)] (fun x : Fin ts.length => #[Value.int .i64 (x.val : Int), tyV (ts[x.val]'x.isLt)]) (Kc n₀ R) (fun ys => ys = downF ts.length 0) (fun _ => True) ts.length w := fun l J Jx W hW _ _ hY h0 =>
  back_in F hd n h5 hro l Bs n₀ R w0 hw0 A cap ts hts J Jx hY W ((hW.block Bs (lt_of_obj hBs)).trans hBs) hne ht (hB.trans (hW.mono (by have := hB.size; omega))) h0

end Go.Proofs.YtnomibjbjplieaaGreat

/- Contract: a function's type, of the program. -/
namespace Go.Proofs.YtnomibjbjplieaaGreat
open Go.RowKit Go.Shelf

attribute [local go_sem] Oper.semAt_some

theorem Kc.set {n₀ R : Nat} {A B : World} (h : Kc n₀ R A B) (hn : n₀ ≤ R) (i : Nat) (v : Value) : Kc n₀ R A (B.setCell ⟨R, i, none⟩ v) :=
  h.trans ⟨(Below.refl _ B).setCell (p := ⟨R, i, none⟩) hn v, fun k _ hk ho _ => (Below.heap_setCell B ⟨R, i, none⟩ v k hk).trans ho⟩
/-- A type lies in no block that is no cells. -/
theorem away_other {w : World} {t : Ty} (h : TyIn w t) {c : Nat} {o : Obj} (hc : w.heap[c]? = some o) (ho : o.isCells = false) : awayB c t = true := by
  induction h with
  | mk h1 h2 h3 h4 h5 ih =>
    rename_i t
    cases t with
    | mk s v A cap l =>
    refine awayB_mk (fun hn a ha e => ?_) ih
    obtain ⟨b, o', e1, hb, hcell⟩ := h4.2 (List.length_pos_iff.2 hn)
    have ha' : A = some a := ha
    rw [show (Ty.mk s v A cap l).A = A from rfl, ha'] at e1
    injection e1 with e1
    subst e1
    have e' : b = c := e
    subst e'
    have hlen : 0 < (l.flatMap tyC.f).length := by
      rw [flat_len _ _ tyC.hf]
      have := List.length_pos_iff.2 hn
      show 0 < l.length * 3
      omega
    have h6 := hcell 0 _ (List.getElem?_eq_getElem hlen)
    cases o with
    | cells cs t fr => cases ho
    | _ => simp [World.cell?, hc] at h6
theorem TyIn.others {w w' : World} {t : Ty} {row : Option Nat} (h : TyIn w t) (hg : w.grownBy w' row) (hr : ∀ r, row = some r → ∃ o : Obj, w.heap[r]? = some o ∧ o.isCells = false) : TyIn w' t :=
  h.grown hg (fun c e => by obtain ⟨o, h1, h2⟩ := hr c e; exact away_other h h1 h2)
theorem cells_others {w w' : World} {b : Nat} {cs : Array Value} {t : TypeId} {row : Option Nat} (h : w.heap[b]? = some (.cells cs t (0, 0))) (hg : w.grownBy w' row) (hr : ∀ r, row = some r → ∃ o : Obj, w.heap[r]? = some o ∧ o.isCells = false) : w'.heap[b]? = some (.cells cs t (0, 0)) := by
  refine (hg.block b (lt_of_obj h) (fun e => ?_)).trans h
  obtain ⟨o, h1, h2⟩ := hr b e.symm
  rw [h] at h1
  cases h1
  cases h2

/-- The function's type so far, in block R. -/
structure AccIn (G : Nat → Prop) (w0 : World) (R : Nat) (q : Ty.Pure) (W : World) : Prop where
  box : ∃ u, TBox W R u ∧ TyIn W u ∧ awayB R u = true ∧ (awayB (R + 1) u = true ∧ ∀ c, G c → awayB c u = true) ∧ u.pure = q
  res : W.heap[R + 1]? = some (.cells #[.string ⟨#[]⟩, .int .i64 0, .slice none 0 0] 32 (0, 0))
  below : Below w0.heap.size w0 W
theorem AccIn.ext {G : Nat → Prop} {w0 W W' : World} {R : Nat} {q : Ty.Pure} (h : AccIn G w0 R q W) (e : Ext W W') : AccIn G w0 R q W' := by
  obtain ⟨⟨u, b1, b2, b3, b4, b5⟩, b6, b7⟩ := h
  exact ⟨⟨u, b1.ext e, b2.ext e, b3, b4, b5⟩, (e.heap (lt_of_obj b6)).trans b6, b7.trans (e.below.mono b7.size)⟩
/-- One more arg. -/
theorem AccIn.step {G : Nat → Prop} {w0 W : World} {R : Nat} {q : Ty.Pure} {u x : Ty} (hR : R = w0.heap.size) (hb : TBox W R u) (hu : TyIn W u) (h1 : awayB R u = true) (h2 : awayB (R + 1) u = true ∧ ∀ c, G c → awayB c u = true) (h3 : u.pure = q) (h4 : W.heap[R + 1]? = some (.cells #[.string ⟨#[]⟩, .int .i64 0, .slice none 0 0] 32 (0, 0))) (h5 : Below w0.heap.size w0 W) (hx : TyIn w0 x) (hG : ∀ c, G c → c < w0.heap.size ∧ awayB c x = true) :
    AccIn G w0 R (arrP x.pure q) ((((W.setCell ⟨R, 0, none⟩ (.string ⟨#[45, 62]⟩)).setCell ⟨R, 1, none⟩ (.int .i64 0)).setCell ⟨R, 2, none⟩ (.slice (some ⟨W.heap.size, 0, none⟩) 2 2)).alloc (.cells #[encStr x.con, .int .i64 x.var, .slice x.A x.args.length x.cap, encStr u.con, .int .i64 u.var, .slice u.A u.args.length u.cap] 32)) := by
  have hg := put3_grown W R 0 1 2 (.string ⟨#[45, 62]⟩) (.int .i64 0) (.slice (some ⟨W.heap.size, 0, none⟩) 2 2)
  have hbl : (((W.setCell ⟨R, 0, none⟩ (.string ⟨#[45, 62]⟩)).setCell ⟨R, 1, none⟩ (.int .i64 0)).setCell ⟨R, 2, none⟩ (.slice (some ⟨W.heap.size, 0, none⟩) 2 2)).heap[R]? = some (.cells #[.string ⟨#[45, 62]⟩, .int .i64 0, .slice (some ⟨W.heap.size, 0, none⟩) 2 2] 32 (0, 0)) := by
    have := blk_setCell (blk_setCell (blk_setCell hb 0 (.string ⟨#[45, 62]⟩)) 1 (.int .i64 0)) 2 (.slice (some ⟨W.heap.size, 0, none⟩) 2 2)
    simpa using this
  have hs : (((W.setCell ⟨R, 0, none⟩ (.string ⟨#[45, 62]⟩)).setCell ⟨R, 1, none⟩ (.int .i64 0)).setCell ⟨R, 2, none⟩ (.slice (some ⟨W.heap.size, 0, none⟩) 2 2)).heap.size = W.heap.size := by simp [World.setCell]
  generalize (((W.setCell ⟨R, 0, none⟩ (.string ⟨#[45, 62]⟩)).setCell ⟨R, 1, none⟩ (.int .i64 0)).setCell ⟨R, 2, none⟩ (.slice (some ⟨W.heap.size, 0, none⟩) 2 2)) = V at *
  have hxW := hx.old h5
  have ax1 := away_new hx (c := R) (by omega)
  have ax2 := away_new hx (c := R + 1) (by omega)
  have hlt := lt_of_obj h4
  have E : Ext V (V.alloc (.cells #[encStr x.con, .int .i64 x.var, .slice x.A x.args.length x.cap, encStr u.con, .int .i64 u.var, .slice u.A u.args.length u.cap] 32)) := (Ext.refl _).alloc _
  refine ⟨⟨arrT x u W.heap.size, (E.heap (lt_of_obj hbl)).trans hbl, arrT_in ((hxW.grown hg (fun c e => by injection e with e; subst e; exact ax1)).ext E) ((hu.grown hg (fun c e => by injection e with e; subst e; exact h1)).ext E) (at_newB _ _ _ hs.symm), arrT_away (by omega) ax1 h1, ⟨arrT_away (by omega) ax2 h2.1, fun c hc => arrT_away (by have := (hG c hc).1; have := h5.size; omega) (hG c hc).2 (h2.2 c hc)⟩, by rw [arrT_pure, h3]⟩, ?_, ?_⟩
  · exact (E.heap (by omega)).trans ((hg.block (R + 1) hlt (by simp)).trans h4)
  · exact (h5.grown hg h5.size (fun k e => by injection e with e; omega)).trans (E.below.mono (by have := h5.size; omega))

set_option maxRecDepth 100000 in
set_option maxHeartbeats 4000000 in
theorem t_fun_in (F : Fence) (hd : F.depth = none) (n : Nat) (h3 : F.fn 27) (h4 : F.fn 54) (h5 : F.fn 84) (hro : F.round = none) (hn : 3 ≤ n) (A : Option Addr) (cap : Nat) (ts : List Ty) (to : Ty) (w : World) (h : TysIn w A ts) (ht : TyIn w to) (hts : ts.length ≤ 1000000) :
    CallsIn F n Tryz.prog 27 #[.slice A ts.length cap, tyV to] w fun e W' => (∃ u, e = .returned (tyV u) ∧ TyIn W' u ∧ u.pure = funP ts to.pure ∧ ∀ c, FreeOf w ts to c → awayB c u = true) ∧ Below w.heap.size w W' := by
  have h1 : 1 ≤ n := by omega
  have HA := hide (fun w' => back_make F (n - 1) h4 hro A ts.length cap w')
  have HT := hide h
  have Ht := hide ht
  have HAcc : Hid (AccIn (FreeOf w ts to) w w.heap.size to.pure ((w.alloc (.cells #[encStr to.con, .int .i64 to.var, .slice to.A to.args.length to.cap] 32)).alloc (.cells #[.string ⟨#[]⟩, .int .i64 0, .slice none 0 0] 32))) := hide ⟨⟨to, (TBox.new w to).ext ((Ext.refl _).alloc _), ht.ext (((Ext.refl _).alloc _).alloc _), away_new ht (Nat.le_refl _), ⟨away_new ht (by omega), fun c h => h.2.1⟩, rfl⟩, at_newB _ _ _ (by simp), (((Ext.refl _).alloc _).alloc _).below⟩
  clear h ht
  unfold tyV at *
  refine callsIn_of_wp_marks Tryz.func27 rfl h3 ?_ hro
  simp only [Tryz.ntmps27, List.size_toArray, List.length_cons, List.length_nil, Nat.reduceAdd, Nat.reduceSub, Array.replicate_succ, Array.replicate_zero, List.push_toArray, List.append_toArray, List.nil_append, List.cons_append]
  gi_wp2_with fail
  refine (HA.out _).mono ?_
  rintro e w' ⟨rfl, rfl⟩
  gi_wp2
  obtain ⟨W0, hW0⟩ : ∃ W0, W0 = (((w.alloc (.cells #[encStr to.con, .int .i64 to.var, .slice to.A to.args.length to.cap] 32)).alloc (.cells #[.string ⟨#[]⟩, .int .i64 0, .slice none 0 0] 32)).alloc (.cells #[.slice A ts.length cap] 30)) := ⟨_, rfl⟩
  have hsz0 : W0.heap.size = w.heap.size + 3 := by rw [hW0]; simp
  have hA0 : AccIn (FreeOf w ts to) w w.heap.size to.pure W0 := by
    obtain ⟨⟨u, b1, b2, b3, b4, b5⟩, b6, b7⟩ := HAcc.out
    have E : Ext ((w.alloc (.cells #[encStr to.con, .int .i64 to.var, .slice to.A to.args.length to.cap] 32)).alloc (.cells #[.string ⟨#[]⟩, .int .i64 0, .slice none 0 0] 32)) W0 := by rw [hW0]; exact (Ext.refl _).alloc _
    exact ⟨⟨u, b1.ext E, b2.ext E, b3, b4, b5⟩, (E.heap (lt_of_obj b6)).trans b6, b7.trans (E.below.mono b7.size)⟩
  have hbs : W0.heap[w.heap.size + 1 + 1]? = some (.cells #[.slice A ts.length cap] 30 (0, 0)) := by rw [hW0]; exact at_newB _ _ _ (by simp)
  have hOwn : OwnFrom W0.heap.size (fun (pre : List (Fin ts.length)) W => AccIn (FreeOf w ts to) w w.heap.size (accP ts to.pure pre) W) := by
    rintro s B C row ⟨⟨u, b1, b2, b3, b4, b5⟩, b6, b7⟩ hg hr
    have hr2 : ∀ r, row = some r → ∃ o : Obj, B.heap[r]? = some o ∧ o.isCells = false := fun r e => (hr r e).2
    exact ⟨⟨u, cells_others b1 hg hr2, b2.others hg hr2, b3, b4, b5⟩, cells_others b6 hg hr2, b7.grown hg b7.size (fun k e => by have := (hr k e).1; omega)⟩
  have HS := hide (back_stops F hd (n - 1) h5 hro (w.heap.size + 1 + 1) w.heap.size w.heap.size w W0 rfl A cap ts hts hbs (by omega) HT.out hA0.below)
  rw [← hW0]
  unfold tyV at HS
  refine wpIn_rangeFunc_ownH hro h1 (gf := 84) (lb := #[.pointer (some ⟨w.heap.size + 1 + 1, 0, none⟩)]) rfl h5 (enters_of Tryz.func84 (by kernel_rfl) rfl)
    HS.out (fun h k => h.trans k) (fun W l o o' hl hW ho _ => (Kc.refl _ _ W).put o' (by omega) hW ho) (Below.refl _ _) (fun _ => rfl)
    (fun pre W => AccIn (FreeOf w ts to) w w.heap.size (accP ts to.pure pre) W) (fun _ _ _ => False) hOwn (fun c s B C row hs _ _ => hs.elim) hA0
    (fun x a' W => ∃ Bx, w.heap.size + 1 < Bx ∧ TBox W Bx (ts[x.val]'x.isLt) ∧ a' = { tmps := #[.slice A ts.length cap, .agg #[encStr to.con, .int .i64 to.var, .slice to.A to.args.length to.cap], undef, .pointer (some ⟨w.heap.size, 0, none⟩), .pointer (some ⟨w.heap.size + 1, 0, none⟩), undef, .pointer (some ⟨Bx, 0, none⟩), .slice A ts.length cap, .func (.func 84) #[] #[.pointer (some ⟨w.heap.size + 1 + 1, 0, none⟩)], .int .i64 (x.val : Int), .agg #[encStr (ts[x.val]'x.isLt).con, .int .i64 (ts[x.val]'x.isLt).var, .slice (ts[x.val]'x.isLt).A (ts[x.val]'x.isLt).args.length (ts[x.val]'x.isLt).cap], undef, undef, undef, undef, undef], defers := [] })
    (fun x a' s B C row hs hg hr => by
      obtain ⟨Bx, e1, e2, e3⟩ := hs
      exact ⟨Bx, e1, cells_others e2 hg (fun r e => (hr r e).2), e3⟩) ?assign ?body ?done ?stop
  case assign =>
    rintro l pre x W K hi hK
    have hB := hi.below
    have hlt := lt_of_obj hi.res
    gi_wp2
    exact hK _ _ ((KeepsOthers.alloc _ _).from _) ((Kc.refl _ _ _).alloc hB.size _) (hi.ext ((Ext.refl _).alloc _)) ⟨W.heap.size, hlt, TBox.new W _, rfl⟩
  case body =>
    rintro l pre x a' W hl ⟨r, hr⟩ hi ⟨Bx, hBx, bX, rfl⟩ hlt
    obtain ⟨⟨u, b1, b2, b3, b4, b5⟩, b6, b7⟩ := hi
    have HST := hide (AccIn.step rfl b1 b2 b3 b4 b5 b6 b7 (HT.out.args _ (List.getElem_mem x.isLt)) (fun c hc => ⟨hc.1, hc.2.2 _ (List.getElem_mem x.isLt)⟩))
    have HPre : Hid (accP ts to.pure (pre ++ [x]) = arrP (ts[x.val]'x.isLt).pure (accP ts to.pure pre)) := hide (by unfold accP; rw [List.foldl_append]; rfl)
    have c0 := bX.c0
    have c1 := bX.c1
    have c2 := bX.c2
    have d0 := b1.c0
    have d1 := b1.c1
    have d2 := b1.c2
    have f0 := b1.free 0
    have f1 := b1.free 1
    have f2 := b1.free 2
    have hszW := b7.size
    have hltR : w.heap.size < W.heap.size := b1.lt
    clear b1 b2 b3 b4 b5 b6 bX
    generalize ts[x.val]'x.isLt = y at *
    gi_wp2
    refine ⟨((((KeepsOthers.setCell _ _ _).trans (KeepsOthers.setCell _ _ _)).trans (KeepsOthers.setCell _ _ _)).trans (KeepsOthers.alloc _ _)).from _, ((((Kc.refl _ _ W).set (Nat.le_refl _) _ _).set (Nat.le_refl _) _ _).set (Nat.le_refl _) _ _).alloc (by simp [World.setCell]; omega) _, ?_⟩
    show AccIn _ _ _ (accP ts to.pure (pre ++ [x])) _
    rw [HPre.out]
    exact HST.out
  case done =>
    rintro D ys W hD rfl hi hK
    obtain ⟨⟨u, b1, b2, b3, b4, b5⟩, b6, b7⟩ := hi
    rw [accP_down ts to.pure ts.length 0 (by omega), List.drop_zero] at b5
    have d0 := b1.c0
    have d1 := b1.c1
    have d2 := b1.c2
    have f0 := free_block b6 0
    have f1 := free_block b6 1
    have f2 := free_block b6 2
    have k0 := bytes_block b6 0
    have k1 := bytes_block b6 1
    have k2 := bytes_block b6 2
    simp only [List.getElem?_toArray, List.getElem?_cons_zero, List.getElem?_cons_succ] at k0 k1 k2
    have hg := put3_grown W (w.heap.size + 1) 0 1 2 (encStr u.con) (.int .i64 u.var) (.slice u.A u.args.length u.cap)
    have hb2 := blk_setCell (blk_setCell (blk_setCell b6 0 (encStr u.con)) 1 (.int .i64 u.var)) 2 (.slice u.A u.args.length u.cap)
    have hu2 := b2.grown hg (fun c e => by injection e with e; subst e; exact b4.1)
    have hbl2 := b7.grown hg b7.size (fun k e => by injection e with e; omega)
    have hK2 := (((KeepsOthers.setCell W ⟨w.heap.size + 1, 0, none⟩ (encStr u.con)).trans (KeepsOthers.setCell _ ⟨w.heap.size + 1, 1, none⟩ (.int .i64 u.var))).trans (KeepsOthers.setCell _ ⟨w.heap.size + 1, 2, none⟩ (.slice u.A u.args.length u.cap))).same D _ hK rfl
    have hb4 := b4.2
    have HH := hide (And.intro hb2 (And.intro hu2 (And.intro hbl2 hK2)))
    clear hg hb2 hu2 hbl2 hK2 b1 b2 b3 b4 b6 b7 hK
    gi_wp2
    obtain ⟨hb2, hu2, hbl2, hK2⟩ := HH.out
    refine ⟨by simp, .inl ⟨_, _, rfl, run_takeDeferred hK2, ?_⟩⟩
    have hg := grownBy_putObj' (((W.setCell ⟨w.heap.size + 1, 0, none⟩ (encStr u.con)).setCell ⟨w.heap.size + 1, 1, none⟩ (.int .i64 u.var)).setCell ⟨w.heap.size + 1, 2, none⟩ (.slice u.A u.args.length u.cap)) D (.deferred none)
    have hr : ∀ r, some D = some r → ∃ o : Obj, (((W.setCell ⟨w.heap.size + 1, 0, none⟩ (encStr u.con)).setCell ⟨w.heap.size + 1, 1, none⟩ (.int .i64 u.var)).setCell ⟨w.heap.size + 1, 2, none⟩ (.slice u.A u.args.length u.cap)).heap[r]? = some o ∧ o.isCells = false := fun r e => by cases e; exact ⟨_, hK2, rfl⟩
    have hb3 := cells_others (by simpa using hb2) hg hr
    have m0 := bytes_block hb3 0
    have m1 := bytes_block hb3 1
    have m2 := bytes_block hb3 2
    simp only [List.getElem?_toArray, List.getElem?_cons_zero, List.getElem?_cons_succ] at m0 m1 m2
    refine ⟨.agg #[encStr u.con, .int .i64 u.var, .slice u.A u.args.length u.cap], ?_, ⟨⟨u, rfl, hu2.others hg hr, b5, hb4⟩, hbl2.trans (belowK_b (w := w) (Nat.le_refl _) _ D _ _ (by omega) hK2 rfl rfl)⟩⟩
    simp [results, Tryz.f27, go_sem, m0, m1, m2]
  case stop =>
    rintro D c pre W hD hpre hi hK
    exact hi.elim

theorem t_fun (A : Option Addr) (cap : Nat) (ts : List Ty) (to : Ty) (w : World) (h : TysIn w A ts) (ht : TyIn w to) (hts : ts.length ≤ 1000000) :
    Calls Tryz.prog 27 #[.slice A ts.length cap, tyV to] w fun e w' => (∃ u, e = .returned (tyV u) ∧ TyIn w' u ∧ u.pure = funP ts to.pure ∧ ∀ c, FreeOf w ts to c → awayB c u = true) ∧ Ext w w' := by
  refine (callsIn_wide (n := 3)).1 ((t_fun_in Fence.wide rfl 3 trivial trivial trivial rfl (Nat.le_refl _) A cap ts to w h ht hts).mono ?_)
  rintro e w' ⟨he, hB⟩
  exact ⟨he, Ext.of_below hB (Nat.le_refl _)⟩

end Go.Proofs.YtnomibjbjplieaaGreat

/- Contracts: a number's letter; of the program, and of the reference. -/
namespace Go.Proofs.YtnomibjbjplieaaGreat
open Go.RowKit

theorem letter_neg {n : Int} (h : n < 0) : letter n = [] := by unfold letter; rw [if_pos h]
theorem letter_lo {m : Nat} (h : m < 26) : letter (m : Int) = [chr (97 + m % 26)] := by
  unfold letter
  rw [if_neg (by omega), if_pos (by omega)]
  rfl
theorem letter_hi {m : Nat} (h : ¬ m < 26) : letter (m : Int) = [chr (97 + m % 26)] ++ digs (m / 26) := by
  unfold letter
  rw [if_neg (by omega), if_neg (by omega)]
  rfl
theorem digs_20 {n : Nat} (h : n ≤ 9223372036854775807) : (digs n).length ≤ 20 := digs_len 19 n (Nat.lt_of_le_of_lt h (by decide))

set_option maxRecDepth 10000 in
set_option maxHeartbeats 1000000 in
theorem n_letter (n : Int) (h1 : n ≤ 9223372036854775807) (w : World) : Calls Tryz.prog 149 #[.int .i64 n] w fun e w' => e = .returned (encStr (letter n)) ∧ Ext w w' := by
  by_cases h0 : n < 0
  · rw [letter_neg h0]
    go_enter Tryz.func149, Tryz.ntmps149
    go_wp2
    go_ret
    exact ⟨rfl, Ext.refl _⟩
  · obtain ⟨m, rfl⟩ : ∃ m : Nat, n = m := ⟨n.toNat, by omega⟩
    have hcv := conv_one w (97 + m % 26) (97 + (m : Int) % 26) (by omega) (by omega)
    have hcv2 : IntKind.u8.wrap (97 + (m : Int) % 26) = 97 + (m : Int) % 26 := by simp [IntKind.wrap, IntKind.bits, IntKind.signed]; omega
    by_cases hlo : m < 26
    · have hlo' : decide ((m : Int) < 26) = true := by simp; omega
      rw [letter_lo hlo]
      go_enter Tryz.func149, Tryz.ntmps149
      go_wp2
      go_ret
      exact ⟨rfl, (Ext.refl _).alloc _⟩
    · have hlo' : decide ((m : Int) < 26) = false := by simp; omega
      have HT := hide (fun w' => i_text (m / 26) (by omega) w')
      have hq : (m : Int) / 26 = ((m / 26 : Nat) : Int) := by omega
      have H20 := hide (digs_20 (show m / 26 ≤ 9223372036854775807 by omega))
      rw [letter_hi hlo]
      generalize chr (97 + m % 26) = c at *
      generalize m / 26 = q at *
      go_enter Tryz.func149, Tryz.ntmps149
      go_wp2_with fail
      refine (HT.out _).mono ?_
      rintro e w2 ⟨rfl, hx⟩
      have hsz : ¬ ((⟨[c].toArray⟩ : ByteArray).size + (⟨(digs q).toArray⟩ : ByteArray).size > 9223372036854775807) := by have := H20.out; rw [ba_size, ba_size]; simp; omega
      go_wp2
      go_ret
      refine ⟨?_, ((Ext.refl _).alloc _).trans hx⟩
      exact congrArg (fun b => Ending.returned (Value.string b)) (ByteArray.mk_append_mk [c] (digs q))


end Go.Proofs.YtnomibjbjplieaaGreat
