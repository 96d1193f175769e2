/- A range over a function: what a round keeps. No program in sight. -/
import Derived.Test.YtcnkfkjgpdmebaaGreatDoorJN28
import Derived.Test.YtcnkfkjgpdmebaaGreatDoorProg
import Derived.RangeFuncNested
import Derived.RangeFuncBound
import Derived.RangeFuncCalls
import Derived.RangeFuncLeaves
import Derived.Shelf.Abstract
import Derived.Shelf.RegionOpen
import Derived.OwnWalkIn
import Derived.TacticsInMore
import Derived.LoopNIn
import Derived.LoopIn
/- A range over a function: what a round keeps. No program in sight. -/
namespace Go.Proofs.YtcnkfkjgpdmebaaGreatDoor
open Go.RowKit Go.Shelf

theorem room_of_none {F : Fence} (hd : F.depth = none) (k : Nat) : F.room k := fun d h => by rw [hd] at h; cases h
theorem RoundIn.anyDepth {F : Fence} (hd : F.depth = none) {m m' : Nat} {P : Program} {l : Nat} {f : FuncId} {tmps : Array Value} {assign body : Code} {w : World} {R : Ending → World → Prop}
    (h : RoundIn F m P l f tmps assign body w R) : RoundIn F m' P l f tmps assign body w R := ⟨h.1, fun c cs _ => h.2 c cs (room_of_none hd _)⟩
theorem YieldAt.anyDepth {F : Fence} (hd : F.depth = none) {m : Nat} (m' : Nat) {P : Program} {l : Nat} {args : Array Value} {W : World} {R : Ending → World → Prop} (h : YieldAt F m P l args W R) : YieldAt F m' P l args W R := by
  obtain ⟨fn, tmps, assign, body, hy, hR⟩ := h
  exact ⟨fn, tmps, assign, body, hy, RoundIn.anyDepth hd hR⟩

/-- What a round keeps: all that lay below `n₀`, and all cells but those of block `R`. -/
structure Kc (n₀ R : Nat) (W W' : World) : Prop where
  below : Below n₀ W W'
  cells : ∀ k o, k ≠ R → W.heap[k]? = some o → o.isCells = true → W'.heap[k]? = some o
section
variable {n₀ R : Nat} {A B C : World}
theorem Kc.refl (n₀ R : Nat) (A : World) : Kc n₀ R A A := ⟨Below.refl _ _, fun _ _ _ h _ => h⟩
theorem Kc.trans (h : Kc n₀ R A B) (k : Kc n₀ R B C) : Kc n₀ R A C := ⟨h.below.trans k.below, fun i o hi ho hc => k.cells i o hi (h.cells i o hi ho hc) hc⟩
theorem Kc.alloc (h : Kc n₀ R A B) (hn : n₀ ≤ B.heap.size) (o : Obj) : Kc n₀ R A (B.alloc o) :=
  h.trans ⟨(Below.refl _ B).alloc hn o, fun _ _ _ ho _ => (Below.heap_alloc _ _ _ (Array.getElem?_eq_some_iff.1 ho).1).trans ho⟩
theorem Kc.put (h : Kc n₀ R A B) {l : Nat} {o : Obj} (o' : Obj) (hn : n₀ ≤ l) (hl : B.heap[l]? = some o) (ho : o.isCells = false) : Kc n₀ R A (B.putObj l o') :=
  h.trans ⟨(Below.refl _ B).grown (grownBy_putObj' B l o') (by have := (Array.getElem?_eq_some_iff.1 hl).1; omega) (fun k e => by cases e; exact hn), fun i o2 _ h2 hc => by
    refine (World.putObj_heap_other (fun e => ?_)).trans h2
    subst e
    rw [hl] at h2
    cases h2
    rw [ho] at hc
    cases hc⟩
theorem Kc.size (h : Kc n₀ R A B) : A.heap.size ≤ B.heap.size := h.below.size
end

end Go.Proofs.YtcnkfkjgpdmebaaGreatDoor

/- Contracts: a slice of types from behind, told to a function; a function's type, of the program. -/
namespace Go.Proofs.YtcnkfkjgpdmebaaGreatDoor
open Go.RowKit Go.Shelf

attribute [local go_sem] Oper.semAt_some

end Go.Proofs.YtcnkfkjgpdmebaaGreatDoor

/- Contract: a function's type, of the program. -/
namespace Go.Proofs.YtcnkfkjgpdmebaaGreatDoor
open Go.RowKit Go.Shelf

attribute [local go_sem] Oper.semAt_some

theorem Kc.set {n₀ R : Nat} {A B : World} (h : Kc n₀ R A B) (hn : n₀ ≤ R) (i : Nat) (v : Value) : Kc n₀ R A (B.setCell ⟨R, i, none⟩ v) :=
  h.trans ⟨(Below.refl _ B).setCell (p := ⟨R, i, none⟩) hn v, fun k _ hk ho _ => (Below.heap_setCell B ⟨R, i, none⟩ v k hk).trans ho⟩
/-- A type lies in no block that is no cells. -/
theorem away_other {w : World} {t : Ty} (h : TyIn w t) {c : Nat} {o : Obj} (hc : w.heap[c]? = some o) (ho : o.isCells = false) : awayB c t = true := by
  induction h with
  | mk h1 h2 h3 h4 h5 ih =>
    rename_i t
    cases t with
    | mk s v A cap l =>
    refine awayB_mk (fun hn a ha e => ?_) ih
    obtain ⟨b, o', e1, hb, hcell⟩ := h4.2 (List.length_pos_iff.2 hn)
    have ha' : A = some a := ha
    rw [show (Ty.mk s v A cap l).A = A from rfl, ha'] at e1
    injection e1 with e1
    subst e1
    have e' : b = c := e
    subst e'
    have hlen : 0 < (l.flatMap tyC.f).length := by
      rw [flat_len _ _ tyC.hf]
      have := List.length_pos_iff.2 hn
      show 0 < l.length * 3
      omega
    have h6 := hcell 0 _ (List.getElem?_eq_getElem hlen)
    cases o with
    | cells cs t fr => cases ho
    | _ => simp [World.cell?, hc] at h6
theorem TyIn.others {w w' : World} {t : Ty} {row : Option Nat} (h : TyIn w t) (hg : w.grownBy w' row) (hr : ∀ r, row = some r → ∃ o : Obj, w.heap[r]? = some o ∧ o.isCells = false) : TyIn w' t :=
  h.grown hg (fun c e => by obtain ⟨o, h1, h2⟩ := hr c e; exact away_other h h1 h2)
/-- The function's type so far, in block R. -/
structure AccIn (G : Nat → Prop) (w0 : World) (R : Nat) (q : Ty.Pure) (W : World) : Prop where
  box : ∃ u, TBox W R u ∧ TyIn W u ∧ awayB R u = true ∧ (awayB (R + 1) u = true ∧ ∀ c, G c → awayB c u = true) ∧ u.pure = q
  res : W.heap[R + 1]? = some (.cells #[.string ⟨#[]⟩, .int .i64 0, .slice none 0 0] 53 (0, 0))
  below : Below w0.heap.size w0 W
theorem AccIn.ext {G : Nat → Prop} {w0 W W' : World} {R : Nat} {q : Ty.Pure} (h : AccIn G w0 R q W) (e : Ext W W') : AccIn G w0 R q W' := by
  obtain ⟨⟨u, b1, b2, b3, b4, b5⟩, b6, b7⟩ := h
  exact ⟨⟨u, b1.ext e, b2.ext e, b3, b4, b5⟩, (e.heap (lt_of_obj b6)).trans b6, b7.trans (e.below.mono b7.size)⟩
/-- One more arg. -/
theorem AccIn.step {G : Nat → Prop} {w0 W : World} {R : Nat} {q : Ty.Pure} {u x : Ty} (hR : R = w0.heap.size) (hb : TBox W R u) (hu : TyIn W u) (h1 : awayB R u = true) (h2 : awayB (R + 1) u = true ∧ ∀ c, G c → awayB c u = true) (h3 : u.pure = q) (h4 : W.heap[R + 1]? = some (.cells #[.string ⟨#[]⟩, .int .i64 0, .slice none 0 0] 53 (0, 0))) (h5 : Below w0.heap.size w0 W) (hx : TyIn w0 x) (hG : ∀ c, G c → c < w0.heap.size ∧ awayB c x = true) :
    AccIn G w0 R (arrP x.pure q) ((((W.setCell ⟨R, 0, none⟩ (.string ⟨#[45, 62]⟩)).setCell ⟨R, 1, none⟩ (.int .i64 0)).setCell ⟨R, 2, none⟩ (.slice (some ⟨W.heap.size, 0, none⟩) 2 2)).alloc (.cells #[encStr x.con, .int .i64 x.var, .slice x.A x.args.length x.cap, encStr u.con, .int .i64 u.var, .slice u.A u.args.length u.cap] 53)) := by
  have hg := put3_grown W R 0 1 2 (.string ⟨#[45, 62]⟩) (.int .i64 0) (.slice (some ⟨W.heap.size, 0, none⟩) 2 2)
  have hbl : (((W.setCell ⟨R, 0, none⟩ (.string ⟨#[45, 62]⟩)).setCell ⟨R, 1, none⟩ (.int .i64 0)).setCell ⟨R, 2, none⟩ (.slice (some ⟨W.heap.size, 0, none⟩) 2 2)).heap[R]? = some (.cells #[.string ⟨#[45, 62]⟩, .int .i64 0, .slice (some ⟨W.heap.size, 0, none⟩) 2 2] 53 (0, 0)) := by
    have := blk_setCell (blk_setCell (blk_setCell hb 0 (.string ⟨#[45, 62]⟩)) 1 (.int .i64 0)) 2 (.slice (some ⟨W.heap.size, 0, none⟩) 2 2)
    simpa using this
  have hs : (((W.setCell ⟨R, 0, none⟩ (.string ⟨#[45, 62]⟩)).setCell ⟨R, 1, none⟩ (.int .i64 0)).setCell ⟨R, 2, none⟩ (.slice (some ⟨W.heap.size, 0, none⟩) 2 2)).heap.size = W.heap.size := by simp [World.setCell]
  generalize (((W.setCell ⟨R, 0, none⟩ (.string ⟨#[45, 62]⟩)).setCell ⟨R, 1, none⟩ (.int .i64 0)).setCell ⟨R, 2, none⟩ (.slice (some ⟨W.heap.size, 0, none⟩) 2 2)) = V at *
  have hxW := hx.old h5
  have ax1 := away_new hx (c := R) (by omega)
  have ax2 := away_new hx (c := R + 1) (by omega)
  have hlt := lt_of_obj h4
  have E : Ext V (V.alloc (.cells #[encStr x.con, .int .i64 x.var, .slice x.A x.args.length x.cap, encStr u.con, .int .i64 u.var, .slice u.A u.args.length u.cap] 53)) := (Ext.refl _).alloc _
  refine ⟨⟨arrT x u W.heap.size, (E.heap (lt_of_obj hbl)).trans hbl, arrT_in ((hxW.grown hg (fun c e => by injection e with e; subst e; exact ax1)).ext E) ((hu.grown hg (fun c e => by injection e with e; subst e; exact h1)).ext E) (at_newB _ _ _ hs.symm), arrT_away (by omega) ax1 h1, ⟨arrT_away (by omega) ax2 h2.1, fun c hc => arrT_away (by have := (hG c hc).1; have := h5.size; omega) (hG c hc).2 (h2.2 c hc)⟩, by rw [arrT_pure, h3]⟩, ?_, ?_⟩
  · exact (E.heap (by omega)).trans ((hg.block (R + 1) hlt (by simp)).trans h4)
  · exact (h5.grown hg h5.size (fun k e => by injection e with e; omega)).trans (E.below.mono (by have := h5.size; omega))



end Go.Proofs.YtcnkfkjgpdmebaaGreatDoor

/- Contracts: a number's letter; of the program, and of the reference. -/
namespace Go.Proofs.YtcnkfkjgpdmebaaGreatDoor
open Go.RowKit

theorem letter_neg {n : Int} (h : n < 0) : letter n = [] := by unfold letter; rw [if_pos h]
theorem letter_lo {m : Nat} (h : m < 26) : letter (m : Int) = [chr (97 + m % 26)] := by
  unfold letter
  rw [if_neg (by omega), if_pos (by omega)]
  rfl
theorem letter_hi {m : Nat} (h : ¬ m < 26) : letter (m : Int) = [chr (97 + m % 26)] ++ digs (m / 26) := by
  unfold letter
  rw [if_neg (by omega), if_neg (by omega)]
  rfl
theorem digs_20 {n : Nat} (h : n ≤ 9223372036854775807) : (digs n).length ≤ 20 := digs_len 19 n (Nat.lt_of_le_of_lt h (by decide))

set_option maxRecDepth 10000 in
set_option maxHeartbeats 1000000 in
theorem n_letter (n : Int) (h1 : n ≤ 9223372036854775807) (w : World) : Calls Tryz.prog 235 #[.int .i64 n] w fun e w' => e = .returned (encStr (letter n)) ∧ Ext w w' := by
  by_cases h0 : n < 0
  · rw [letter_neg h0]
    go_enter Tryz.func235, Tryz.ntmps235
    go_wp2
    go_ret
    exact ⟨rfl, Ext.refl _⟩
  · obtain ⟨m, rfl⟩ : ∃ m : Nat, n = m := ⟨n.toNat, by omega⟩
    have hcv := conv_one w (97 + m % 26) (97 + (m : Int) % 26) (by omega) (by omega)
    have hcv2 : IntKind.u8.wrap (97 + (m : Int) % 26) = 97 + (m : Int) % 26 := by simp [IntKind.wrap, IntKind.bits, IntKind.signed]; omega
    by_cases hlo : m < 26
    · have hlo' : decide ((m : Int) < 26) = true := by simp; omega
      rw [letter_lo hlo]
      go_enter Tryz.func235, Tryz.ntmps235
      go_wp2
      go_ret
      exact ⟨rfl, (Ext.refl _).alloc _⟩
    · have hlo' : decide ((m : Int) < 26) = false := by simp; omega
      have HT := hide (fun w' => i_text (m / 26) (by omega) w')
      have hq : (m : Int) / 26 = ((m / 26 : Nat) : Int) := by omega
      have H20 := hide (digs_20 (show m / 26 ≤ 9223372036854775807 by omega))
      rw [letter_hi hlo]
      generalize chr (97 + m % 26) = c at *
      generalize m / 26 = q at *
      go_enter Tryz.func235, Tryz.ntmps235
      go_wp2_with fail
      refine (HT.out _).mono ?_
      rintro e w2 ⟨rfl, hx⟩
      have hsz : ¬ ((⟨[c].toArray⟩ : ByteArray).size + (⟨(digs q).toArray⟩ : ByteArray).size > 9223372036854775807) := by have := H20.out; rw [ba_size, ba_size]; simp; omega
      go_wp2
      go_ret
      refine ⟨?_, ((Ext.refl _).alloc _).trans hx⟩
      exact congrArg (fun b => Ending.returned (Value.string b)) (ByteArray.mk_append_mk [c] (digs q))


end Go.Proofs.YtcnkfkjgpdmebaaGreatDoor
