/- Contract: whether a type is a term. -/
import Derived.Test.YtcnkfkjgpdmebaaGreatDoorJN10
import Derived.Deep.Cut
/- Contract: whether a type is a term. -/
namespace Go.Proofs.YtcnkfkjgpdmebaaGreatDoor
open Go.RowKit Go.Shelf

set_option maxRecDepth 10000 in
set_option maxHeartbeats 2000000 in
theorem t_legal1 (t : Ty) (d n c : Nat) (w : World) (h : TyIn w t) (hc : w.heap[c]? = some (.cells #[.int .i64 n] 3 (0, 0))) (hn : n ≤ 1000000) :
    Calls Tryz.prog 170 #[tyV t, .int .i64 d, .pointer (some ⟨c, 0, none⟩)] w fun e w' => e = .returned (.bool (decide (n + 1 ≤ 4096) && decide (d ≤ 100) && headOk t.con t.var t.args.length)) ∧
      w'.heap[c]? = some (.cells #[.int .i64 ((n + 1 : Nat) : Int)] 3 (0, 0)) ∧ Tr c w (.bool false) w' (.bool false) := by
  have hlt := lt_of_obj hc
  have X0 : Ext w (w.alloc (.cells #[encStr t.con, .int .i64 t.var, .slice t.A t.args.length t.cap] 53)) := (Ext.refl w).alloc _
  have hc1 := (X0.heap hlt).trans hc
  have hcell : (w.alloc (.cells #[encStr t.con, .int .i64 t.var, .slice t.A t.args.length t.cap] 53)).cell? ⟨c, 0, none⟩ = some (.int .i64 n) := bytes_block hc1 0
  have hfree : (w.alloc (.cells #[encStr t.con, .int .i64 t.var, .slice t.A t.args.length t.cap] 53)).frozen? ⟨c, 0, none⟩ = false := free_block hc1 0
  have hs1 : (w.setCell ⟨c, 0, none⟩ (.int .i64 ((n : Int) + 1))).heap.size = w.heap.size := by simp [World.setCell]
  obtain ⟨W, hW⟩ : ∃ W, W = (w.setCell ⟨c, 0, none⟩ (.int .i64 ((n : Int) + 1))).alloc (.cells #[encStr t.con, .int .i64 t.var, .slice t.A t.args.length t.cap] 53) := ⟨_, rfl⟩
  have HC : Hid (W.heap[c]? = some (.cells #[.int .i64 ((n + 1 : Nat) : Int)] 3 (0, 0))) := hide (by
    have h1 := blk_setCell hc 0 (.int .i64 ((n : Int) + 1))
    rw [hW]
    exact (((Ext.refl _).alloc _).heap (by rw [hs1]; exact hlt)).trans h1)
  have HT : Hid (Tr c w (.bool false) W (.bool false)) := hide (by
    have h1 : Tr c w (.bool false) (w.setCell ⟨c, 0, none⟩ (.int .i64 ((n : Int) + 1))) (.bool false) := ⟨rfl, rfl, rfl, by rw [hs1]; exact Nat.le_refl _, fun k _ hk _ => Below.heap_setCell _ ⟨c, 0, none⟩ _ k hk, .inl rfl⟩
    rw [hW]
    exact h1.trans (Tr.of_ext ((Ext.refl _).alloc _)))
  have HB : Hid (TBox W w.heap.size t) := hide (by
    have := TBox.new (w.setCell ⟨c, 0, none⟩ (.int .i64 ((n : Int) + 1))) t
    rw [hs1] at this
    rw [hW]
    exact this)
  have HcW := hide (show W.cell? ⟨c, 0, none⟩ = some (.int .i64 ((n : Int) + 1)) from bytes_block HC.out 0)
  have HW := hide hW
  clear hW
  have HO := hide (fun w' => hide (t_of t w'))
  have HM := hide (fun w' => hide (t_may t.con t.var t.args.length w' h.txt))
  clear h hc hc1 X0
  generalize headOk t.con t.var t.args.length = R at *
  unfold tyV headV at *
  by_cases h1 : n + 1 ≤ 4096
  · by_cases h2 : d ≤ 100
    · have hR : (decide (n + 1 ≤ 4096) && decide (d ≤ 100) && R) = R := by simp [h1, h2]
      rw [hR]
      clear hR
      go_enter Tryz.func170, Tryz.ntmps170
      go_upto_region 2 with fail
      rw [← HW.out]
      clear hcell hfree
      have hcW := HcW.out
      have b0 := HB.out.c0
      have b1 := HB.out.c1
      have b2 := HB.out.c2
      have h1' : (decide (((n : Int) + 1) ≤ 4096)) = true := by simp; omega
      have h2' : (decide ((d : Int) ≤ 100)) = true := by simp; omega
      clear h1 h2
      go_wp2_with fail
      refine (HO.out _).out.mono ?_
      rintro e w2 ⟨rfl, hx2⟩
      have X2 := hide hx2
      clear hx2
      go_wp2_with fail
      refine (HM.out _).out.mono ?_
      rintro e w3 ⟨rfl, hx3⟩
      have X3 := hide (X2.out.trans hx3)
      clear hx3
      go_wp2
      go_ret
      exact ⟨rfl, (X3.out.heap (lt_of_obj HC.out)).trans HC.out, HT.out.trans (Tr.of_ext X3.out)⟩
    · have hR : (decide (n + 1 ≤ 4096) && decide (d ≤ 100) && R) = false := by simp [h2]
      rw [hR]
      clear hR
      go_enter Tryz.func170, Tryz.ntmps170
      go_upto_region 2 with fail
      rw [← HW.out]
      clear hcell hfree
      have hcW := HcW.out
      have b0 := HB.out.c0
      have b1 := HB.out.c1
      have b2 := HB.out.c2
      have h1' : (decide (((n : Int) + 1) ≤ 4096)) = true := by simp; omega
      have h2' : (decide ((d : Int) ≤ 100)) = false := by simp; omega
      clear h1 h2
      go_wp2
      go_ret
      exact ⟨rfl, HC.out, HT.out⟩
  · have hR : (decide (n + 1 ≤ 4096) && decide (d ≤ 100) && R) = false := by simp [h1]
    rw [hR]
    clear hR
    go_enter Tryz.func170, Tryz.ntmps170
    go_upto_region 2 with fail
    rw [← HW.out]
    clear hcell hfree
    have hcW := HcW.out
    have b0 := HB.out.c0
    have b1 := HB.out.c1
    have b2 := HB.out.c2
    have h1' : (decide (((n : Int) + 1) ≤ 4096)) = false := by simp; omega
    clear h1
    go_wp2
    go_ret
    exact ⟨rfl, HC.out, HT.out⟩

theorem tlegal1_opens : Opens 170 := enters_of Tryz.func170 (by kernel_rfl) rfl
def okP (p : Nat × Ty) : Bool := decide (p.1 ≤ 100) && headOk p.2.con p.2.var p.2.args.length
theorem legalT_lev (t : Ty) : legalT t = true ↔ ((t.lev 1).length ≤ 4096 ∧ ∀ p ∈ t.lev 1, okP p = true) := by
  unfold legalT shapeT
  rw [allB_lev _ t 1, tlev_len]
  simp only [Bool.and_eq_true, decide_eq_true_eq, List.all_eq_true, okP]
  have hl := tlev_low 100 t 1
  constructor
  · rintro ⟨⟨h1, h2⟩, h3⟩
    exact ⟨h1, fun p hp => ⟨hl.2 (by omega) p hp, h3 p hp⟩⟩
  · rintro ⟨h1, h2⟩
    exact ⟨⟨h1, by have := hl.1 (fun p hp => (h2 p hp).1); omega⟩, fun p hp => (h2 p hp).2⟩

set_option maxRecDepth 10000 in
set_option maxHeartbeats 2000000 in
theorem t_legal (t : Ty) (w : World) (h : TyIn w t) (hsz : t.size ≤ 900000) : Calls Tryz.prog 124 #[tyV t] w fun e w' => e = .returned (.bool (legalT t)) ∧ Ext w w' := by
  have HB := hide (TBox.new w t)
  have X1 : Ext w ((w.alloc (.cells #[encStr t.con, .int .i64 t.var, .slice t.A t.args.length t.cap] 53)).alloc (.cells #[.int .i64 0] 3)) := ((Ext.refl w).alloc _).alloc _
  have hs : (w.alloc (.cells #[encStr t.con, .int .i64 t.var, .slice t.A t.args.length t.cap] 53)).heap.size = w.heap.size + 1 := by simp
  have hc : ((w.alloc (.cells #[encStr t.con, .int .i64 t.var, .slice t.A t.args.length t.cap] 53)).alloc (.cells #[.int .i64 0] 3)).heap[w.heap.size + 1]? = some (.cells #[.int .i64 0] 3 (0, 0)) := by
    have := at_newB (w.alloc (.cells #[encStr t.con, .int .i64 t.var, .slice t.A t.args.length t.cap] 53)) (.cells #[Value.int .i64 0] 3) (w.heap.size + 1) hs.symm
    exact this
  have HW := hide (t_walk 170 #[.pointer (some ⟨w.heap.size + 1, 0, none⟩)] tlegal1_opens w (w.heap.size + 1) 1000000
    (fun pre w' v => v = .bool false ∧ w'.heap[w.heap.size + 1]? = some (.cells #[.int .i64 pre.length] 3 (0, 0)) ∧ pre.length ≤ 4096 ∧ ∀ p ∈ pre, okP p = true)
    (fun pre _ _ => ¬ (pre.length ≤ 4096 ∧ ∀ p ∈ pre, okP p = true))
    (fun pre w1 w2 v hj e => ⟨hj.1, (e.heap (lt_of_obj hj.2.1)).trans hj.2.1, hj.2.2⟩)
    (fun pre w1 v hj => ⟨by omega, lt_of_obj hj.2.1, fun k hk => by rw [hj.1] at hk; cases hk⟩)
    (fun pre x w1 v hj hN hx ht => by
      obtain ⟨rfl, hcell, hlen, hall⟩ := hj
      refine (t_legal1 x.2 x.1 pre.length (w.heap.size + 1) w1 ht hcell (by omega)).mono ?_
      rintro e w2 ⟨rfl, hc2, hT⟩
      refine ⟨.bool false, hT, ?_⟩
      by_cases hok : pre.length + 1 ≤ 4096 ∧ okP x = true
      · left
        refine ⟨?_, rfl, by rw [List.length_append]; exact hc2, by rw [List.length_append]; exact hok.1, ?_⟩
        · have h2 := hok.2
          unfold okP at h2
          rw [Bool.and_assoc, h2, Bool.and_true, decide_eq_true hok.1]
        · intro p hp
          rcases List.mem_append.1 hp with hp | hp
          · exact hall p hp
          · rw [List.mem_singleton] at hp; rw [hp]; exact hok.2
      · right
        refine ⟨?_, ?_⟩
        · have : (decide (pre.length + 1 ≤ 4096) && (decide (x.1 ≤ 100) && headOk x.2.con x.2.var x.2.args.length)) = false := by
            rw [← Bool.not_eq_true, Bool.and_eq_true, decide_eq_true_eq]
            exact hok
          rw [Bool.and_assoc, this]
        · rintro ⟨h1, h2⟩
          rw [List.length_append] at h1
          exact hok ⟨h1, h2 x (by simp)⟩)
    t 1 [] ((w.alloc (.cells #[encStr t.con, .int .i64 t.var, .slice t.A t.args.length t.cap] 53)).alloc (.cells #[.int .i64 0] 3)) (.bool false) h X1.below ⟨rfl, hc, by decide, by simp⟩ (by omega) (by simp; omega))
  have HL := hide (legalT_lev t)
  have HX := hide X1
  clear h hc hs X1
  generalize legalT t = R at *
  unfold tyV at *
  go_enter Tryz.func124, Tryz.ntmps124
  go_wp2_with fail
  refine HW.out.mono ?_
  rintro e w2 ⟨v2, hT, (⟨rfl, hj⟩ | ⟨rfl, q, hq, hx⟩)⟩
  · have HE := hide (Ext.of_below (HX.out.below.trans (hT.below HX.out.size (by omega) (fun k e => by cases e))) (Nat.le_refl _))
    have HR := hide (HL.out.2 ⟨hj.2.2.1, hj.2.2.2⟩)
    clear hT hj
    go_wp2
    go_ret
    exact ⟨by rw [HR.out]; rfl, HE.out⟩
  · have HE := hide (Ext.of_below (HX.out.below.trans (hT.below HX.out.size (by omega) (fun k e => by cases e))) (Nat.le_refl _))
    have HR : Hid (R = false) := hide (by
      rw [← Bool.not_eq_true]
      intro h
      obtain ⟨h1, h2⟩ := HL.out.1 h
      obtain ⟨r, hr⟩ := hq
      have h3 : q.length ≤ 4096 := by rw [← hr, List.length_append] at h1; omega
      exact hx ⟨by simpa using h3, fun p hp => h2 p (by rw [← hr]; exact List.mem_append_left _ (by simpa using hp))⟩)
    clear hT hx hq
    go_wp2
    go_ret
    exact ⟨by rw [HR.out]; rfl, HE.out⟩

end Go.Proofs.YtcnkfkjgpdmebaaGreatDoor

/- Contracts on the reference's names. -/
namespace Go.Proofs.YtcnkfkjgpdmebaaGreatDoor
open Go.RowKit

end Go.Proofs.YtcnkfkjgpdmebaaGreatDoor

/- Contract on the reference: whether a text may be a constructor's name. -/
namespace Go.Proofs.YtcnkfkjgpdmebaaGreatDoor
open Go.RowKit

end Go.Proofs.YtcnkfkjgpdmebaaGreatDoor

/- Contracts on the reference: whether a type is a term. (A program of ours has printed a part.) -/
namespace Go.Proofs.YtcnkfkjgpdmebaaGreatDoor
open Go.RowKit

theorem beq_cast (a b : Nat) : ((a : Int) == (b : Int)) = (a == b) := by rw [Bool.eq_iff_iff]; simp [Int.natCast_inj]
theorem headOk_eq (s : Str) (v : Int) (n : Nat) : headOk s v n = if s == [] then n == 0 else if s == [45, 62] then v == 0 && n == 2 else if fixedB s then v == 0 && n == 0 else v == 0 && conB s := rfl
theorem shapeT_eq (t : Ty) : shapeT t = (headOk t.con t.var t.args.length && t.args.all shapeT) := allB_eq _ t
end Go.Proofs.YtcnkfkjgpdmebaaGreatDoor

/- Predicates in memory: a class and a type. Contracts: whether one may be; whether all may be; of the program, and of the reference. -/
namespace Go.Proofs.YtcnkfkjgpdmebaaGreatDoor
open Go.RowKit

structure Pd where
  cls : Str
  ty : Ty
def Pd.cells (p : Pd) : List Value := [encStr p.cls, encStr p.ty.con, .int .i64 p.ty.var, .slice p.ty.A p.ty.args.length p.ty.cap]
def pdC : Coder Pd := ⟨4, Pd.cells, fun _ => rfl, by omega⟩
@[go_sem] def pdV (p : Pd) : Value := .agg #[encStr p.cls, encStr p.ty.con, .int .i64 p.ty.var, .slice p.ty.A p.ty.args.length p.ty.cap]
structure PdIn (w : World) (p : Pd) : Prop where
  cls : p.cls.length ≤ 1000000000000000000
  ty : TyIn w p.ty
structure PdsIn (w : World) (A : Option Addr) (l : List Pd) : Prop where
  row : RowOf pdC w A l
  all : ∀ p ∈ l, PdIn w p
section
variable {w w' : World} {p : Pd} {A : Option Addr} {l : List Pd}
theorem PdIn.ext (h : PdIn w p) (e : Ext w w') : PdIn w' p := ⟨h.cls, h.ty.ext e⟩
theorem PdsIn.ext (h : PdsIn w A l) (e : Ext w w') : PdsIn w' A l := ⟨RowOf.ext pdC h.row e, fun p hp => (h.all p hp).ext e⟩
theorem PdsIn.at_ (h : PdsIn w A l) {i : Nat} (hi : i < l.length) :
    ∃ b o, A = some ⟨b, o, none⟩ ∧ b < w.heap.size ∧ w.cell? ⟨b, o + i * 4, none⟩ = some (.string ⟨(l[i]'hi).cls.toArray⟩) ∧ w.cell? ⟨b, o + i * 4 + 1, none⟩ = some (.string ⟨(l[i]'hi).ty.con.toArray⟩) ∧
      w.cell? ⟨b, o + i * 4 + 2, none⟩ = some (.int .i64 (l[i]'hi).ty.var) ∧ w.cell? ⟨b, o + i * 4 + 3, none⟩ = some (.slice (l[i]'hi).ty.A (l[i]'hi).ty.args.length (l[i]'hi).ty.cap) := by
  obtain ⟨b, o, e, hb, hc⟩ := RowOf.at_ pdC h.row hi
  refine ⟨b, o, e, hb, ?_, ?_, ?_, ?_⟩
  · have := hc 0 (by decide); simpa [pdC, Pd.cells] using this
  · have := hc 1 (by decide); simpa [pdC, Pd.cells] using this
  · have := hc 2 (by decide); simpa [pdC, Pd.cells] using this
  · have := hc 3 (by decide); simpa [pdC, Pd.cells] using this
end
/-- A predicate in a box. -/
def PdBox (w : World) (b : Nat) (p : Pd) : Prop := w.heap[b]? = some (.cells #[encStr p.cls, encStr p.ty.con, .int .i64 p.ty.var, .slice p.ty.A p.ty.args.length p.ty.cap] 55 (0, 0))
section
variable {w w' : World} {b : Nat} {p : Pd}
theorem PdBox.new (w : World) (p : Pd) : PdBox (w.alloc (.cells #[encStr p.cls, encStr p.ty.con, .int .i64 p.ty.var, .slice p.ty.A p.ty.args.length p.ty.cap] 55)) w.heap.size p := at_newB _ _ _ rfl
theorem PdBox.lt (h : PdBox w b p) : b < w.heap.size := lt_of_obj h
theorem PdBox.ext (h : PdBox w b p) (e : Ext w w') : PdBox w' b p := (e.heap h.lt).trans h
theorem PdBox.cells (h : PdBox w b p) : w.cell? ⟨b, 0, none⟩ = some (encStr p.cls) ∧ w.cell? ⟨b, 1, none⟩ = some (encStr p.ty.con) ∧ w.cell? ⟨b, 2, none⟩ = some (.int .i64 p.ty.var) ∧ w.cell? ⟨b, 3, none⟩ = some (.slice p.ty.A p.ty.args.length p.ty.cap) :=
  ⟨bytes_block h 0, bytes_block h 1, bytes_block h 2, bytes_block h 3⟩
end
/-- May one be? -/
noncomputable def pdB (p : Pd) : Bool := conB p.cls && legalT p.ty

end Go.Proofs.YtcnkfkjgpdmebaaGreatDoor

/- What a program declares, in memory: data, classes, instances. (A program of ours has printed this.) -/
namespace Go.Proofs.YtcnkfkjgpdmebaaGreatDoor
open Go.RowKit

/-- A constructor. -/
structure CoD where
  name : Str
  A : Option Addr
  cap : Nat
  types : List Ty
def CoD.cells (x : CoD) : List Value := [encStr x.name, .slice x.A x.types.length x.cap]
def coC : Coder CoD := ⟨2, CoD.cells, fun _ => rfl, by omega⟩
@[go_sem] def coV (x : CoD) : Value := .agg #[encStr x.name, .slice x.A x.types.length x.cap]
structure CoIn (w : World) (x : CoD) : Prop where
  txt : x.name.length ≤ 1000000000000000000
  le : x.types.length ≤ x.cap
  max : x.cap ≤ 9223372036854775807
  row : TysIn w x.A x.types
theorem CoIn.ext {w w' : World} {x : CoD} (h : CoIn w x) (e : Ext w w') : CoIn w' x := ⟨h.txt, h.le, h.max, h.row.ext e⟩
structure CosIn (w : World) (A : Option Addr) (l : List CoD) : Prop where
  row : RowOf coC w A l
  all : ∀ x ∈ l, CoIn w x
theorem CosIn.ext {w w' : World} {A : Option Addr} {l : List CoD} (h : CosIn w A l) (e : Ext w w') : CosIn w' A l := ⟨RowOf.ext coC h.row e, fun x hx => (h.all x hx).ext e⟩
theorem CosIn.nil (w : World) (A : Option Addr) : CosIn w A [] := ⟨RowOf.nil _ _ _, by simp⟩
theorem CosIn.at_ {w : World} {A : Option Addr} {l : List CoD} (h : CosIn w A l) {i : Nat} (hi : i < l.length) :
    ∃ b o, A = some ⟨b, o, none⟩ ∧ b < w.heap.size ∧ w.cell? ⟨b, o + i * 2, none⟩ = some (.string ⟨(l[i]'hi).name.toArray⟩) ∧ w.cell? ⟨b, o + i * 2 + 1, none⟩ = some (.slice (l[i]'hi).A (l[i]'hi).types.length (l[i]'hi).cap) := by
  obtain ⟨b, o, e, hb, hc⟩ := RowOf.at_ coC h.row hi
  refine ⟨b, o, e, hb, ?_, ?_⟩
  · have := hc 0 (by decide); simpa [coC, CoD.cells] using this
  · have := hc 1 (by decide); simpa [coC, CoD.cells] using this
def CoBox (w : World) (b : Nat) (x : CoD) : Prop := w.heap[b]? = some (.cells #[encStr x.name, .slice x.A x.types.length x.cap] 103 (0, 0))
theorem CoBox.lt {w : World} {b : Nat} {x : CoD} (h : CoBox w b x) : b < w.heap.size := lt_of_obj h
theorem CoBox.ext {w w' : World} {b : Nat} {x : CoD} (h : CoBox w b x) (e : Ext w w') : CoBox w' b x := (e.heap h.lt).trans h
theorem CoBox.cells {w : World} {b : Nat} {x : CoD} (h : CoBox w b x) : w.cell? ⟨b, 0, none⟩ = some (encStr x.name) ∧ w.cell? ⟨b, 1, none⟩ = some (.slice x.A x.types.length x.cap) := ⟨bytes_block h 0, bytes_block h 1⟩
theorem CoBox.new (w : World) (x : CoD) : CoBox (w.alloc (.cells #[encStr x.name, .slice x.A x.types.length x.cap] 103)) w.heap.size x := at_newB _ _ _ rfl
/-- A data type. -/
structure DaD where
  name : Str
  n : Int
  A : Option Addr
  cap : Nat
  cons : List CoD
def DaD.cells (x : DaD) : List Value := [encStr x.name, .int .i64 x.n, .slice x.A x.cons.length x.cap]
def daC : Coder DaD := ⟨3, DaD.cells, fun _ => rfl, by omega⟩
@[go_sem] def daV (x : DaD) : Value := .agg #[encStr x.name, .int .i64 x.n, .slice x.A x.cons.length x.cap]
structure DaIn (w : World) (x : DaD) : Prop where
  txt : x.name.length ≤ 1000000000000000000
  le : x.cons.length ≤ x.cap
  max : x.cap ≤ 9223372036854775807
  row : CosIn w x.A x.cons
theorem DaIn.ext {w w' : World} {x : DaD} (h : DaIn w x) (e : Ext w w') : DaIn w' x := ⟨h.txt, h.le, h.max, h.row.ext e⟩
structure DasIn (w : World) (A : Option Addr) (l : List DaD) : Prop where
  row : RowOf daC w A l
  all : ∀ x ∈ l, DaIn w x
theorem DasIn.ext {w w' : World} {A : Option Addr} {l : List DaD} (h : DasIn w A l) (e : Ext w w') : DasIn w' A l := ⟨RowOf.ext daC h.row e, fun x hx => (h.all x hx).ext e⟩
theorem DasIn.nil (w : World) (A : Option Addr) : DasIn w A [] := ⟨RowOf.nil _ _ _, by simp⟩
theorem DasIn.at_ {w : World} {A : Option Addr} {l : List DaD} (h : DasIn w A l) {i : Nat} (hi : i < l.length) :
    ∃ b o, A = some ⟨b, o, none⟩ ∧ b < w.heap.size ∧ w.cell? ⟨b, o + i * 3, none⟩ = some (.string ⟨(l[i]'hi).name.toArray⟩) ∧ w.cell? ⟨b, o + i * 3 + 1, none⟩ = some (.int .i64 (l[i]'hi).n) ∧ w.cell? ⟨b, o + i * 3 + 2, none⟩ = some (.slice (l[i]'hi).A (l[i]'hi).cons.length (l[i]'hi).cap) := by
  obtain ⟨b, o, e, hb, hc⟩ := RowOf.at_ daC h.row hi
  refine ⟨b, o, e, hb, ?_, ?_, ?_⟩
  · have := hc 0 (by decide); simpa [daC, DaD.cells] using this
  · have := hc 1 (by decide); simpa [daC, DaD.cells] using this
  · have := hc 2 (by decide); simpa [daC, DaD.cells] using this
def DaBox (w : World) (b : Nat) (x : DaD) : Prop := w.heap[b]? = some (.cells #[encStr x.name, .int .i64 x.n, .slice x.A x.cons.length x.cap] 101 (0, 0))
theorem DaBox.lt {w : World} {b : Nat} {x : DaD} (h : DaBox w b x) : b < w.heap.size := lt_of_obj h
theorem DaBox.ext {w w' : World} {b : Nat} {x : DaD} (h : DaBox w b x) (e : Ext w w') : DaBox w' b x := (e.heap h.lt).trans h
theorem DaBox.cells {w : World} {b : Nat} {x : DaD} (h : DaBox w b x) : w.cell? ⟨b, 0, none⟩ = some (encStr x.name) ∧ w.cell? ⟨b, 1, none⟩ = some (.int .i64 x.n) ∧ w.cell? ⟨b, 2, none⟩ = some (.slice x.A x.cons.length x.cap) := ⟨bytes_block h 0, bytes_block h 1, bytes_block h 2⟩
theorem DaBox.new (w : World) (x : DaD) : DaBox (w.alloc (.cells #[encStr x.name, .int .i64 x.n, .slice x.A x.cons.length x.cap] 101)) w.heap.size x := at_newB _ _ _ rfl
/-- A method. -/
structure MeD where
  name : Str
  n : Int
  ty : Ty
def MeD.cells (x : MeD) : List Value := [encStr x.name, .int .i64 x.n, encStr x.ty.con, .int .i64 x.ty.var, .slice x.ty.A x.ty.args.length x.ty.cap]
def meC : Coder MeD := ⟨5, MeD.cells, fun _ => rfl, by omega⟩
@[go_sem] def meV (x : MeD) : Value := .agg #[encStr x.name, .int .i64 x.n, encStr x.ty.con, .int .i64 x.ty.var, .slice x.ty.A x.ty.args.length x.ty.cap]
structure MeIn (w : World) (x : MeD) : Prop where
  txt : x.name.length ≤ 1000000000000000000
  row : TyIn w x.ty
theorem MeIn.ext {w w' : World} {x : MeD} (h : MeIn w x) (e : Ext w w') : MeIn w' x := ⟨h.txt, h.row.ext e⟩
structure MesIn (w : World) (A : Option Addr) (l : List MeD) : Prop where
  row : RowOf meC w A l
  all : ∀ x ∈ l, MeIn w x
theorem MesIn.ext {w w' : World} {A : Option Addr} {l : List MeD} (h : MesIn w A l) (e : Ext w w') : MesIn w' A l := ⟨RowOf.ext meC h.row e, fun x hx => (h.all x hx).ext e⟩
theorem MesIn.nil (w : World) (A : Option Addr) : MesIn w A [] := ⟨RowOf.nil _ _ _, by simp⟩
theorem MesIn.at_ {w : World} {A : Option Addr} {l : List MeD} (h : MesIn w A l) {i : Nat} (hi : i < l.length) :
    ∃ b o, A = some ⟨b, o, none⟩ ∧ b < w.heap.size ∧ w.cell? ⟨b, o + i * 5, none⟩ = some (.string ⟨(l[i]'hi).name.toArray⟩) ∧ w.cell? ⟨b, o + i * 5 + 1, none⟩ = some (.int .i64 (l[i]'hi).n) ∧ w.cell? ⟨b, o + i * 5 + 2, none⟩ = some (.string ⟨(l[i]'hi).ty.con.toArray⟩) ∧ w.cell? ⟨b, o + i * 5 + 3, none⟩ = some (.int .i64 (l[i]'hi).ty.var) ∧ w.cell? ⟨b, o + i * 5 + 4, none⟩ = some (.slice (l[i]'hi).ty.A (l[i]'hi).ty.args.length (l[i]'hi).ty.cap) := by
  obtain ⟨b, o, e, hb, hc⟩ := RowOf.at_ meC h.row hi
  refine ⟨b, o, e, hb, ?_, ?_, ?_, ?_, ?_⟩
  · have := hc 0 (by decide); simpa [meC, MeD.cells] using this
  · have := hc 1 (by decide); simpa [meC, MeD.cells] using this
  · have := hc 2 (by decide); simpa [meC, MeD.cells] using this
  · have := hc 3 (by decide); simpa [meC, MeD.cells] using this
  · have := hc 4 (by decide); simpa [meC, MeD.cells] using this
def MeBox (w : World) (b : Nat) (x : MeD) : Prop := w.heap[b]? = some (.cells #[encStr x.name, .int .i64 x.n, encStr x.ty.con, .int .i64 x.ty.var, .slice x.ty.A x.ty.args.length x.ty.cap] 105 (0, 0))
theorem MeBox.lt {w : World} {b : Nat} {x : MeD} (h : MeBox w b x) : b < w.heap.size := lt_of_obj h
theorem MeBox.ext {w w' : World} {b : Nat} {x : MeD} (h : MeBox w b x) (e : Ext w w') : MeBox w' b x := (e.heap h.lt).trans h
theorem MeBox.cells {w : World} {b : Nat} {x : MeD} (h : MeBox w b x) : w.cell? ⟨b, 0, none⟩ = some (encStr x.name) ∧ w.cell? ⟨b, 1, none⟩ = some (.int .i64 x.n) ∧ w.cell? ⟨b, 2, none⟩ = some (encStr x.ty.con) ∧ w.cell? ⟨b, 3, none⟩ = some (.int .i64 x.ty.var) ∧ w.cell? ⟨b, 4, none⟩ = some (.slice x.ty.A x.ty.args.length x.ty.cap) := ⟨bytes_block h 0, bytes_block h 1, bytes_block h 2, bytes_block h 3, bytes_block h 4⟩
theorem MeBox.new (w : World) (x : MeD) : MeBox (w.alloc (.cells #[encStr x.name, .int .i64 x.n, encStr x.ty.con, .int .i64 x.ty.var, .slice x.ty.A x.ty.args.length x.ty.cap] 105)) w.heap.size x := at_newB _ _ _ rfl
/-- A class. -/
structure KlD where
  name : Str
  S : Option Addr
  sc : Nat
  sups : List Str
  A : Option Addr
  cap : Nat
  meths : List MeD
def KlD.cells (x : KlD) : List Value := [encStr x.name, .slice x.S x.sups.length x.sc, .slice x.A x.meths.length x.cap]
def klC : Coder KlD := ⟨3, KlD.cells, fun _ => rfl, by omega⟩
@[go_sem] def klV (x : KlD) : Value := .agg #[encStr x.name, .slice x.S x.sups.length x.sc, .slice x.A x.meths.length x.cap]
structure KlIn (w : World) (x : KlD) : Prop where
  txt : x.name.length ≤ 1000000000000000000
  sle : x.sups.length ≤ x.sc
  smax : x.sc ≤ 9223372036854775807
  srow : Strs w x.S x.sups
  stxt : ∀ s ∈ x.sups, s.length ≤ 1000000000000000000
  le : x.meths.length ≤ x.cap
  max : x.cap ≤ 9223372036854775807
  row : MesIn w x.A x.meths
theorem KlIn.ext {w w' : World} {x : KlD} (h : KlIn w x) (e : Ext w w') : KlIn w' x := ⟨h.txt, h.sle, h.smax, strs_iff.2 (RowOf.ext strC (strs_iff.1 h.srow) e), h.stxt, h.le, h.max, h.row.ext e⟩
structure KlsIn (w : World) (A : Option Addr) (l : List KlD) : Prop where
  row : RowOf klC w A l
  all : ∀ x ∈ l, KlIn w x
theorem KlsIn.ext {w w' : World} {A : Option Addr} {l : List KlD} (h : KlsIn w A l) (e : Ext w w') : KlsIn w' A l := ⟨RowOf.ext klC h.row e, fun x hx => (h.all x hx).ext e⟩
theorem KlsIn.nil (w : World) (A : Option Addr) : KlsIn w A [] := ⟨RowOf.nil _ _ _, by simp⟩
theorem KlsIn.at_ {w : World} {A : Option Addr} {l : List KlD} (h : KlsIn w A l) {i : Nat} (hi : i < l.length) :
    ∃ b o, A = some ⟨b, o, none⟩ ∧ b < w.heap.size ∧ w.cell? ⟨b, o + i * 3, none⟩ = some (.string ⟨(l[i]'hi).name.toArray⟩) ∧ w.cell? ⟨b, o + i * 3 + 1, none⟩ = some (.slice (l[i]'hi).S (l[i]'hi).sups.length (l[i]'hi).sc) ∧ w.cell? ⟨b, o + i * 3 + 2, none⟩ = some (.slice (l[i]'hi).A (l[i]'hi).meths.length (l[i]'hi).cap) := by
  obtain ⟨b, o, e, hb, hc⟩ := RowOf.at_ klC h.row hi
  refine ⟨b, o, e, hb, ?_, ?_, ?_⟩
  · have := hc 0 (by decide); simpa [klC, KlD.cells] using this
  · have := hc 1 (by decide); simpa [klC, KlD.cells] using this
  · have := hc 2 (by decide); simpa [klC, KlD.cells] using this
def KlBox (w : World) (b : Nat) (x : KlD) : Prop := w.heap[b]? = some (.cells #[encStr x.name, .slice x.S x.sups.length x.sc, .slice x.A x.meths.length x.cap] 70 (0, 0))
theorem KlBox.lt {w : World} {b : Nat} {x : KlD} (h : KlBox w b x) : b < w.heap.size := lt_of_obj h
theorem KlBox.ext {w w' : World} {b : Nat} {x : KlD} (h : KlBox w b x) (e : Ext w w') : KlBox w' b x := (e.heap h.lt).trans h
theorem KlBox.cells {w : World} {b : Nat} {x : KlD} (h : KlBox w b x) : w.cell? ⟨b, 0, none⟩ = some (encStr x.name) ∧ w.cell? ⟨b, 1, none⟩ = some (.slice x.S x.sups.length x.sc) ∧ w.cell? ⟨b, 2, none⟩ = some (.slice x.A x.meths.length x.cap) := ⟨bytes_block h 0, bytes_block h 1, bytes_block h 2⟩
theorem KlBox.new (w : World) (x : KlD) : KlBox (w.alloc (.cells #[encStr x.name, .slice x.S x.sups.length x.sc, .slice x.A x.meths.length x.cap] 70)) w.heap.size x := at_newB _ _ _ rfl
/-- An instance. -/
structure InD where
  cls : Str
  con : Str
  n : Int
  A : Option Addr
  cap : Nat
  preds : List Pd
def InD.cells (x : InD) : List Value := [encStr x.cls, encStr x.con, .int .i64 x.n, .slice x.A x.preds.length x.cap]
def inC : Coder InD := ⟨4, InD.cells, fun _ => rfl, by omega⟩
@[go_sem] def inV (x : InD) : Value := .agg #[encStr x.cls, encStr x.con, .int .i64 x.n, .slice x.A x.preds.length x.cap]
structure InIn (w : World) (x : InD) : Prop where
  txt : x.cls.length ≤ 1000000000000000000
  ctxt : x.con.length ≤ 1000000000000000000
  le : x.preds.length ≤ x.cap
  max : x.cap ≤ 9223372036854775807
  row : PdsIn w x.A x.preds
theorem InIn.ext {w w' : World} {x : InD} (h : InIn w x) (e : Ext w w') : InIn w' x := ⟨h.txt, h.ctxt, h.le, h.max, h.row.ext e⟩
structure InsIn (w : World) (A : Option Addr) (l : List InD) : Prop where
  row : RowOf inC w A l
  all : ∀ x ∈ l, InIn w x
theorem InsIn.ext {w w' : World} {A : Option Addr} {l : List InD} (h : InsIn w A l) (e : Ext w w') : InsIn w' A l := ⟨RowOf.ext inC h.row e, fun x hx => (h.all x hx).ext e⟩
theorem InsIn.nil (w : World) (A : Option Addr) : InsIn w A [] := ⟨RowOf.nil _ _ _, by simp⟩
theorem InsIn.at_ {w : World} {A : Option Addr} {l : List InD} (h : InsIn w A l) {i : Nat} (hi : i < l.length) :
    ∃ b o, A = some ⟨b, o, none⟩ ∧ b < w.heap.size ∧ w.cell? ⟨b, o + i * 4, none⟩ = some (.string ⟨(l[i]'hi).cls.toArray⟩) ∧ w.cell? ⟨b, o + i * 4 + 1, none⟩ = some (.string ⟨(l[i]'hi).con.toArray⟩) ∧ w.cell? ⟨b, o + i * 4 + 2, none⟩ = some (.int .i64 (l[i]'hi).n) ∧ w.cell? ⟨b, o + i * 4 + 3, none⟩ = some (.slice (l[i]'hi).A (l[i]'hi).preds.length (l[i]'hi).cap) := by
  obtain ⟨b, o, e, hb, hc⟩ := RowOf.at_ inC h.row hi
  refine ⟨b, o, e, hb, ?_, ?_, ?_, ?_⟩
  · have := hc 0 (by decide); simpa [inC, InD.cells] using this
  · have := hc 1 (by decide); simpa [inC, InD.cells] using this
  · have := hc 2 (by decide); simpa [inC, InD.cells] using this
  · have := hc 3 (by decide); simpa [inC, InD.cells] using this
def InBox (w : World) (b : Nat) (x : InD) : Prop := w.heap[b]? = some (.cells #[encStr x.cls, encStr x.con, .int .i64 x.n, .slice x.A x.preds.length x.cap] 72 (0, 0))
theorem InBox.lt {w : World} {b : Nat} {x : InD} (h : InBox w b x) : b < w.heap.size := lt_of_obj h
theorem InBox.ext {w w' : World} {b : Nat} {x : InD} (h : InBox w b x) (e : Ext w w') : InBox w' b x := (e.heap h.lt).trans h
theorem InBox.cells {w : World} {b : Nat} {x : InD} (h : InBox w b x) : w.cell? ⟨b, 0, none⟩ = some (encStr x.cls) ∧ w.cell? ⟨b, 1, none⟩ = some (encStr x.con) ∧ w.cell? ⟨b, 2, none⟩ = some (.int .i64 x.n) ∧ w.cell? ⟨b, 3, none⟩ = some (.slice x.A x.preds.length x.cap) := ⟨bytes_block h 0, bytes_block h 1, bytes_block h 2, bytes_block h 3⟩
theorem InBox.new (w : World) (x : InD) : InBox (w.alloc (.cells #[encStr x.cls, encStr x.con, .int .i64 x.n, .slice x.A x.preds.length x.cap] 72)) w.heap.size x := at_newB _ _ _ rfl
/-- All that is declared. -/
structure EnD where
  D : Option Addr
  dc : Nat
  datas : List DaD
  C : Option Addr
  cc : Nat
  classes : List KlD
  I : Option Addr
  ic : Nat
  insts : List InD
@[go_sem] def enV (x : EnD) : Value := .agg #[.slice x.D x.datas.length x.dc, .slice x.C x.classes.length x.cc, .slice x.I x.insts.length x.ic]
structure EnIn (w : World) (x : EnD) : Prop where
  dle : x.datas.length ≤ x.dc
  dmax : x.dc ≤ 9223372036854775807
  datas : DasIn w x.D x.datas
  cle : x.classes.length ≤ x.cc
  cmax : x.cc ≤ 9223372036854775807
  classes : KlsIn w x.C x.classes
  ile : x.insts.length ≤ x.ic
  imax : x.ic ≤ 9223372036854775807
  insts : InsIn w x.I x.insts
theorem EnIn.ext {w w' : World} {x : EnD} (h : EnIn w x) (e : Ext w w') : EnIn w' x := ⟨h.dle, h.dmax, h.datas.ext e, h.cle, h.cmax, h.classes.ext e, h.ile, h.imax, h.insts.ext e⟩
def EnBox (w : World) (b : Nat) (x : EnD) : Prop := w.heap[b]? = some (.cells #[.slice x.D x.datas.length x.dc, .slice x.C x.classes.length x.cc, .slice x.I x.insts.length x.ic] 26 (0, 0))
theorem EnBox.lt {w : World} {b : Nat} {x : EnD} (h : EnBox w b x) : b < w.heap.size := lt_of_obj h
theorem EnBox.ext {w w' : World} {b : Nat} {x : EnD} (h : EnBox w b x) (e : Ext w w') : EnBox w' b x := (e.heap h.lt).trans h
theorem EnBox.cells {w : World} {b : Nat} {x : EnD} (h : EnBox w b x) : w.cell? ⟨b, 0, none⟩ = some (.slice x.D x.datas.length x.dc) ∧ w.cell? ⟨b, 1, none⟩ = some (.slice x.C x.classes.length x.cc) ∧ w.cell? ⟨b, 2, none⟩ = some (.slice x.I x.insts.length x.ic) := ⟨bytes_block h 0, bytes_block h 1, bytes_block h 2⟩
theorem EnBox.new (w : World) (x : EnD) : EnBox (w.alloc (.cells #[.slice x.D x.datas.length x.dc, .slice x.C x.classes.length x.cc, .slice x.I x.insts.length x.ic] 26)) w.heap.size x := at_newB _ _ _ rfl

end Go.Proofs.YtcnkfkjgpdmebaaGreatDoor
