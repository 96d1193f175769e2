/- Contracts: what a proof uses of what is given: of one, ..; sorted, each once. -/
import Derived.Test.YtpdcjjgkpbpleaaGreatDoorJP27
import Derived.RegionTactic
/- Contracts: what a proof uses of what is given: of one, ..; sorted, each once. -/
namespace Go.Proofs.YtpdcjjgkpbpleaaGreatDoor
open Go.RowKit

/-- It uses one, and that alone. -/
def UsesPC (p : Pf) (n : Int) : Prop := ∀ (w : World), PfIn w p → Calls Tryz.prog 37 #[.slice none 0 0, pfV p] w fun e w' => (∃ v base, e = .returned v ∧ w.heap.size ≤ base ∧ w'.ownsRow base 3 1 v ([n] : List Int).length (([n] : List Int).map (Value.int .i64))) ∧ Ext w w'

set_option maxRecDepth 10000 in
set_option maxHeartbeats 2000000 in
theorem f_uses_given (p : Pf) (hk : (p.kind == 1) = true) (hks : p.kids = []) : UsesPC p p.n := by
  intro w h
  obtain ⟨W, hW⟩ : ∃ W, W = w.alloc (.cells #[.int .i64 p.kind, .int .i64 p.n, .slice p.T p.types.length p.tc, .slice p.A p.kids.length p.cap] 31) := ⟨_, rfl⟩
  have HW := hide hW.symm
  have X0 : Hid (Ext w W) := hide (by rw [hW]; exact (Ext.refl w).alloc _)
  have HB : Hid (FBox W w.heap.size p) := hide (by rw [hW]; exact FBox.new w p)
  obtain ⟨c0, c1, c2, c3⟩ := HB.out.cells
  obtain ⟨i0, hi, hz0, hz1, hz2⟩ := info_parts int64_info
  have hkl : p.kids.length = 0 := by rw [hks]; rfl
  rw [hkl] at c3
  unfold pfV
  rw [hkl] at HW ⊢
  have Hc3 := hide (fun w' (e : Ext W w') => (e.cell c3))
  have HO := hide (World.ownsRow_nil (W.alloc (.cells #[.int .i64 p.n] 3)) W.heap.size 3 1)
  have hbl := HB.out.lt
  clear hW hks hkl h
  go_enter Tryz.func37, Tryz.ntmps37
  go_upto_region 1 with fail
  rw [HW.out]
  clear HW
  go_wp2_with (at_builtin; refine wpList_append_row _ rfl _ _ 64 rfl W.heap.size 3 i0 _ 1 8 Tryz.underlying64 hi hz0 hz1 hz2 rfl (by decide) (.slice none 0 0) 0 [] rfl HO.out _ 1 1 [.int .i64 p.n] rfl ?c2 ?c3 ?c4 ?c5 ?c6 ?_)
  case c2 => exact Row.boxI _ (at_newB _ _ _ (by simp))
  case c3 => first | rfl | (intro y hy; simp at hy; subst hy; rfl)
  case c4 => unfold maxLen; omega
  case c5 => omega
  case c6 => simp
  intro v4 w4 hown4 hg4 _
  have X4 : Hid (Ext W w4) := hide (Ext.app ((Ext.refl W).alloc _) hg4 HO.out (Nat.le_refl _))
  have c3' := Hc3.out _ X4.out
  have O4 := hide hown4
  clear hown4 hg4 c0 c1 c2 c3
  go_wp2
  go_loopw [0, 18] (fun u i wr => i = .int .i64 0 ∧ u = v4 ∧ wr = w4) (fun _ _ _ => 0)
  case atStart => exact ⟨rfl, rfl, rfl⟩
  case round =>
    obtain ⟨rfl, rfl, rfl⟩ := hrel
    go_wp2
    go_ret
    have HF : wr.ownsRow W.heap.size 3 1 u0 ([p.n] : List Int).length (([p.n] : List Int).map (Value.int .i64)) := O4.out
    first | exact ⟨⟨_, _, rfl, X0.out.size, HF⟩, X0.out.trans X4.out⟩ | exact ⟨⟨_, rfl, _, X0.out.size, HF⟩, X0.out.trans X4.out⟩

set_option maxRecDepth 10000 in
set_option maxHeartbeats 2000000 in
theorem f_uses_one (p : Pf) (k : Pf) (n : Int) (hk : (p.kind == 1) = false) (hks : p.kids = [k]) (ih : UsesPC k n) : UsesPC p n := by
  intro w h
  obtain ⟨W, hW⟩ : ∃ W, W = w.alloc (.cells #[.int .i64 p.kind, .int .i64 p.n, .slice p.T p.types.length p.tc, .slice p.A p.kids.length p.cap] 31) := ⟨_, rfl⟩
  have HW := hide hW.symm
  have X0 : Hid (Ext w W) := hide (by rw [hW]; exact (Ext.refl w).alloc _)
  have HB : Hid (FBox W w.heap.size p) := hide (by rw [hW]; exact FBox.new w p)
  obtain ⟨c0, c1, c2, c3⟩ := HB.out.cells
  have hal := h.all
  rw [hks] at hal
  obtain ⟨b, o, hA, hb, q0, q1, q2, q3⟩ := (hal.ext X0.out).at_ (i := 0) (by simp)
  have hkl : p.kids.length = 1 := by rw [hks]; rfl
  simp only [Nat.zero_mul, Nat.add_zero, List.getElem_cons_zero] at q0 q1 q2 q3
  rw [hkl, hA] at c3
  have HC := hide (ih (W.alloc (.cells #[.int .i64 k.kind, .int .i64 k.n, .slice k.T k.types.length k.tc, .slice k.A k.kids.length k.cap] 31)) ((hal.kids k (by simp)).ext (X0.out.alloc _)))
  unfold pfV at *
  rw [hkl, hA] at HW ⊢
  clear hW hks hkl h hal ih hA
  go_enter Tryz.func37, Tryz.ntmps37
  go_upto_region 1 with fail
  rw [HW.out]
  clear HW
  go_wp2
  go_loopw [0, 18] (fun u i wr => ∃ m : Nat, m ≤ 1 ∧ i = .int .i64 m ∧ Hid (m = 0 → u = .slice none 0 0 ∧ wr = W) ∧ Hid (Ext W wr) ∧ Hid (m = 1 → ∃ base, w.heap.size ≤ base ∧ wr.ownsRow base 3 1 u ([n] : List Int).length (([n] : List Int).map (Value.int .i64)))) (fun _ i _ => 1 - (intOf i).toNat)
  case atStart => exact ⟨0, Nat.zero_le _, rfl, hide (fun _ => ⟨rfl, rfl⟩), hide (Ext.refl _), hide (fun h => by cases h)⟩
  case round =>
    obtain ⟨m, hm, rfl, H0, HX, H1⟩ := hrel
    by_cases hlt : m < 1
    · obtain rfl : m = 0 := by omega
      obtain ⟨rfl, rfl⟩ := H0.out rfl
      go_wp2_with fail
      refine HC.out.mono ?_
      rintro e y ⟨⟨v, base, rfl, hbase, hown⟩, hxy⟩
      have HO := hide hown
      have Hb := hide hbase
      have Xy := hide (((Ext.refl _).alloc _).trans hxy)
      clear hown hbase hxy
      go_wp2
      go_roundw
      case rel => exact ⟨1, Nat.le_refl _, rfl, hide (fun h => by cases h), Xy, hide (fun _ => ⟨base, by have h1 := X0.out.size; have h2 := Hb.out; simp at h2; omega, HO.out⟩)⟩
      case measure => simp [intOf]
    · obtain rfl : m = 1 := by omega
      obtain ⟨base, hb1, hown⟩ := H1.out rfl
      have HO := hide hown
      have Hb := hide hb1
      clear hown hb1 H1 H0
      go_wp2
      go_ret
      first | exact ⟨⟨_, _, rfl, Hb.out, HO.out⟩, X0.out.trans HX.out⟩ | exact ⟨⟨_, rfl, _, Hb.out, HO.out⟩, X0.out.trans HX.out⟩

theorem compact_one (g cap : Nat) (w : World) : Calls Tryz.prog 39 #[.slice (some ⟨g, 0, none⟩) 1 cap] w fun e w' => e = .returned (.slice (some ⟨g, 0, none⟩) 1 cap) ∧ w' = w := by
  go_enter Tryz.func39, Tryz.ntmps39
  go_wp2
  go_ret
  exact ⟨rfl, rfl⟩

set_option maxRecDepth 10000 in
set_option maxHeartbeats 2000000 in
theorem f_Uses (p : Pf) (n : Int) (hu : UsesPC p n) (w : World) (h : PfIn w p) : Calls Tryz.prog 21 #[pfV p] w fun e w' => (∃ g cap, e = .returned (.slice (some ⟨g, 0, none⟩) 1 cap) ∧ Ints w' (some ⟨g, 0, none⟩) [n]) ∧ Ext w w' := by
  obtain ⟨W, hW⟩ : ∃ W, W = w.alloc (.cells #[.int .i64 p.kind, .int .i64 p.n, .slice p.T p.types.length p.tc, .slice p.A p.kids.length p.cap] 31) := ⟨_, rfl⟩
  have HW := hide hW.symm
  have X0 : Hid (Ext w W) := hide (by rw [hW]; exact (Ext.refl w).alloc _)
  have HB : Hid (FBox W w.heap.size p) := hide (by rw [hW]; exact FBox.new w p)
  obtain ⟨c0, c1, c2, c3⟩ := HB.out.cells
  have HU := hide (hu W (h.ext X0.out))
  unfold pfV at *
  clear hW h hu
  go_enter Tryz.func21, Tryz.ntmps21
  go_upto_region 1 with fail
  rw [HW.out]
  clear HW
  go_wp2_with fail
  refine HU.out.mono ?_
  rintro e y ⟨⟨v, base, rfl, hbase, hown⟩, hxy⟩
  obtain ⟨hv, hl⟩ | ⟨g, cap, hv, hb, hg, hle, hmx⟩ := own_some hown
  · cases hl
  have HS := hide (sort_i base v [n] y hown (by simp))
  have HO := hide hown
  have Hb := hide hbase
  have Xy := hide hxy
  subst hv
  clear hown hbase hxy c0 c1 c2 c3
  go_wp2_with fail
  refine HS.out.mono ?_
  rintro e z ⟨rfl, hgz, hhold⟩
  have HH := hide (hhold g cap rfl)
  have Xz : Hid (Ext W z) := hide (Xy.out.grown hgz (fun k e => by have e2 : some g = some k := e; injection e2 with e2; have := Hb.out; omega))
  have HC := hide (compact_one g cap z)
  have Hgz : Hid (g < z.heap.size) := hide (Nat.lt_of_lt_of_le hg hgz.size)
  clear hgz hhold HS
  go_wp2_with fail
  refine HC.out.mono ?_
  rintro e z2 ⟨rfl, hz⟩
  rw [hz]
  clear hz
  have HI : Hid (Ints z (some ⟨g, 0, none⟩) [n]) := hide (ints_of Hgz.out (fun j hj => by
    have h1 := (HH.out j (by simpa using hj)).1
    obtain rfl : j = 0 := by simpa using hj
    simpa using h1))
  clear HH
  go_wp2
  go_ret
  first | exact ⟨⟨g, cap, rfl, HI.out⟩, X0.out.trans Xz.out⟩ | exact ⟨⟨g, ⟨cap, rfl⟩, HI.out⟩, X0.out.trans Xz.out⟩

end Go.Proofs.YtpdcjjgkpbpleaaGreatDoor

/- Chapter 24's example in memory, and what is told of it. (A program of ours has printed this.) -/
namespace Go.Proofs.YtpdcjjgkpbpleaaGreatDoor
open Go.RowKit

structure Ex24 (W : World) (b0 b1 b2 b3 b4 b5 b6 b7 b8 b9 b10 b11 b12 : Nat) : Prop where
  d0 : W.heap[b0]? = some (.cells #[.int .i64 1, .int .i64 2, .slice none 0 0, .slice none 0 0] 31 (0, 0))
  d1 : W.heap[b1]? = some (.cells #[.int .i64 2, .int .i64 1, .slice none 0 0, .slice (some ⟨b0, 0, none⟩) 1 1] 31 (0, 0))
  d2 : W.heap[b2]? = some (.cells #[.int .i64 3, .int .i64 0, .slice none 0 0, .slice (some ⟨b1, 0, none⟩) 1 1] 31 (0, 0))
  d3 : W.heap[b3]? = some (.cells #[.string ⟨#[67]⟩] 9 (0, 0))
  d4 : W.heap[b4]? = some (.cells #[.string ⟨#[67]⟩, .slice none 0 0, .slice none 0 0, .string ⟨#[68]⟩, .slice (some ⟨b3, 0, none⟩) 1 1, .slice none 0 0] 54 (0, 0))
  d5 : W.heap[b5]? = some (.cells #[.string ⟨#[67]⟩, .string ⟨#[]⟩, .int .i64 0, .slice none 0 0] 39 (0, 0))
  d6 : W.heap[b6]? = some (.cells #[.string ⟨#[68]⟩, .string ⟨#[84]⟩, .int .i64 1, .slice (some ⟨b5, 0, none⟩) 1 1] 56 (0, 0))
  d7 : W.heap[b7]? = some (.cells #[.slice none 0 0, .slice (some ⟨b4, 0, none⟩) 2 2, .slice (some ⟨b6, 0, none⟩) 1 1] 26 (0, 0))
  d8 : W.heap[b8]? = some (.cells #[.string ⟨#[68]⟩, .string ⟨#[]⟩, .int .i64 5, .slice none 0 0] 39 (0, 0))
  d9 : W.heap[b9]? = some (.cells #[.string ⟨#[]⟩, .int .i64 5, .slice none 0 0] 37 (0, 0))
  d10 : W.heap[b10]? = some (.cells #[.int .i64 1, .int .i64 0, .slice none 0 0, .slice none 0 0] 31 (0, 0))
  d11 : W.heap[b11]? = some (.cells #[.int .i64 2, .int .i64 0, .slice none 0 0, .slice (some ⟨b10, 0, none⟩) 1 1] 31 (0, 0))
  d12 : W.heap[b12]? = some (.cells #[.int .i64 3, .int .i64 0, .slice (some ⟨b9, 0, none⟩) 1 1, .slice (some ⟨b11, 0, none⟩) 1 1] 31 (0, 0))
theorem Ex24.ext {W W' : World} {b0 b1 b2 b3 b4 b5 b6 b7 b8 b9 b10 b11 b12 : Nat} (h : Ex24 W b0 b1 b2 b3 b4 b5 b6 b7 b8 b9 b10 b11 b12) (e : Ext W W') : Ex24 W' b0 b1 b2 b3 b4 b5 b6 b7 b8 b9 b10 b11 b12 := ⟨(e.heap (lt_of_obj h.d0)).trans h.d0, (e.heap (lt_of_obj h.d1)).trans h.d1, (e.heap (lt_of_obj h.d2)).trans h.d2, (e.heap (lt_of_obj h.d3)).trans h.d3, (e.heap (lt_of_obj h.d4)).trans h.d4, (e.heap (lt_of_obj h.d5)).trans h.d5, (e.heap (lt_of_obj h.d6)).trans h.d6, (e.heap (lt_of_obj h.d7)).trans h.d7, (e.heap (lt_of_obj h.d8)).trans h.d8, (e.heap (lt_of_obj h.d9)).trans h.d9, (e.heap (lt_of_obj h.d10)).trans h.d10, (e.heap (lt_of_obj h.d11)).trans h.d11, (e.heap (lt_of_obj h.d12)).trans h.d12⟩
theorem all1 {α : Type} {P : α → Prop} {x : α} (h : P x) : ∀ y ∈ [x], P y := fun y hy => by simp at hy; subst hy; exact h
theorem TyIn.v (W : World) : TyIn W exV := TyIn.of (Nat.zero_le _) (by omega) (by decide) (RowOf.nil _ _ _) (by simp)
theorem PfIn.leaf (W : World) (k n : Int) : PfIn W (.mk k n none 0 [] none 0 []) := .mk ⟨Nat.zero_le _, by show 0 ≤ 9223372036854775807; omega, Nat.zero_le _, by show 0 ≤ 9223372036854775807; omega, TysIn.nil _ _, RowOf.nil _ _ _⟩ (by intro k hk; cases hk)
theorem PfIn.one {W : World} {x : Pf} {b : Nat} (k n : Int) (d : W.heap[b]? = some (.cells x.cells.toArray 31 (0, 0))) (hx : PfIn W x) : PfIn W (.mk k n none 0 [] (some ⟨b, 0, none⟩) 1 [x]) :=
  .mk ⟨Nat.zero_le _, by show 0 ≤ 9223372036854775807; omega, Nat.le_refl _, by show 1 ≤ 9223372036854775807; omega, TysIn.nil _ _, RowOf.block pfC [x] (by simpa [pfC] using d)⟩ (all1 hx)
theorem PfIn.oneT {W : World} {x : Pf} {b c : Nat} {t : Ty} (k n : Int) (d : W.heap[b]? = some (.cells x.cells.toArray 31 (0, 0))) (hx : PfIn W x) (dt : W.heap[c]? = some (.cells t.cells.toArray 37 (0, 0))) (ht : TyIn W t) : PfIn W (.mk k n (some ⟨c, 0, none⟩) 1 [t] (some ⟨b, 0, none⟩) 1 [x]) :=
  .mk ⟨Nat.le_refl _, by show 1 ≤ 9223372036854775807; omega, Nat.le_refl _, by show 1 ≤ 9223372036854775807; omega, ⟨RowOf.block tyC [t] (by simpa [tyC] using dt), all1 ht⟩, RowOf.block pfC [x] (by simpa [pfC] using d)⟩ (all1 hx)
section
variable {W : World} {b0 b1 b2 b3 b4 b5 b6 b7 b8 b9 b10 b11 b12 : Nat}
theorem Ex24.p (h : Ex24 W b0 b1 b2 b3 b4 b5 b6 b7 b8 b9 b10 b11 b12) : PfIn W (exP24 b1 b0) := PfIn.one 3 0 h.d1 (PfIn.one 2 1 h.d0 (PfIn.leaf W 1 2))
theorem Ex24.q (h : Ex24 W b0 b1 b2 b3 b4 b5 b6 b7 b8 b9 b10 b11 b12) : PfIn W (exQ24 b9 b11 b10) := PfIn.oneT 3 0 h.d11 (PfIn.one 2 0 h.d10 (PfIn.leaf W 1 0)) h.d9 (TyIn.v W)
theorem Ex24.g (h : Ex24 W b0 b1 b2 b3 b4 b5 b6 b7 b8 b9 b10 b11 b12) : PdsIn W (some ⟨b8, 0, none⟩) exD24 := ⟨RowOf.block pdC exD24 h.d8, all1 ⟨by show 1 ≤ 1000000000000000000; omega, TyIn.v W⟩⟩
theorem Ex24.e (h : Ex24 W b0 b1 b2 b3 b4 b5 b6 b7 b8 b9 b10 b11 b12) : EnIn W (exE24 b3 b4 b5 b6) := by
  have hS : Strs W (some ⟨b3, 0, none⟩) [[67]] := strs_iff.2 (RowOf.block strC [[67]] h.d3)
  have hK : KlsIn W (some ⟨b4, 0, none⟩) (exC24 b3) := ⟨RowOf.block klC (exC24 b3) h.d4, fun x hx => by
    simp only [exC24, List.mem_cons, List.not_mem_nil, or_false] at hx
    rcases hx with rfl | rfl
    · exact ⟨by show 1 ≤ 1000000000000000000; omega, Nat.le_refl _, by show 0 ≤ 9223372036854775807; omega, strs_iff.2 (RowOf.nil _ _ _), by simp, Nat.le_refl _, by show 0 ≤ 9223372036854775807; omega, MesIn.nil _ _⟩
    · exact ⟨by show 1 ≤ 1000000000000000000; omega, Nat.le_refl _, by show 1 ≤ 9223372036854775807; omega, hS, all1 (by show 1 ≤ 1000000000000000000; omega), Nat.le_refl _, by show 0 ≤ 9223372036854775807; omega, MesIn.nil _ _⟩⟩
  have hP : PdsIn W (some ⟨b5, 0, none⟩) [⟨[67], Ty.zero⟩] := ⟨RowOf.block pdC [⟨[67], Ty.zero⟩] h.d5, all1 ⟨by show 1 ≤ 1000000000000000000; omega, TyIn.zero _⟩⟩
  have hI : InsIn W (some ⟨b6, 0, none⟩) (exI24 b5) := ⟨RowOf.block inC (exI24 b5) h.d6, all1 ⟨by show 1 ≤ 1000000000000000000; omega, by show 1 ≤ 1000000000000000000; omega, Nat.le_refl _, by show 1 ≤ 9223372036854775807; omega, hP⟩⟩
  exact ⟨Nat.le_refl _, by show 0 ≤ 9223372036854775807; omega, DasIn.nil _ _, Nat.le_refl _, by show 2 ≤ 9223372036854775807; omega, hK, Nat.le_refl _, by show 1 ≤ 9223372036854775807; omega, hI⟩
end

def HGl (w : World) : Prop := w.cell? ⟨0, 0, none⟩ = some (.iface 143 (.agg #[.pointer (some ⟨2, 67, none⟩)]))
theorem HGl.ext {w w' : World} (h : HGl w) (e : Ext w w') : HGl w' := by
  have hlt : 0 < w.heap.size := by
    cases e0 : w.heap[0]? with
    | none => unfold HGl at h; simp [World.cell?, e0] at h
    | some o => exact lt_of_obj e0
  exact (World.cell?_of_block (a := ⟨0, 0, none⟩) (e.heap hlt)).trans h
/-- What is told of Q. -/
def YesT (t : Ty) : Prop := t.pure = (Ty.mk [84] 0 none 0 [exV]).pure
theorem YesT.text {t : Ty} (h : YesT t) : legalT t = true ∧ textT t = [84, 32, 102] ∧ TextC t := by
  obtain ⟨A, c, A1, c1, rfl⟩ := exT_inv h
  have hl : legalT (.mk [84] 0 A c [.mk [] 5 A1 c1 []]) = true := (legal_pure h).trans (exT_legal none 0)
  have s0 : (Ty.mk [] 5 A1 c1 []).size = 1 := by rw [Ty.size_eq]; rfl
  have s1 : (Ty.mk [84] 0 A c [.mk [] 5 A1 c1 []]).size = 2 := by rw [Ty.size_eq]; show ([Ty.mk [] 5 A1 c1 []].map Ty.size).sum + 1 = 2; simp [s0]
  have o0 : okI (.mk [] 5 A1 c1 []) = true := okI_mk (by omega) (by omega) (by show 0 ≤ 140737488351232; omega) (by simp)
  have o1 : okI (.mk [84] 0 A c [.mk [] 5 A1 c1 []]) = true := okI_mk (by omega) (by omega) (by show 1 ≤ 140737488351232; omega) (all1 o0)
  have t0 : textT (.mk [] 5 A1 c1 []) = [102] := by
    rw [textT_else (by rintro ⟨h, -⟩; cases h)]
    show headT _ ++ restT [] = _
    rfl
  refine ⟨hl, exT_text A c A1 c1, t_text_con _ (by rintro h; cases h) o1 (by omega) (by rw [exT_text]; show 3 ≤ 100000000000000; omega) (all1 (t_text_con _ (by rintro h; cases h) o0 (by omega) (by rw [t0]; show 1 ≤ 100000000000000; omega) (by intro k hk; cases hk)))⟩
/-- The text of an instance of one super. -/
theorem text_of {p : Pf} {ts ss us : List Ty.Pure} (c a b : Nat) (hc : c ≤ 1000) (ha : a ≤ 1000) (hb : b ≤ 1000) (h : p.pure = .mk 3 c ts [.mk 2 a ss [.mk 1 b us []]]) (hd : (digs b).length ≤ 1000 ∧ (digs a).length ≤ 1000) :
    TextPC p (([64] : Str) ++ digs c ++ ([40] : Str) ++ ((([35] : Str) ++ digs b) ++ ([46] : Str) ++ digs a) ++ ([41] : Str)) := by
  obtain ⟨k1, n1, x, e1, hx⟩ := one_kid h
  obtain ⟨k2, n2, y, e2, hy⟩ := one_kid hx
  obtain ⟨k3, n3, e3⟩ := no_kid hy
  have T1 := f_text_given y b (by rw [k3]; rfl) n3 (by omega)
  have T2 := f_text_super x a y _ (by rw [k2]; rfl) (by rw [k2]; rfl) n2 (by omega) e2 (by simp only [List.length_append, List.length_cons, List.length_nil]; omega) T1
  exact f_text_inst1 p c x _ (by rw [k1]; rfl) (by rw [k1]; rfl) (by rw [k1]; rfl) n1 (by omega) e1 (by simp only [List.length_append, List.length_cons, List.length_nil]; omega) T2
theorem exS_pure (n : Int) (b : Nat) (g : Int) : (exS n b g).pure = .mk 2 n [] [.mk 1 g [] []] := by
  rw [Pf.pure_eq]
  show Pf.Pure.mk 2 n [] [(exG g).pure] = _
  rw [Pf.pure_eq]
  rfl
theorem exP_pure (b1 b0 : Nat) : (exP24 b1 b0).pure = .mk 3 0 [] [.mk 2 1 [] [.mk 1 2 [] []]] := by
  rw [Pf.pure_eq]
  show Pf.Pure.mk 3 0 [] [(exS 1 b0 2).pure] = _
  rw [exS_pure]
theorem dg0 : digs 0 = [48] := by kernel_rfl
theorem dg1 : digs 1 = [49] := by kernel_rfl
theorem dg2 : digs 2 = [50] := by kernel_rfl
theorem dg7 : digs 7 = [55] := by kernel_rfl
theorem exP_text (b1 b0 : Nat) : TextPC (exP24 b1 b0) [64, 48, 40, 35, 50, 46, 49, 41] := by
  have h := text_of 0 1 2 (by omega) (by omega) (by omega) (exP_pure b1 b0) (by rw [dg1, dg2]; decide)
  rw [dg0, dg1, dg2] at h
  exact h
theorem exU_text {u : Pf} {ts : List Ty.Pure} (h : u.pure = .mk 3 0 ts [.mk 2 0 [] [.mk 1 7 [] []]]) : TextPC u [64, 48, 40, 35, 55, 46, 48, 41] := by
  have h := text_of 0 0 7 (by omega) (by omega) (by omega) h (by rw [dg0, dg7]; decide)
  rw [dg0, dg7] at h
  exact h
theorem exP_uses (b1 b0 : Nat) : UsesPC (exP24 b1 b0) 2 := f_uses_one _ (exS 1 b0 2) 2 (by rfl) rfl (f_uses_one _ (exG 2) 2 (by rfl) rfl (f_uses_given (exG 2) (by rfl) rfl))
theorem exG_wide (n : Int) : wideF (exG n) = true := by rw [wideF_eq]; rfl
theorem exG_size (n : Int) : (exG n).size = 1 := by rw [Pf.size_eq]; rfl
theorem exQ_wide (b9 b11 b10 : Nat) : wideF (exQ24 b9 b11 b10) = true := by
  have h1 : wideF (exS 0 b10 0) = true := by
    rw [wideF_eq]
    show (true && true && ([exG 0].all wideF)) = true
    simp [exG_wide]
  have h2 : wideT exV = true := by rw [wideT_eq]; rfl
  rw [wideF_eq]
  show (decide (1 ≤ 3000000000000) && [exV].all wideT && [exS 0 b10 0].all wideF) = true
  simp [h1, h2]
theorem exQ_size (b9 b11 b10 : Nat) : (exQ24 b9 b11 b10).size = 3 := by
  have h1 : (exS 0 b10 0).size = 2 := by rw [Pf.size_eq]; show ([exG 0].map Pf.size).sum + 1 = 2; simp [exG_size]
  rw [Pf.size_eq]
  show ([exS 0 b10 0].map Pf.size).sum + 1 = 3
  simp [h1]
section
variable {W : World} {b0 b1 b2 b3 b4 b5 b6 b7 b8 b9 b10 b11 b12 : Nat}
theorem Ex24.yes (h : Ex24 W b0 b1 b2 b3 b4 b5 b6 b7 b8 b9 b10 b11 b12) (hgl : HGl W) : Calls Tryz.prog 8 #[.agg #[.slice none 0 0, .slice (some ⟨b4, 0, none⟩) 2 2, .slice (some ⟨b6, 0, none⟩) 1 1], .slice (some ⟨b8, 0, none⟩) 1 1, .agg #[.int .i64 3, .int .i64 0, .slice (some ⟨b9, 0, none⟩) 1 1, .slice (some ⟨b11, 0, none⟩) 1 1]] W fun e w' => (∃ b, e = .returned (.tuple #[pdV b, .int .i64 0]) ∧ PdIn w' b ∧ b.cls = [68] ∧ YesT b.ty) ∧ Ext W w' := by
  refine (p_proves (exE24 b3 b4 b5 b6) (some ⟨b8, 0, none⟩) 1 exD24 (exQ24 b9 b11 b10) W h.e h.g h.q hgl).mono ?_
  rintro e w' ⟨⟨b, n, rfl, hb⟩, hx⟩
  obtain ⟨rfl, h1, h2⟩ := hb.yes _ (exQ_prv b3 b5 b9 b11 b10)
  exact ⟨⟨b, rfl, hb.inn, h1, h2.trans (by rw [Ty.pure_eq, Ty.pure_eq (.mk [84] 0 none 0 [exV])]; rfl)⟩, hx⟩
theorem Ex24.no (h : Ex24 W b0 b1 b2 b3 b4 b5 b6 b7 b8 b9 b10 b11 b12) (hgl : HGl W) : Calls Tryz.prog 8 #[.agg #[.slice none 0 0, .slice (some ⟨b4, 0, none⟩) 2 2, .slice (some ⟨b6, 0, none⟩) 1 1], .slice (some ⟨b8, 0, none⟩) 1 1, .agg #[.int .i64 3, .int .i64 0, .slice none 0 0, .slice (some ⟨b1, 0, none⟩) 1 1]] W fun e w' => e = .returned (.tuple #[.agg #[.string ⟨#[]⟩, .string ⟨#[]⟩, .int .i64 0, .slice none 0 0], .int .i64 1]) ∧ Ext W w' := by
  refine (p_proves (exE24 b3 b4 b5 b6) (some ⟨b8, 0, none⟩) 1 exD24 (exP24 b1 b0) W h.e h.g h.p hgl).mono ?_
  rintro e w' ⟨⟨b, n, rfl, hb⟩, hx⟩
  obtain ⟨rfl, rfl⟩ := hb.no (exP_prv b3 b5 b1 b0)
  exact ⟨rfl, hx⟩
theorem Ex24.put {W' : World} {g : Nat} (h : Ex24 W' b0 b1 b2 b3 b4 b5 b6 b7 b8 b9 b10 b11 b12) (hg : W'.heap[g]? = some (.cells #[.int .i64 1, .int .i64 7, .slice none 0 0, .slice none 0 0] 31 (0, 0))) : Calls Tryz.prog 15 #[.agg #[.int .i64 3, .int .i64 0, .slice (some ⟨b9, 0, none⟩) 1 1, .slice (some ⟨b11, 0, none⟩) 1 1], .slice (some ⟨g, 0, none⟩) 1 1] W' fun e w' => (∃ u, e = .returned (.tuple #[pfV u, .int .i64 0]) ∧ PfIn w' u ∧ TextPC u [64, 48, 40, 35, 55, 46, 48, 41]) ∧ Ext W' w' := by
  obtain ⟨k1, k2⟩ := exQ_put b9 b11 b10
  refine (f_Put (some ⟨g, 0, none⟩) 1 [exG 7] (by decide) (all1 ⟨exG_wide 7, by rw [exG_size]; omega⟩) (exQ24 b9 b11 b10) W' ⟨RowOf.block pfC [exG 7] hg, all1 (PfIn.leaf W' 1 7)⟩ h.q (exQ_wide ..) (by rw [exQ_size]; omega) (by rw [k2]; omega)).mono ?_
  rintro e w' ⟨⟨u, n, rfl, hu⟩, hx⟩
  obtain ⟨rfl, hc⟩ := hu.yes _ k1 (by rw [k2]; omega)
  exact ⟨⟨u, rfl, hc.inn, exU_text hc.is⟩, hx⟩
theorem Ex24.txt (h : Ex24 W b0 b1 b2 b3 b4 b5 b6 b7 b8 b9 b10 b11 b12) : Calls Tryz.prog 16 #[.agg #[.int .i64 3, .int .i64 0, .slice none 0 0, .slice (some ⟨b1, 0, none⟩) 1 1]] W fun e w' => e = .returned (.string ⟨#[64, 48, 40, 35, 50, 46, 49, 41]⟩) ∧ Ext W w' := exP_text b1 b0 W h.p
theorem Ex24.siz (h : Ex24 W b0 b1 b2 b3 b4 b5 b6 b7 b8 b9 b10 b11 b12) : Calls Tryz.prog 18 #[.agg #[.int .i64 3, .int .i64 0, .slice none 0 0, .slice (some ⟨b1, 0, none⟩) 1 1]] W fun e w' => e = .returned (.int .i64 3) ∧ Ext W w' := by
  have := f_size24 (exP24 b1 b0) W h.p (by rw [exP_size]; omega)
  rw [exP_size] at this
  exact this
theorem Ex24.eqv (h : Ex24 W b0 b1 b2 b3 b4 b5 b6 b7 b8 b9 b10 b11 b12) : Calls Tryz.prog 19 #[.agg #[.int .i64 3, .int .i64 0, .slice none 0 0, .slice (some ⟨b1, 0, none⟩) 1 1], .agg #[.int .i64 3, .int .i64 0, .slice none 0 0, .slice (some ⟨b1, 0, none⟩) 1 1]] W fun e w' => e = .returned (.bool true) ∧ Ext W w' := f_sameF_eq (exP24 b1 b0) (exP24 b1 b0) W h.p h.p rfl
theorem Ex24.neq (_h : Ex24 W b0 b1 b2 b3 b4 b5 b6 b7 b8 b9 b10 b11 b12) : Calls Tryz.prog 19 #[.agg #[.int .i64 3, .int .i64 0, .slice none 0 0, .slice (some ⟨b1, 0, none⟩) 1 1], .agg #[.int .i64 3, .int .i64 0, .slice (some ⟨b9, 0, none⟩) 1 1, .slice (some ⟨b11, 0, none⟩) 1 1]] W fun e w' => e = .returned (.bool false) ∧ Ext W w' := f_sameF_ne (exP24 b1 b0) (exQ24 b9 b11 b10) W (by rfl) (by rfl) (by show ¬ (0 = 1); omega)
theorem Ex24.use (h : Ex24 W b0 b1 b2 b3 b4 b5 b6 b7 b8 b9 b10 b11 b12) : Calls Tryz.prog 21 #[.agg #[.int .i64 3, .int .i64 0, .slice none 0 0, .slice (some ⟨b1, 0, none⟩) 1 1]] W fun e w' => (∃ g cap, e = .returned (.slice (some ⟨g, 0, none⟩) 1 cap) ∧ Ints w' (some ⟨g, 0, none⟩) [2]) ∧ Ext W w' := f_Uses (exP24 b1 b0) 2 (exP_uses b1 b0) W h.p
theorem Ex24.cp (h : Ex24 W b0 b1 b2 b3 b4 b5 b6 b7 b8 b9 b10 b11 b12) : b2 < W.heap.size ∧ W.cell? ⟨b2, 0, none⟩ = some (.int .i64 3) ∧ W.cell? ⟨b2, 1, none⟩ = some (.int .i64 0) ∧ W.cell? ⟨b2, 2, none⟩ = some (.slice none 0 0) ∧ W.cell? ⟨b2, 3, none⟩ = some (.slice (some ⟨b1, 0, none⟩) 1 1) := ⟨lt_of_obj h.d2, bytes_block h.d2 0, bytes_block h.d2 1, bytes_block h.d2 2, bytes_block h.d2 3⟩
theorem Ex24.ce (h : Ex24 W b0 b1 b2 b3 b4 b5 b6 b7 b8 b9 b10 b11 b12) : b7 < W.heap.size ∧ W.cell? ⟨b7, 0, none⟩ = some (.slice none 0 0) ∧ W.cell? ⟨b7, 1, none⟩ = some (.slice (some ⟨b4, 0, none⟩) 2 2) ∧ W.cell? ⟨b7, 2, none⟩ = some (.slice (some ⟨b6, 0, none⟩) 1 1) := ⟨lt_of_obj h.d7, bytes_block h.d7 0, bytes_block h.d7 1, bytes_block h.d7 2⟩
theorem Ex24.cq (h : Ex24 W b0 b1 b2 b3 b4 b5 b6 b7 b8 b9 b10 b11 b12) : b12 < W.heap.size ∧ W.cell? ⟨b12, 0, none⟩ = some (.int .i64 3) ∧ W.cell? ⟨b12, 1, none⟩ = some (.int .i64 0) ∧ W.cell? ⟨b12, 2, none⟩ = some (.slice (some ⟨b9, 0, none⟩) 1 1) ∧ W.cell? ⟨b12, 3, none⟩ = some (.slice (some ⟨b11, 0, none⟩) 1 1) := ⟨lt_of_obj h.d12, bytes_block h.d12 0, bytes_block h.d12 1, bytes_block h.d12 2, bytes_block h.d12 3⟩
end

end Go.Proofs.YtpdcjjgkpbpleaaGreatDoor

/- Contract: chapter 24's example. (A program of ours has printed this.) -/
namespace Go.Proofs.YtpdcjjgkpbpleaaGreatDoor
open Go.RowKit

set_option maxRecDepth 10000 in
set_option maxHeartbeats 4000000 in
theorem l_awake24 (w : World) (hgl : HGl w) : Calls Tryz.prog 7 #[] w fun e w' => e = .returned (.bool true) ∧ Ext w w' := by
  obtain ⟨W, hW⟩ : ∃ W, W = (((((((((((((w.alloc (.cells #[.int .i64 1, .int .i64 2, .slice none 0 0, .slice none 0 0] 31)).alloc (.cells #[.int .i64 2, .int .i64 1, .slice none 0 0, .slice (some ⟨w.heap.size, 0, none⟩) 1 1] 31)).alloc (.cells #[.int .i64 3, .int .i64 0, .slice none 0 0, .slice (some ⟨w.heap.size + 1, 0, none⟩) 1 1] 31)).alloc (.cells #[.string ⟨#[67]⟩] 9)).alloc (.cells #[.string ⟨#[67]⟩, .slice none 0 0, .slice none 0 0, .string ⟨#[68]⟩, .slice (some ⟨w.heap.size + 1 + 1 + 1, 0, none⟩) 1 1, .slice none 0 0] 54)).alloc (.cells #[.string ⟨#[67]⟩, .string ⟨#[]⟩, .int .i64 0, .slice none 0 0] 39)).alloc (.cells #[.string ⟨#[68]⟩, .string ⟨#[84]⟩, .int .i64 1, .slice (some ⟨w.heap.size + 1 + 1 + 1 + 1 + 1, 0, none⟩) 1 1] 56)).alloc (.cells #[.slice none 0 0, .slice (some ⟨w.heap.size + 1 + 1 + 1 + 1, 0, none⟩) 2 2, .slice (some ⟨w.heap.size + 1 + 1 + 1 + 1 + 1 + 1, 0, none⟩) 1 1] 26)).alloc (.cells #[.string ⟨#[68]⟩, .string ⟨#[]⟩, .int .i64 5, .slice none 0 0] 39)).alloc (.cells #[.string ⟨#[]⟩, .int .i64 5, .slice none 0 0] 37)).alloc (.cells #[.int .i64 1, .int .i64 0, .slice none 0 0, .slice none 0 0] 31)).alloc (.cells #[.int .i64 2, .int .i64 0, .slice none 0 0, .slice (some ⟨w.heap.size + 1 + 1 + 1 + 1 + 1 + 1 + 1 + 1 + 1 + 1, 0, none⟩) 1 1] 31)).alloc (.cells #[.int .i64 3, .int .i64 0, .slice (some ⟨w.heap.size + 1 + 1 + 1 + 1 + 1 + 1 + 1 + 1 + 1, 0, none⟩) 1 1, .slice (some ⟨w.heap.size + 1 + 1 + 1 + 1 + 1 + 1 + 1 + 1 + 1 + 1 + 1, 0, none⟩) 1 1] 31)) := ⟨_, rfl⟩
  have HW := hide hW.symm
  have X0 : Hid (Ext w W) := hide (by rw [hW]; exact ((((((((((((((Ext.refl _).alloc _).alloc _).alloc _).alloc _).alloc _).alloc _).alloc _).alloc _).alloc _).alloc _).alloc _).alloc _).alloc _))
  have b0 : W.heap[w.heap.size]? = some (.cells #[.int .i64 1, .int .i64 2, .slice none 0 0, .slice none 0 0] 31 (0, 0)) := by rw [hW]; exact (Ext.heap (((((((((((((Ext.refl _).alloc _).alloc _).alloc _).alloc _).alloc _).alloc _).alloc _).alloc _).alloc _).alloc _).alloc _).alloc _) (by simp)).trans (at_newB _ _ _ (by simp))
  have b1 : W.heap[w.heap.size + 1]? = some (.cells #[.int .i64 2, .int .i64 1, .slice none 0 0, .slice (some ⟨w.heap.size, 0, none⟩) 1 1] 31 (0, 0)) := by rw [hW]; exact (Ext.heap ((((((((((((Ext.refl _).alloc _).alloc _).alloc _).alloc _).alloc _).alloc _).alloc _).alloc _).alloc _).alloc _).alloc _) (by simp)).trans (at_newB _ _ _ (by simp))
  have b2 : W.heap[w.heap.size + 1 + 1]? = some (.cells #[.int .i64 3, .int .i64 0, .slice none 0 0, .slice (some ⟨w.heap.size + 1, 0, none⟩) 1 1] 31 (0, 0)) := by rw [hW]; exact (Ext.heap (((((((((((Ext.refl _).alloc _).alloc _).alloc _).alloc _).alloc _).alloc _).alloc _).alloc _).alloc _).alloc _) (by simp)).trans (at_newB _ _ _ (by simp))
  have b3 : W.heap[w.heap.size + 1 + 1 + 1]? = some (.cells #[.string ⟨#[67]⟩] 9 (0, 0)) := by rw [hW]; exact (Ext.heap ((((((((((Ext.refl _).alloc _).alloc _).alloc _).alloc _).alloc _).alloc _).alloc _).alloc _).alloc _) (by simp)).trans (at_newB _ _ _ (by simp))
  have b4 : W.heap[w.heap.size + 1 + 1 + 1 + 1]? = some (.cells #[.string ⟨#[67]⟩, .slice none 0 0, .slice none 0 0, .string ⟨#[68]⟩, .slice (some ⟨w.heap.size + 1 + 1 + 1, 0, none⟩) 1 1, .slice none 0 0] 54 (0, 0)) := by rw [hW]; exact (Ext.heap (((((((((Ext.refl _).alloc _).alloc _).alloc _).alloc _).alloc _).alloc _).alloc _).alloc _) (by simp)).trans (at_newB _ _ _ (by simp))
  have b5 : W.heap[w.heap.size + 1 + 1 + 1 + 1 + 1]? = some (.cells #[.string ⟨#[67]⟩, .string ⟨#[]⟩, .int .i64 0, .slice none 0 0] 39 (0, 0)) := by rw [hW]; exact (Ext.heap ((((((((Ext.refl _).alloc _).alloc _).alloc _).alloc _).alloc _).alloc _).alloc _) (by simp)).trans (at_newB _ _ _ (by simp))
  have b6 : W.heap[w.heap.size + 1 + 1 + 1 + 1 + 1 + 1]? = some (.cells #[.string ⟨#[68]⟩, .string ⟨#[84]⟩, .int .i64 1, .slice (some ⟨w.heap.size + 1 + 1 + 1 + 1 + 1, 0, none⟩) 1 1] 56 (0, 0)) := by rw [hW]; exact (Ext.heap (((((((Ext.refl _).alloc _).alloc _).alloc _).alloc _).alloc _).alloc _) (by simp)).trans (at_newB _ _ _ (by simp))
  have b7 : W.heap[w.heap.size + 1 + 1 + 1 + 1 + 1 + 1 + 1]? = some (.cells #[.slice none 0 0, .slice (some ⟨w.heap.size + 1 + 1 + 1 + 1, 0, none⟩) 2 2, .slice (some ⟨w.heap.size + 1 + 1 + 1 + 1 + 1 + 1, 0, none⟩) 1 1] 26 (0, 0)) := by rw [hW]; exact (Ext.heap ((((((Ext.refl _).alloc _).alloc _).alloc _).alloc _).alloc _) (by simp)).trans (at_newB _ _ _ (by simp))
  have b8 : W.heap[w.heap.size + 1 + 1 + 1 + 1 + 1 + 1 + 1 + 1]? = some (.cells #[.string ⟨#[68]⟩, .string ⟨#[]⟩, .int .i64 5, .slice none 0 0] 39 (0, 0)) := by rw [hW]; exact (Ext.heap (((((Ext.refl _).alloc _).alloc _).alloc _).alloc _) (by simp)).trans (at_newB _ _ _ (by simp))
  have b9 : W.heap[w.heap.size + 1 + 1 + 1 + 1 + 1 + 1 + 1 + 1 + 1]? = some (.cells #[.string ⟨#[]⟩, .int .i64 5, .slice none 0 0] 37 (0, 0)) := by rw [hW]; exact (Ext.heap ((((Ext.refl _).alloc _).alloc _).alloc _) (by simp)).trans (at_newB _ _ _ (by simp))
  have b10 : W.heap[w.heap.size + 1 + 1 + 1 + 1 + 1 + 1 + 1 + 1 + 1 + 1]? = some (.cells #[.int .i64 1, .int .i64 0, .slice none 0 0, .slice none 0 0] 31 (0, 0)) := by rw [hW]; exact (Ext.heap (((Ext.refl _).alloc _).alloc _) (by simp)).trans (at_newB _ _ _ (by simp))
  have b11 : W.heap[w.heap.size + 1 + 1 + 1 + 1 + 1 + 1 + 1 + 1 + 1 + 1 + 1]? = some (.cells #[.int .i64 2, .int .i64 0, .slice none 0 0, .slice (some ⟨w.heap.size + 1 + 1 + 1 + 1 + 1 + 1 + 1 + 1 + 1 + 1, 0, none⟩) 1 1] 31 (0, 0)) := by rw [hW]; exact (Ext.heap ((Ext.refl _).alloc _) (by simp)).trans (at_newB _ _ _ (by simp))
  have b12 : W.heap[w.heap.size + 1 + 1 + 1 + 1 + 1 + 1 + 1 + 1 + 1 + 1 + 1 + 1]? = some (.cells #[.int .i64 3, .int .i64 0, .slice (some ⟨w.heap.size + 1 + 1 + 1 + 1 + 1 + 1 + 1 + 1 + 1, 0, none⟩) 1 1, .slice (some ⟨w.heap.size + 1 + 1 + 1 + 1 + 1 + 1 + 1 + 1 + 1 + 1 + 1, 0, none⟩) 1 1] 31 (0, 0)) := by rw [hW]; exact at_newB _ _ _ (by simp)
  have HX0 : Hid (Ex24 W (w.heap.size) (w.heap.size + 1) (w.heap.size + 1 + 1) (w.heap.size + 1 + 1 + 1) (w.heap.size + 1 + 1 + 1 + 1) (w.heap.size + 1 + 1 + 1 + 1 + 1) (w.heap.size + 1 + 1 + 1 + 1 + 1 + 1) (w.heap.size + 1 + 1 + 1 + 1 + 1 + 1 + 1) (w.heap.size + 1 + 1 + 1 + 1 + 1 + 1 + 1 + 1) (w.heap.size + 1 + 1 + 1 + 1 + 1 + 1 + 1 + 1 + 1) (w.heap.size + 1 + 1 + 1 + 1 + 1 + 1 + 1 + 1 + 1 + 1) (w.heap.size + 1 + 1 + 1 + 1 + 1 + 1 + 1 + 1 + 1 + 1 + 1) (w.heap.size + 1 + 1 + 1 + 1 + 1 + 1 + 1 + 1 + 1 + 1 + 1 + 1)) := hide ⟨b0, b1, b2, b3, b4, b5, b6, b7, b8, b9, b10, b11, b12⟩
  clear b0 b1 b2 b3 b4 b5 b6 b7 b8 b9 b10 b11 b12 hW
  have HX := hide (fun w' (e : Ext W w') => HX0.out.ext e)
  have HG := hide (fun w' (e : Ext W w') => hgl.ext (X0.out.trans e))
  clear HX0 hgl
  go_enter Tryz.func7, Tryz.ntmps7
  go_upto_region 5 with fail
  rw [HW.out]
  clear HW
  obtain ⟨le, e0, e1, e2⟩ := (HX.out _ (Ext.refl W)).ce
  obtain ⟨lq, q0, q1, q2, q3⟩ := (HX.out _ (Ext.refl W)).cq
  go_wp2_with fail
  refine ((HX.out _ (Ext.refl W)).yes (HG.out _ (Ext.refl W))).mono ?_
  rintro e v1 ⟨⟨b, rfl, hb, hb1, hb2⟩, hx⟩
  have Y1 := hide hx
  have Hb := hide hb
  have Hb1 := hide hb1
  have Hb2 := hide hb2
  unfold pdV
  clear hb hb1 hb2 hx le e0 e1 e2 lq q0 q1 q2 q3
  go_upto_region 6 with fail
  refine wp_named ?_
  intro W1 hW1
  have B1 : Hid (PdBox W1 v1.heap.size b) := hide (by rw [hW1]; exact PdBox.new v1 b)
  have Z1 : Hid (Ext v1 W1) := hide (by rw [hW1]; exact (Ext.refl _).alloc _)
  have X1 : Hid (Ext W W1) := hide (Y1.out.trans Z1.out)
  clear hW1
  obtain ⟨le, e0, e1, e2⟩ := (HX.out _ X1.out).ce
  obtain ⟨lp, p0, p1, p2, p3⟩ := (HX.out _ X1.out).cp
  go_wp2_with fail
  refine ((HX.out _ X1.out).no (HG.out _ X1.out)).mono ?_
  rintro e v2 ⟨rfl, hx⟩
  have Y2 := hide hx
  clear hx le e0 e1 e2 lp p0 p1 p2 p3
  go_upto_region 7 with fail
  refine wp_named ?_
  intro W2 hW2
  have Z2 : Hid (Ext v2 W2) := hide (by rw [hW2]; exact (Ext.refl _).alloc _)
  have V2 : Hid (Ext W1 W2) := hide (Y2.out.trans Z2.out)
  have X2 : Hid (Ext W W2) := hide (X1.out.trans V2.out)
  clear hW2 Y2 Z2
  obtain ⟨lq, q0, q1, q2, q3⟩ := (HX.out _ X2.out).cq
  go_wp2_with fail
  refine ((HX.out (W2.alloc (.cells #[.int .i64 1, .int .i64 7, .slice none 0 0, .slice none 0 0] 31)) (X2.out.alloc _)).put (g := W2.heap.size) (at_newB _ _ _ rfl)).mono ?_
  rintro e v3 ⟨⟨u, rfl, hu, hu1⟩, hx⟩
  have Y3 : Hid (Ext W2 v3) := hide (((Ext.refl _).alloc _).trans hx)
  have Hu := hide hu
  have Hu1 := hide hu1
  unfold pfV
  clear hu hu1 hx lq q0 q1 q2 q3
  go_upto_region 8 with fail
  refine wp_named ?_
  intro W3 hW3
  have B3 : Hid (FBox W3 v3.heap.size u) := hide (by rw [hW3]; exact FBox.new v3 u)
  have Z3 : Hid (Ext v3 W3) := hide (by rw [hW3]; exact (Ext.refl _).alloc _)
  have V3 : Hid (Ext W1 W3) := hide (V2.out.trans (Y3.out.trans Z3.out))
  have X3 : Hid (Ext W W3) := hide (X1.out.trans V3.out)
  have Hb3 : Hid (∀ w', Ext W3 w' → PdBox w' v1.heap.size b ∧ PdIn w' b) := hide (fun w' e => ⟨B1.out.ext (V3.out.trans e), Hb.out.ext (Z1.out.trans (V3.out.trans e))⟩)
  have Hu3 : Hid (∀ w', Ext W3 w' → FBox w' v3.heap.size u ∧ PfIn w' u) := hide (fun w' e => ⟨B3.out.ext e, Hu.out.ext (Z3.out.trans e)⟩)
  clear hW3 B1 Hb Z1 Y1 B3 Hu Z3 Y3 V2 V3 X1 X2
  have HE := hide (fun w' (e : Ext W3 w') => HX.out w' (X3.out.trans e))
  have HT : Hid (∀ w', Ext W3 w' → Hid (Calls Tryz.prog 17 #[tyV b.ty] w' fun e y => e = .returned (encStr [84, 32, 102]) ∧ Ext w' y)) := hide (fun w' e => hide (by
    obtain ⟨t1, t2, t3⟩ := Hb2.out.text
    have := t_Text b.ty w' (Hb3.out w' e).2.ty t1 t3
    rw [t2] at this
    exact this))
  unfold tyV encStr at HT
  clear HX HG Hb2
  have X4 : Hid (Ext W3 W3) := hide (Ext.refl _)
  obtain ⟨lb, c0, c1, c2, c3⟩ : v1.heap.size < W3.heap.size ∧ _ := ⟨(Hb3.out _ X4.out).1.lt, (Hb3.out _ X4.out).1.cells⟩
  rw [Hb1.out] at c0
  unfold encStr at c0 c1
  obtain ⟨lp, p0, p1, p2, p3⟩ := (HE.out _ X4.out).cp
  go_wp2_with fail
  refine ((HE.out _ X4.out).txt).mono ?_
  rintro e v4 ⟨rfl, hx⟩
  have X5 : Hid (Ext W3 v4) := hide (X4.out.trans hx)
  clear hx
  clear lp p0 p1 p2 p3 lb c0 c1 c2 c3
  obtain ⟨lb, c0, c1, c2, c3⟩ : v1.heap.size < v4.heap.size ∧ _ := ⟨(Hb3.out _ X5.out).1.lt, (Hb3.out _ X5.out).1.cells⟩
  rw [Hb1.out] at c0
  unfold encStr at c0 c1
  go_wp2_with fail
  refine ((HT.out _ X5.out).out).mono ?_
  rintro e v5 ⟨rfl, hx⟩
  have X6 : Hid (Ext W3 v5) := hide (X5.out.trans hx)
  clear hx
  clear lb c0 c1 c2 c3
  obtain ⟨lu, u0, u1, u2, u3⟩ : v3.heap.size < v5.heap.size ∧ _ := ⟨(Hu3.out _ X6.out).1.lt, (Hu3.out _ X6.out).1.cells⟩
  go_wp2_with fail
  refine (Hu1.out _ (Hu3.out _ X6.out).2).mono ?_
  rintro e v6 ⟨rfl, hx⟩
  have X7 : Hid (Ext W3 v6) := hide (X6.out.trans hx)
  clear hx
  unfold encStr
  clear lu u0 u1 u2 u3
  obtain ⟨lp, p0, p1, p2, p3⟩ := (HE.out _ X7.out).cp
  go_wp2_with fail
  refine ((HE.out _ X7.out).siz).mono ?_
  rintro e v7 ⟨rfl, hx⟩
  have X8 : Hid (Ext W3 v7) := hide (X7.out.trans hx)
  clear hx
  clear lp p0 p1 p2 p3
  obtain ⟨lp, p0, p1, p2, p3⟩ := (HE.out _ X8.out).cp
  go_wp2_with fail
  refine ((HE.out _ X8.out).eqv).mono ?_
  rintro e v8 ⟨rfl, hx⟩
  have X9 : Hid (Ext W3 v8) := hide (X8.out.trans hx)
  clear hx
  clear lp p0 p1 p2 p3
  obtain ⟨lp, p0, p1, p2, p3⟩ := (HE.out _ X9.out).cp
  obtain ⟨lq, q0, q1, q2, q3⟩ := (HE.out _ X9.out).cq
  go_wp2_with fail
  refine ((HE.out _ X9.out).neq).mono ?_
  rintro e v9 ⟨rfl, hx⟩
  have X10 : Hid (Ext W3 v9) := hide (X9.out.trans hx)
  clear hx
  clear lp p0 p1 p2 p3 lq q0 q1 q2 q3
  obtain ⟨lp, p0, p1, p2, p3⟩ := (HE.out _ X10.out).cp
  go_wp2_with fail
  refine ((HE.out _ X10.out).use).mono ?_
  rintro e v10 ⟨⟨g, cap, rfl, hi⟩, hx⟩
  have X11 : Hid (Ext W3 v10) := hide (X10.out.trans hx)
  clear hx
  clear lp p0 p1 p2 p3
  have HI := hide hi
  clear hi
  go_wp2_with fail
  refine (ref_ints (some ⟨g, 0, none⟩) (some ⟨v10.heap.size, 0, none⟩) cap 1 [2] [2] (v10.alloc (.cells #[.int .i64 2] 3)) (RowOf.ext intC HI.out ((Ext.refl _).alloc _)) (RowOf.block intC [2] (at_newB _ _ _ rfl)) (by show 1 ≤ 9223372036854775807; omega)).mono ?_
  rintro e v11 ⟨rfl, hx⟩
  rw [show decide (([2] : List Int) = [2]) = true from by decide]
  go_wp2
  go_ret
  exact ⟨rfl, X0.out.trans (X3.out.trans ((X11.out.alloc _).trans hx))⟩

end Go.Proofs.YtpdcjjgkpbpleaaGreatDoor

/- Contract: a type with others in the place of variables; of the reference. -/
namespace Go.Proofs.YtpdcjjgkpbpleaaGreatDoor
open Go.RowKit

theorem Row.ty3 {w : World} {b : Nat} {t : TypeId} {fr : Nat × Nat} (x0 x1 x2 : Value) (h : w.heap[b]? = some (.cells #[x0, x1, x2] t fr)) : Row w (some ⟨b, 0, none⟩) 3 1 [x0, x1, x2] := by
  refine ⟨rfl, fun _ => ⟨b, 0, rfl, lt_of_obj h, fun j u hu => ?_⟩⟩
  rw [Nat.zero_add]
  simp only [World.cell?, h]
  simpa using hu
theorem flat_snoc (us : List Ty) (u : Ty) : (us ++ [u]).flatMap tyC.f = us.flatMap tyC.f ++ [encStr u.con, .int .i64 u.var, .slice u.A u.args.length u.cap] := by
  rw [List.flatMap_append, List.flatMap_cons, List.flatMap_nil, List.append_nil]
  rfl
theorem ty_info3 : (Tryz.prog.info? 37).map (fun i => (i.zero, i.size, i.bytes)) = some (some (.agg #[.string ⟨#[]⟩, .int .i64 0, .slice none 0 0]), 3, 48) := by kernel_rfl


end Go.Proofs.YtpdcjjgkpbpleaaGreatDoor

/- Contracts: are predicates, classes, instances, data not too great or too many; what is declared. -/
namespace Go.Proofs.YtpdcjjgkpbpleaaGreatDoor
open Go.RowKit

set_option maxRecDepth 10000 in
set_option maxHeartbeats 4000000 in
theorem l_few20 (A : Option Addr) (cap : Nat) (l : List Pd) (w : World) (h : PdsIn w A l) : Calls Tryz.prog 5 #[.slice A l.length cap] w fun e w' => (∃ r : Int, e = .returned (.int .i64 r) ∧ (r = 0 ∨ (r = 1 ∧ l.length ≤ 30 ∧ psz l ≤ 20000))) ∧ Ext w w' := by
  obtain ⟨i1, hj, hy0, hy1, hy2⟩ := info_parts ty_info3
  have HP : Hid (tsizes (l.map Pd.ty) = psz l) := hide (by unfold tsizes psz; simp [Function.comp_def])
  have H := hide h
  clear h
  by_cases hn : (30 : Int) < (l.length : Int)
  · go_enter Tryz.func5, Tryz.ntmps5
    go_wp2
    go_ret
    exact ⟨⟨0, rfl, .inl rfl⟩, Ext.refl _⟩
  have hn' : (l.length : Int) ≤ 30 := by omega
  go_enter Tryz.func5, Tryz.ntmps5
  go_wp2
  go_loopw [3, 4] (fun v i wr => ∃ k : Nat, k ≤ l.length ∧ i = .int .i64 k ∧ Hid (Ext w wr) ∧ Hid (wr.ownsRow w.heap.size 37 3 v ((l.take k).map Pd.ty).length (((l.take k).map Pd.ty).flatMap tyC.f))) (fun _ i _ => l.length - (intOf i).toNat)
  case atStart => exact ⟨0, Nat.zero_le _, rfl, hide (Ext.refl _), hide (World.ownsRow_nil _ _ _ _)⟩
  case round =>
    obtain ⟨k, hk, rfl, HX, HO⟩ := hrel
    by_cases hlt : k < l.length
    · have hlt' : (k : Int) < (l.length : Int) := by omega
      have hk0 : (0 : Int) ≤ (k : Int) := by omega
      obtain ⟨b, o, rfl, hb, q0, q1, q2, q3⟩ := (H.out.ext HX.out).at_ hlt
      have Htk : Hid ((l.take (k + 1)).map Pd.ty = (l.take k).map Pd.ty ++ [(l[k]'hlt).ty]) := hide (by rw [List.take_succ_eq_append_getElem hlt, List.map_append]; rfl)
      have hLk : ((l.take k).map Pd.ty).length ≤ 30 := by simp; omega
      generalize l[k]'hlt = x at *
      generalize (l.take k).map Pd.ty = L at *
      obtain ⟨A6, c6, rfl, -, -, -, -⟩ := RowOf.own tyC (l := L) HO.out
      have hszB := HX.out.size
      go_wp2_with (at_builtin; refine wpList_append_row _ rfl _ _ 28 rfl w.heap.size 37 i1 _ 3 48 Tryz.underlying28 hj hy0 hy1 hy2 rfl (by decide) (.slice A6 L.length c6) L.length (L.flatMap tyC.f) rfl (HO.out.alloc _) _ 1 1 [encStr x.ty.con, .int .i64 x.ty.var, .slice x.ty.A x.ty.args.length x.ty.cap] rfl ?c2 ?c3 ?c4 ?c5 ?c6 ?_)
      case c2 => exact Row.ty3 _ _ _ (at_newB _ _ _ rfl)
      case c3 =>
        intro y hy
        simp at hy
        rcases hy with rfl | rfl | rfl <;> rfl
      case c4 => unfold maxLen; omega
      case c5 => omega
      case c6 => simp; omega
      intro v4 w4 hown4 hg4 hat4
      have X4 := hide (Ext.app (HX.out.alloc _) hg4 (HO.out.alloc _) (Nat.le_refl _))
      have O4 : Hid (w4.ownsRow w.heap.size 37 3 v4 ((l.take (k + 1)).map Pd.ty).length (((l.take (k + 1)).map Pd.ty).flatMap tyC.f)) := hide (by rw [Htk.out, flat_snoc, List.length_append]; exact hown4)
      clear hown4 hg4 hat4
      go_wp2
      go_roundw
      case rel => exact ⟨k + 1, hlt, by go_num, X4, O4⟩
      case measure => simp [intOf]; omega
    · have hge : ¬ (k : Int) < (l.length : Int) := by omega
      have HO2 : Hid (wr.ownsRow w.heap.size 37 3 u3 (l.map Pd.ty).length ((l.map Pd.ty).flatMap tyC.f)) := hide (by have := HO.out; rwa [List.take_of_length_le (by omega)] at this)
      have hL : (l.map Pd.ty).length ≤ 30 := by simp; omega
      have hTs : ∀ t ∈ l.map Pd.ty, TyIn wr t := by
        intro t ht
        obtain ⟨p, hp, rfl⟩ := List.mem_map.1 ht
        exact (H.out.all p hp).ty.ext HX.out
      have hln : l.length ≤ 30 := by omega
      have HR0 : Hid (∀ r : Int, (r = 0 ∨ (r = 1 ∧ tsizes (l.map Pd.ty) ≤ 20000)) → (r = 0 ∨ (r = 1 ∧ l.length ≤ 30 ∧ psz l ≤ 20000))) := hide (by
        rintro r (rfl | ⟨rfl, h⟩)
        · exact .inl rfl
        · exact .inr ⟨rfl, hln, by rw [← HP.out]; exact h⟩)
      generalize l.map Pd.ty = L at *
      obtain ⟨A6, c6, rfl, d1, d2, d3, -⟩ := RowOf.own tyC (l := L) HO2.out
      have HF := hide (l_few16 A6 c6 L wr ⟨d3, hTs⟩ (by omega))
      clear hTs d3
      go_wp2_with fail
      refine HF.out.mono ?_
      rintro e w5 ⟨⟨r, rfl, hr⟩, hx⟩
      have HR := hide (HR0.out r (hr.imp id (fun h => ⟨h.1, h.2.1⟩)))
      clear hr
      go_wp2
      go_ret
      exact ⟨⟨r, rfl, HR.out⟩, HX.out.trans hx⟩

set_option maxRecDepth 10000 in
set_option maxHeartbeats 4000000 in
theorem l_few23 (A : Option Addr) (cap : Nat) (l : List InD) (w : World) (h : InsIn w A l) : Calls Tryz.prog 12 #[.slice A l.length cap] w fun e w' => (∃ r : Int, e = .returned (.int .i64 r) ∧ (r = 0 ∨ (r = 1 ∧ l.length ≤ 12 ∧ ∀ x ∈ l, x.preds.length ≤ 30 ∧ psz x.preds ≤ 20000 ∧ x.n ≤ 200))) ∧ Ext w w' := by
  have H := hide h
  clear h
  by_cases hn : (12 : Int) < (l.length : Int)
  · go_enter Tryz.func12, Tryz.ntmps12
    go_wp2
    go_ret
    exact ⟨⟨0, rfl, .inl rfl⟩, Ext.refl _⟩
  have hn' : (l.length : Int) ≤ 12 := by omega
  go_enter Tryz.func12, Tryz.ntmps12
  go_wp2
  go_loopw [3] (fun i wr => ∃ k : Nat, k ≤ l.length ∧ i = .int .i64 k ∧ Hid (Ext w wr) ∧ Hid (∀ j (h : j < l.length), j < k → (l[j]'h).preds.length ≤ 30 ∧ psz (l[j]'h).preds ≤ 20000 ∧ (l[j]'h).n ≤ 200)) (fun i _ => l.length - (intOf i).toNat)
  case atStart => exact ⟨0, Nat.zero_le _, rfl, hide (Ext.refl _), hide (fun j _ hj => absurd hj (by omega))⟩
  case round =>
    obtain ⟨k, hk, rfl, HX, HJ⟩ := hrel
    by_cases hlt : k < l.length
    · have hlt' : (k : Int) < (l.length : Int) := by omega
      have hk0 : (0 : Int) ≤ (k : Int) := by omega
      obtain ⟨b, o, rfl, hb, q0, q1, q2, q3⟩ := (H.out.ext HX.out).at_ hlt
      have HF := hide (l_few20 (l[k]'hlt).A (l[k]'hlt).cap (l[k]'hlt).preds wr ((H.out.all _ (List.getElem_mem hlt)).row.ext HX.out))
      have HS : Hid ((l[k]'hlt).preds.length ≤ 30 → psz (l[k]'hlt).preds ≤ 20000 → (l[k]'hlt).n ≤ 200 → ∀ j (h : j < l.length), j < k + 1 → (l[j]'h).preds.length ≤ 30 ∧ psz (l[j]'h).preds ≤ 20000 ∧ (l[j]'h).n ≤ 200) := hide (fun h1 h2 h3 j hj hjk => by
        by_cases e : j = k
        · subst e; exact ⟨h1, h2, h3⟩
        · exact HJ.out j hj (by omega))
      generalize l[k]'hlt = x at *
      go_wp2_with fail
      refine HF.out.mono ?_
      rintro e w2 ⟨⟨r, rfl, hr⟩, hx⟩
      have X2 := hide (HX.out.trans hx)
      have q2' := hx.cell q2
      have hb2 : b < w2.heap.size := by have := hx.size; omega
      rcases hr with rfl | ⟨rfl, h1, h2⟩
      · go_wp2
        go_ret
        exact ⟨⟨0, rfl, .inl rfl⟩, X2.out⟩
      · have h1' := hide h1
        have h2' := hide h2
        clear hx h1 h2
        by_cases h3 : (200 : Int) < x.n
        · go_wp2
          go_ret
          exact ⟨⟨0, rfl, .inl rfl⟩, X2.out⟩
        · have h3' : x.n ≤ 200 := by omega
          go_wp2
          go_roundw
          case rel => exact ⟨k + 1, hlt, by go_num, X2, hide (HS.out h1'.out h2'.out h3')⟩
          case measure => simp [intOf]; omega
    · have hge : ¬ (k : Int) < (l.length : Int) := by omega
      have HA : Hid (l.length ≤ 12 ∧ ∀ x ∈ l, x.preds.length ≤ 30 ∧ psz x.preds ≤ 20000 ∧ x.n ≤ 200) := hide ⟨by omega, fun x hx => by
        obtain ⟨i, hi, rfl⟩ := List.getElem_of_mem hx
        exact HJ.out i hi (by omega)⟩
      go_wp2
      go_ret
      exact ⟨⟨1, rfl, .inr ⟨rfl, HA.out⟩⟩, HX.out⟩

set_option maxRecDepth 10000 in
set_option maxHeartbeats 2000000 in
theorem k_few22 (A : Option Addr) (cap : Nat) (l : List KlD) (w : World) (h : KlsIn w A l) : Calls Tryz.prog 11 #[.slice A l.length cap] w fun e w' => (∃ r : Int, e = .returned (.int .i64 r) ∧ (r = 0 ∨ (r = 1 ∧ l.length ≤ 9 ∧ ∀ x ∈ l, x.sups.length ≤ 9))) ∧ Ext w w' := by
  have H := hide h
  clear h
  by_cases hn : (9 : Int) < (l.length : Int)
  · go_enter Tryz.func11, Tryz.ntmps11
    go_wp2
    go_ret
    exact ⟨⟨0, rfl, .inl rfl⟩, Ext.refl _⟩
  have hn' : (l.length : Int) ≤ 9 := by omega
  go_enter Tryz.func11, Tryz.ntmps11
  go_wp2
  go_loopw [3] (fun i wr => ∃ k : Nat, k ≤ l.length ∧ i = .int .i64 k ∧ Hid (Ext w wr) ∧ Hid (∀ j (h : j < l.length), j < k → (l[j]'h).sups.length ≤ 9)) (fun i _ => l.length - (intOf i).toNat)
  case atStart => exact ⟨0, Nat.zero_le _, rfl, hide (Ext.refl _), hide (fun j _ hj => absurd hj (by omega))⟩
  case round =>
    obtain ⟨k, hk, rfl, HX, HJ⟩ := hrel
    by_cases hlt : k < l.length
    · have hlt' : (k : Int) < (l.length : Int) := by omega
      have hk0 : (0 : Int) ≤ (k : Int) := by omega
      obtain ⟨b, o, rfl, hb, q0, q1, q2⟩ := (H.out.ext HX.out).at_ hlt
      have HS : Hid ((l[k]'hlt).sups.length ≤ 9 → ∀ j (h : j < l.length), j < k + 1 → (l[j]'h).sups.length ≤ 9) := hide (fun h1 j hj hjk => by
        by_cases e : j = k
        · subst e; exact h1
        · exact HJ.out j hj (by omega))
      generalize l[k]'hlt = x at *
      by_cases h3 : (9 : Int) < (x.sups.length : Int)
      · go_wp2
        go_ret
        exact ⟨⟨0, rfl, .inl rfl⟩, HX.out⟩
      · have h3' : (x.sups.length : Int) ≤ 9 := by omega
        go_wp2
        go_roundw
        case rel => exact ⟨k + 1, hlt, by go_num, HX, hide (HS.out (by omega))⟩
        case measure => simp [intOf]; omega
    · have hge : ¬ (k : Int) < (l.length : Int) := by omega
      have HA : Hid (l.length ≤ 9 ∧ ∀ x ∈ l, x.sups.length ≤ 9) := hide ⟨by omega, fun x hx => by
        obtain ⟨i, hi, rfl⟩ := List.getElem_of_mem hx
        exact HJ.out i hi (by omega)⟩
      go_wp2
      go_ret
      exact ⟨⟨1, rfl, .inr ⟨rfl, HA.out⟩⟩, HX.out⟩


/-- Classes and instances that are not too many. -/
structure FewE (x : EnD) : Prop where
  cls : x.classes.length ≤ 9
  sups : ∀ c ∈ x.classes, c.sups.length ≤ 9
  ins : x.insts.length ≤ 12
  pds : ∀ i ∈ x.insts, i.preds.length ≤ 30 ∧ psz i.preds ≤ 20000 ∧ i.n ≤ 200

set_option maxRecDepth 10000 in
set_option maxHeartbeats 2000000 in
theorem l_fewenv (x : EnD) (w : World) (h : EnIn w x) : Calls Tryz.prog 4 #[enV x] w fun e w' => (∃ r : Int, e = .returned (.int .i64 r) ∧ (r = 0 ∨ (r = 1 ∧ FewE x))) ∧ Ext w w' := by
  obtain ⟨W, hW⟩ : ∃ W, W = w.alloc (.cells #[.slice x.D x.datas.length x.dc, .slice x.C x.classes.length x.cc, .slice x.I x.insts.length x.ic] 26) := ⟨_, rfl⟩
  have HW := hide hW.symm
  have X0 : Hid (Ext w W) := hide (by rw [hW]; exact (Ext.refl _).alloc _)
  have B1 : Hid (EnBox W w.heap.size x) := hide (by rw [hW]; exact EnBox.new w x)
  have HK := hide (k_few22 x.C x.cc x.classes W (h.classes.ext X0.out))
  have HI := hide (fun w' (e : Ext W w') => l_few23 x.I x.ic x.insts w' (h.insts.ext (X0.out.trans e)))
  obtain ⟨c0, c1, c2⟩ := B1.out.cells
  have hb := B1.out.lt
  clear h hW
  unfold enV
  go_enter Tryz.func4, Tryz.ntmps4
  go_upto_region 1 with fail
  rw [HW.out]
  go_wp2_with fail
  refine HK.out.mono ?_
  rintro e w2 ⟨⟨r, rfl, hr⟩, hx⟩
  have X2 := hide (X0.out.trans hx)
  rcases hr with rfl | ⟨rfl, h1, h2⟩
  · go_wp2
    go_ret
    exact ⟨⟨0, rfl, .inl rfl⟩, X2.out⟩
  · have H1 := hide h1
    have H2 := hide h2
    have HI2 := hide (HI.out w2 hx)
    have d2 := hx.cell c2
    have hb2 : w.heap.size < w2.heap.size := by have := hx.size; omega
    clear h1 h2 hx
    go_wp2_with fail
    refine HI2.out.mono ?_
    rintro e w3 ⟨⟨r, rfl, hr⟩, hx3⟩
    have X3 := hide (X2.out.trans hx3)
    rcases hr with rfl | ⟨rfl, h3, h4⟩
    · go_wp2
      go_ret
      exact ⟨⟨0, rfl, .inl rfl⟩, X3.out⟩
    · have H3 := hide h3
      have H4 := hide h4
      clear h3 h4
      go_wp2
      go_ret
      exact ⟨⟨1, rfl, .inr ⟨rfl, H1.out, H2.out, H3.out, H4.out⟩⟩, X3.out⟩

end Go.Proofs.YtpdcjjgkpbpleaaGreatDoor

/- Contract: whether two types are the same, of the reference. -/
namespace Go.Proofs.YtpdcjjgkpbpleaaGreatDoor
open Go.RowKit

set_option maxRecDepth 10000 in
set_option maxHeartbeats 2000000 in
theorem r_same16 (a : Ty) : ∀ (b : Ty) (w : World), TyIn w a → TyIn w b → Calls Tryz.prog 27 #[tyV a, tyV b] w fun e w' => e = .returned (.bool (sameB a b)) ∧ Ext w w' := by
  induction a using Ty.ind with
  | h a ih =>
  intro b w ha hb
  have IH := hide ih
  have HKa := hide ha.all
  have HKb := hide hb.all
  have hla := ha.le
  have hma := ha.max
  have hlb := hb.le
  have hmb := hb.max
  obtain ⟨W, hW⟩ : ∃ W, W = (w.alloc (.cells #[encStr a.con, .int .i64 a.var, .slice a.A a.args.length a.cap] 37)).alloc (.cells #[encStr b.con, .int .i64 b.var, .slice b.A b.args.length b.cap] 37) := ⟨_, rfl⟩
  have X0 : Hid (Ext w W) := hide (by rw [hW]; exact ((Ext.refl _).alloc _).alloc _)
  have B1 : Hid (TBox W w.heap.size a) := hide (by rw [hW]; exact (TBox.new w a).ext ((Ext.refl _).alloc _))
  have B2 : Hid (TBox W (w.heap.size + 1) b) := hide (by rw [hW]; have := TBox.new (w.alloc (.cells #[encStr a.con, .int .i64 a.var, .slice a.A a.args.length a.cap] 37)) b; rwa [World.size_alloc] at this)
  have HP := hide (sameB_parts a b)
  clear ih ha hb
  unfold tyV at *
  have c0 := B1.out.c0
  have c1 := B1.out.c1
  have c2 := B1.out.c2
  have d0 := B2.out.c0
  have d1 := B2.out.c1
  have d2 := B2.out.c2
  have key : ∀ c, headB a b = c → (c = false → sameB a b = false) := fun c h e => by subst e; rw [HP.out]; unfold headB at h; rw [h]; rfl
  cases hc : (a.con == b.con)
  · have hR : sameB a b = false := key _ (by unfold headB; simp at hc; simp [hc]) rfl
    rw [hR]
    clear hR key HP
    go_enter Tryz.func27, Tryz.ntmps27
    go_wp2
    rw [← hW]
    clear hW
    go_ret
    exact ⟨rfl, X0.out⟩
  cases hv : (a.var == b.var)
  · have hR : sameB a b = false := key _ (by unfold headB; simp at hv; simp [hv]) rfl
    rw [hR]
    clear hR key HP
    go_enter Tryz.func27, Tryz.ntmps27
    go_wp2
    rw [← hW]
    clear hW
    go_ret
    exact ⟨rfl, X0.out⟩
  have hve : a.var = b.var := by simpa using hv
  cases hl : ((a.args.length : Int) == (b.args.length : Int))
  · have hR : sameB a b = false := key _ (by unfold headB; simp at hl; simp [show ¬ a.args.length = b.args.length by omega]) rfl
    rw [hR]
    clear hR key HP
    clear hv
    rw [← hve] at hW d1 ⊢
    clear hve
    go_enter Tryz.func27, Tryz.ntmps27
    go_wp2
    rw [← hW]
    clear hW
    go_ret
    exact ⟨rfl, X0.out⟩
  have HL : Hid (a.args.length = b.args.length) := hide (by simp at hl; omega)
  have HR : Hid (sameB a b = (a.args.zip b.args).all fun p => sameB p.1 p.2) := hide (by rw [HP.out]; simp at hc hv; simp [hc, hv, HL.out])
  clear key hv hl HP
  generalize sameB a b = R at *
  rw [← hve] at hW d1 ⊢
  rw [← HL.out] at hW d2 ⊢
  clear hve
  go_enter Tryz.func27, Tryz.ntmps27
  go_wp2
  rw [← hW]
  clear hW
  have O1 : Hid (∀ p ∈ (a.args.zip b.args).take 0, sameB p.1 p.2 = true) := hide (by simp)
  have X3' := hide (Ext.refl W)
  go_wp2
  go_loopw [5] (fun i wr => ∃ k : Nat, k ≤ a.args.length ∧ i = .int .i64 k ∧ Hid (∀ p ∈ (a.args.zip b.args).take k, sameB p.1 p.2 = true) ∧ Hid (Ext W wr)) (fun i _ => a.args.length - (intOf i).toNat)
  case atStart => exact ⟨0, Nat.zero_le _, rfl, O1, X3'⟩
  case round =>
    obtain ⟨k, hk, rfl, HA, HX⟩ := hrel
    have C1 := B1.out.ext HX.out
    have C2 := B2.out.ext HX.out
    have c0 := C1.c0
    have c1 := C1.c1
    have c2 := C1.c2
    have d0 := C2.c0
    have d1 := C2.c1
    have d2 := C2.c2
    clear C1 C2
    by_cases hlt : k < a.args.length
    · have hltb : k < b.args.length := by rw [← HL.out]; exact hlt
      have hlt' : (k : Int) < (a.args.length : Int) := by omega
      have hltb' : (k : Int) < (b.args.length : Int) := by omega
      have hk0 : (0 : Int) ≤ (k : Int) := by omega
      have XR := hide (HX.out)
      obtain ⟨p, o, hAa, hp, q0, q1, q2⟩ := (HKa.out.ext (X0.out.trans XR.out)).at_ hlt
      obtain ⟨p', o', hAb, hp', r0, r1, r2⟩ := (HKb.out.ext (X0.out.trans XR.out)).at_ hltb
      have HC := hide (fun w' (e : Ext wr w') => hide (IH.out _ (List.getElem_mem hlt) (b.args[k]'hltb) w' ((HKa.out.args _ (List.getElem_mem hlt)).ext (X0.out.trans (XR.out.trans e))) ((HKb.out.args _ (List.getElem_mem hltb)).ext (X0.out.trans (XR.out.trans e)))))
      have Htk : Hid ((a.args.zip b.args).take (k + 1) = (a.args.zip b.args).take k ++ [(a.args[k]'hlt, b.args[k]'hltb)]) := hide (by
        rw [List.take_succ_eq_append_getElem (by rw [List.length_zip]; omega), List.getElem_zip])
      have Hmem : Hid ((a.args[k]'hlt, b.args[k]'hltb) ∈ a.args.zip b.args) := hide (by rw [List.mem_iff_getElem]; exact ⟨k, by rw [List.length_zip]; omega, List.getElem_zip⟩)
      rw [hAa] at c2
      rw [hAb, ← HL.out] at d2
      clear hAa hAb
      have HSa := hide (fun w' (e : Ext wr w') => And.intro (e.cell c2) (And.intro (e.cell d2) (And.intro (e.cell q0) (And.intro (e.cell q1) (And.intro (e.cell q2) (And.intro (e.cell r0) (And.intro (e.cell r1) (e.cell r2))))))))
      generalize a.args[k]'hlt = x at *
      generalize b.args[k]'hltb = y at *
      go_wp2
      go_region_held3 (fun w' => w'.cell? ⟨w.heap.size, 2, none⟩ = some (.slice (some ⟨p, o, none⟩) a.args.length a.cap) ∧ w'.cell? ⟨w.heap.size + 1, 2, none⟩ = some (.slice (some ⟨p', o', none⟩) a.args.length b.cap) ∧ w'.cell? ⟨p, o + k * 3, none⟩ = some (.string ⟨x.con.toArray⟩) ∧ w'.cell? ⟨p, o + k * 3 + 1, none⟩ = some (.int .i64 x.var) ∧ w'.cell? ⟨p, o + k * 3 + 2, none⟩ = some (.slice x.A x.args.length x.cap) ∧ w'.cell? ⟨p', o' + k * 3, none⟩ = some (.string ⟨y.con.toArray⟩) ∧ w'.cell? ⟨p', o' + k * 3 + 1, none⟩ = some (.int .i64 y.var) ∧ w'.cell? ⟨p', o' + k * 3 + 2, none⟩ = some (.slice y.A y.args.length y.cap)) (first | assumption | go_keep) (first
        | (go_at_call 27
           refine Calls.mono (HC.out _ ((Ext.refl _).drew)).out ?_
           rintro e w5 ⟨rfl, hx5⟩
           have X5 := hide (HX.out.trans (((Ext.refl wr).drew).trans hx5))
           have k5 := HSa.out _ (((Ext.refl wr).drew).trans hx5)
           clear hx5))
      clear k5
      cases hs : sameB x y
      · have hR : R = false := by
          rw [HR.out, ← Bool.not_eq_true, List.all_eq_true]
          intro h
          have := h _ Hmem.out
          rw [hs] at this
          cases this
        clear HR
        subst hR
        go_wp2
        go_ret
        exact ⟨rfl, X0.out.trans (X5.out)⟩
      · go_wp2
        go_roundw
        case rel =>
          refine ⟨k + 1, hlt, by go_num, hide (fun p hp => ?_), X5⟩
          rw [Htk.out, List.mem_append, List.mem_singleton] at hp
          rcases hp with hp | rfl
          · exact HA.out p hp
          · exact hs
        case measure => simp [intOf]; omega
    · have hge : ¬ (k : Int) < (a.args.length : Int) := by omega
      have hR : R = true := by
        rw [HR.out, List.all_eq_true]
        intro p hp
        exact HA.out p (by rw [List.take_of_length_le (by rw [List.length_zip]; omega)]; exact hp)
      clear HR
      subst hR
      go_wp2
      go_ret
      exact ⟨rfl, X0.out.trans (HX.out)⟩

end Go.Proofs.YtpdcjjgkpbpleaaGreatDoor
