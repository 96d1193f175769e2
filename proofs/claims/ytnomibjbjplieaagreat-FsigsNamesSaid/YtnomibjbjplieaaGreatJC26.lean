/- Contracts of chapter 33: numbers in a row, a constructor of variables, a type in new memory, a class. -/
import Derived.Test.YtnomibjbjplieaaGreatJC25
/- Contracts of chapter 33: numbers in a row, a constructor of variables, a type in new memory, a class. -/
namespace Go.Proofs.YtnomibjbjplieaaGreat
open Go.RowKit

/-- So many numbers from one on. -/
def rowF (f : Int) (k : Nat) : List Int := (List.range k).map fun i => f + ((i : Nat) : Int)
theorem rowF_succ (f : Int) (k : Nat) : rowF f (k + 1) = rowF f k ++ [f + (k : Int)] := by unfold rowF; rw [List.range_succ, List.map_append]; rfl
theorem rowF_len (f : Int) (k : Nat) : (rowF f k).length = k := by simp [rowF]
theorem rowF_zero (k : Nat) : rowF 0 k = rangeI k := by unfold rowF rangeI; simp
theorem rowF_get {f : Int} {k i : Nat} (h : i < (rowF f k).length) : (rowF f k)[i] = f + (i : Int) := by simp [rowF]

set_option maxRecDepth 10000 in
set_option maxHeartbeats 1000000 in
theorem f_rowN (f : Int) (hf : 0 ≤ f ∧ f ≤ 1) (m : Nat) (w : World) (hm : m ≤ 5000) : Calls Tryz.prog 36 #[.int .i64 f, .int .i64 (m : Int)] w fun e w' => (∃ v, e = .returned v ∧ w'.ownsRow w.heap.size 3 1 v (rowF f m).length ((rowF f m).map (Value.int .i64))) ∧ Ext w w' := by
  obtain ⟨i0, hi, hz0, hz1, hz2⟩ := info_parts int64_info
  have hmx1 : ¬ (m : Int) < 0 := by omega
  have hmx2 : ¬ (0 : Int) > (m : Int) := by omega
  have hmx3 : (0 : Int) ≤ (m : Int) := by omega
  have hmx4 : max (m : Int) 0 = (m : Int) := by omega
  go_enter Tryz.func36, Tryz.ntmps36
  go_wp2
  go_loopw [6, 5, 9] (fun t6 u i wr => ∃ k : Nat, k ≤ m ∧ i = .int .i64 k ∧ Hid (Ext w wr) ∧ Hid (wr.ownsRow w.heap.size 3 1 u k ((rowF f k).map (Value.int .i64)))) (fun _ _ i _ => m - (intOf i).toNat)
  case atStart => exact ⟨0, Nat.zero_le _, rfl, hide (Ext.refl _), hide (World.ownsRow_nil _ _ _ _)⟩
  case round =>
    obtain ⟨k, hk, rfl, HX, HO⟩ := hrel
    by_cases hlt : k < m
    · have hlt' : (k : Int) < (m : Int) := by omega
      have hk0 : (0 : Int) ≤ (k : Int) := by omega
      have Hrk := hide (rowF_succ f k)
      generalize rowF f k = L at *
      go_wp2_with (at_builtin; refine wpList_append_row _ rfl _ _ 29 rfl w.heap.size 3 i0 _ 1 8 Tryz.underlying29 hi hz0 hz1 hz2 rfl (by decide) u5 k (L.map (Value.int .i64)) rfl (HO.out.alloc _) _ 1 1 [.int .i64 (f + (k : Int))] rfl ?c2 ?c3 ?c4 ?c5 ?c6 ?_)
      case c2 => exact Row.boxI _ (at_newB _ _ _ (by simp))
      case c3 => first | rfl | (intro y hy; simp at hy; subst hy; rfl)
      case c4 => unfold maxLen; omega
      case c5 => omega
      case c6 => have := HX.out.size; simp; omega
      intro v4 w4 hown4 hg4 _
      have X4 := hide (Ext.app (HX.out.alloc _) hg4 (HO.out.alloc _) (Nat.le_refl _))
      have O4 : Hid (w4.ownsRow w.heap.size 3 1 v4 (k + 1) ((rowF f (k + 1)).map (Value.int .i64))) := hide (by rw [Hrk.out, List.map_append]; exact hown4)
      clear hown4 hg4
      go_wp2
      go_roundw
      case rel => exact ⟨k + 1, hlt, by go_num, X4, O4⟩
      case measure => simp [intOf]; omega
    · have hge : ¬ (k : Int) < (m : Int) := by omega
      have hkm : k = m := by omega
      have HO2 : Hid (wr.ownsRow w.heap.size 3 1 u5 (rowF f m).length ((rowF f m).map (Value.int .i64))) := hide (by have := HO.out; rw [hkm] at this; rwa [rowF_len])
      clear hkm HO
      go_wp2
      go_ret
      exact ⟨⟨_, rfl, HO2.out⟩, HX.out⟩

/-- A new row of numbers. -/
structure RowOk (w w' : World) (l : List Int) (A : Option Addr) (cap : Nat) : Prop where
  le : l.length ≤ cap
  max : cap ≤ 9223372036854775807
  row : Ints w' A l
  new : ∀ a, A = some a → w.heap.size ≤ a.block ∧ a.block < w'.heap.size
theorem RowOk.of_own {w w' : World} {e : TypeId} {v : Value} {l : List Int} (h : w'.ownsRow w.heap.size e 1 v l.length (l.map (Value.int .i64))) : ∃ A cap, v = .slice A l.length cap ∧ RowOk w w' l A cap := by
  obtain ⟨A, cap, h1, h2, h3, h4, -⟩ := Ints.own h
  refine ⟨A, cap, h1, h2, h3, h4, fun a ha => ?_⟩
  rcases h.2 with ⟨hv, -⟩ | ⟨g, cp, cur, hv, hb, hg, -⟩
  · rw [h1] at hv
    injection hv with e1 e2 e3
    rw [ha] at e1
    cases e1
  · rw [h1] at hv
    injection hv with e1 e2 e3
    rw [ha] at e1
    injection e1 with e1
    subst e1
    exact ⟨hb, lt_of_obj hg⟩
theorem RowOk.ext {w w' w2 : World} {l : List Int} {A : Option Addr} {cap : Nat} (h : RowOk w w' l A cap) (e : Ext w' w2) : RowOk w w2 l A cap := ⟨h.le, h.max, RowOf.ext intC h.row e, fun a ha => by have := h.new a ha; have := e.size; omega⟩

set_option maxRecDepth 10000 in
set_option maxHeartbeats 1000000 in
theorem f_rowM (f : Int) (n : Int) (w : World) (hn : n < 0) : Calls Tryz.prog 36 #[.int .i64 f, .int .i64 n] w fun e w' => e = .returned (.slice none 0 0) ∧ Ext w w' := by
  have hmx2 : (0 : Int) > n := by omega
  have hmx3 : ¬ (0 : Int) ≤ n := by omega
  have hmx4 : max n 0 = 0 := by omega
  go_enter Tryz.func36, Tryz.ntmps36
  go_wp2
  go_loopw [6, 5, 9] (fun t6 u i wr => u = .slice none 0 0 ∧ i = .int .i64 0 ∧ Hid (Ext w wr)) (fun _ _ i _ => 0)
  case atStart => exact ⟨rfl, rfl, hide (Ext.refl _)⟩
  case round =>
    obtain ⟨rfl, rfl, HX⟩ := hrel
    have hge : ¬ (0 : Int) < 0 := by omega
    go_wp2
    go_ret
    exact ⟨rfl, HX.out⟩

theorem f_row (f : Int) (hf : 0 ≤ f ∧ f ≤ 1) (n : Int) (w : World) (hn : n ≤ 5000) : Calls Tryz.prog 36 #[.int .i64 f, .int .i64 n] w fun e w' => (∃ A cap, e = .returned (.slice A (rowF f n.toNat).length cap) ∧ RowOk w w' (rowF f n.toNat) A cap) ∧ Ext w w' := by
  by_cases h : 0 ≤ n
  · obtain ⟨m, rfl⟩ : ∃ m : Nat, n = (m : Int) := ⟨n.toNat, by omega⟩
    refine (f_rowN f hf m w (by omega)).mono ?_
    rintro e w' ⟨⟨v, rfl, ho⟩, hx⟩
    obtain ⟨A, cap, rfl, h1⟩ := RowOk.of_own ho
    exact ⟨⟨A, cap, rfl, h1⟩, hx⟩
  · refine (f_rowM f n w (by omega)).mono ?_
    rintro e w' ⟨rfl, hx⟩
    have e0 : n.toNat = 0 := by omega
    rw [e0]
    exact ⟨⟨none, 0, rfl, Nat.le_refl _, Nat.zero_le _, RowOf.nil _ _ _, by simp⟩, hx⟩

/-- A constructor of variables. -/
def conVars (k : Nat) : List Ty := (List.range k).map fun i => .mk [] ((i : Nat) : Int) none 0 []
theorem conVars_succ (k : Nat) : conVars (k + 1) = conVars k ++ [.mk [] (k : Int) none 0 []] := by unfold conVars; rw [List.range_succ, List.map_append]; rfl
theorem conVars_len (k : Nat) : (conVars k).length = k := by unfold conVars; simp
theorem conVars_in (w : World) (k : Nat) : ∀ t ∈ conVars k, TyIn w t := by
  unfold conVars
  simp only [List.mem_map]
  rintro t ⟨i, -, rfl⟩
  exact varT_in w _
theorem conVars_away (c k : Nat) : ∀ t ∈ conVars k, awayB c t = true := by
  unfold conVars
  simp only [List.mem_map]
  rintro t ⟨i, -, rfl⟩
  exact awayB_mk (fun h => absurd rfl h) (by simp)
def conV (s : Str) (A : Option Addr) (c k : Nat) : Ty := .mk s 0 A c (conVars k)

/-- While it is made. -/
structure OfSt (con : Str) (m : Nat) (A5 : Option Addr) (w wI wr : World) (k : Nat) (A : Option Addr) (c : Nat) : Prop where
  x : Ext w wr
  sz : wI.heap.size ≤ wr.heap.size
  lo : w.heap.size + 2 ≤ wI.heap.size
  nums : Ints wr A5 (rowF 0 m)
  box : wr.heap[w.heap.size + 1]? = some (.cells #[encStr con, .int .i64 0, .slice A k c] 32 (0, 0))
  res : wr.heap[w.heap.size]? = some (.cells #[.string ⟨#[]⟩, .int .i64 0, .slice none 0 0] 32 (0, 0))
  own : wr.ownsRow wI.heap.size 32 3 (.slice A k c) k ((conVars k).flatMap tyC.f)
  na : ∀ a, A5 = some a → a.block < wI.heap.size ∧ a.block ≠ w.heap.size + 1
theorem OfSt.step {con : Str} {m : Nat} {A5 : Option Addr} {w wI wr w1 w2 : World} {k : Nat} {A A' : Option Addr} {c c' : Nat} (h : OfSt con m A5 w wI wr k A c) (e1 : Ext wr w1) (hg : w1.grownBy w2 (Value.slice A k c).ownBlock)
    (ho : w2.ownsRow wI.heap.size 32 3 (.slice A' (k + 1) c') (k + 1) ((conVars (k + 1)).flatMap tyC.f)) :
    OfSt con m A5 w wI (w2.setCell ⟨w.heap.size + 1, 2, none⟩ (.slice A' (k + 1) c')) (k + 1) A' c' := by
  have ho1 := own_extB h.own e1
  have x2 : Ext w w2 := Ext.app (h.x.trans e1) hg ho1 (by have := h.lo; omega)
  have hlow : ∀ b, b < wI.heap.size → (Value.slice A k c).ownBlock ≠ some b := fun b hb e => by have := (ho1.lt b e).1; omega
  have hs1 := e1.size
  have hs2 := hg.size
  have hlo := h.lo
  have hsz := h.sz
  have hx2 : w2.heap[w.heap.size + 1]? = some (.cells #[encStr con, .int .i64 0, .slice A k c] 32 (0, 0)) := (hg.block _ (by omega) (fun e => hlow (w.heap.size + 1) (by omega) e.symm)).trans ((e1.heap (lt_of_obj h.box)).trans h.box)
  have hr2 : w2.heap[w.heap.size]? = some (.cells #[.string ⟨#[]⟩, .int .i64 0, .slice none 0 0] 32 (0, 0)) := (hg.block _ (by omega) (fun e => hlow w.heap.size (by omega) e.symm)).trans ((e1.heap (lt_of_obj h.res)).trans h.res)
  have hn2 : Ints w2 A5 (rowF 0 m) := row_grown (RowOf.ext intC h.nums e1) hg (fun _ a ha e => hlow a.block (h.na a ha).1 e)
  have hset := grown_cell w2 (w.heap.size + 1) 2 (.slice A' (k + 1) c')
  refine ⟨x2.setCell (by simp) _, by simp [World.setCell]; omega, hlo, row_grown hn2 hset (fun _ a ha e => by injection e with e; exact (h.na a ha).2 e.symm), ?_, ?_, ownsRow_setCell_below ho (by show w.heap.size + 1 < _; omega) _, h.na⟩
  · have := blk_setCell hx2 2 (.slice A' (k + 1) c')
    simpa using this
  · exact (hset.block _ (by omega) (by simp)).trans hr2

set_option maxRecDepth 10000 in
set_option maxHeartbeats 4000000 in
theorem f_conv (con : Str) (hc : con.length ≤ 1000000000000000000) (n : Int) (w : World) (hn : n ≤ 4096) :
    Calls Tryz.prog 35 #[encStr con, .int .i64 n] w fun e w' => (∃ A cap, e = .returned (tyV (conV con A cap n.toNat)) ∧ TyIn w' (conV con A cap n.toNat) ∧ ∀ c, c < w.heap.size → awayB c (conV con A cap n.toNat) = true) ∧ Ext w w' := by
  obtain ⟨i1, hj, hy0, hy1, hy2⟩ := info_parts ty_info3
  have HRow := hide (fun w' => f_row 0 (by omega) n w' (by omega))
  obtain ⟨m, hm⟩ : ∃ m : Nat, m = n.toNat := ⟨_, rfl⟩
  have hmle : m ≤ 4096 := by omega
  rw [← hm] at HRow ⊢
  clear hm
  have HLm := hide (rowF_len 0 m)
  have HG := hide (fun i (h : i < (rowF 0 m).length) => rowF_get h)
  unfold tyV conV at *
  simp only [Ty.con, Ty.var, Ty.A, Ty.cap, Ty.args, conVars_len] at *
  go_enter Tryz.func35, Tryz.ntmps35
  go_wp2_with fail
  refine (HRow.out _).mono ?_
  rintro e wI ⟨⟨A5, c5, rfl, hr⟩, hx⟩
  have X1 : Hid (Ext w wI) := hide (by refine Ext.trans ?_ hx; exact (by repeat (first | exact Ext.refl _ | exact Ext.pre (by simp) | exact Ext.alloc (by assumption) _ | refine Ext.alloc ?_ _ |  refine Ext.more ?_ _ _ | refine Ext.drew ?_ | refine Ext.drewN ?_ _)))
  have HOf : Hid (OfSt con m A5 w wI wI 0 none 0) := hide (by
    have hs := hx.size
    simp only [World.size_alloc] at hs
    exact ⟨X1.out, Nat.le_refl _, by omega, hr.row, (hx.heap (by simp)).trans (at_newB _ _ _ (by simp)), (hx.heap (by simp; omega)).trans ((((Ext.refl _).alloc _).heap (by simp)).trans (at_newB _ _ _ (by simp))), World.ownsRow_nil _ _ _ _, fun a ha => by have := hr.new a ha; simp only [World.size_alloc] at this; omega⟩)
  have hle5 := hr.le
  rw [HLm.out] at hle5
  have hmx5 := hr.max
  clear hr hx
  rw [HLm.out]
  go_wp2
  go_loopw [7, 13] (fun t7 i wr => ∃ (k : Nat) (A : Option Addr) (c : Nat), k ≤ m ∧ i = .int .i64 k ∧ Hid (OfSt con m A5 w wI wr k A c)) (fun _ i _ => m - (intOf i).toNat)
  case atStart => exact ⟨0, none, 0, Nat.zero_le _, rfl, HOf⟩
  case round =>
    obtain ⟨k, A, c, hk, rfl, HO⟩ := hrel
    have c0 := bytes_block HO.out.box 0
    have c1 := bytes_block HO.out.box 1
    have c2 := bytes_block HO.out.box 2
    have f2 := free_block HO.out.box 2
    simp only [List.getElem?_toArray, List.getElem?_cons_zero, List.getElem?_cons_succ] at c0 c1 c2
    have hbl := lt_of_obj HO.out.box
    by_cases hlt : k < m
    · have hlt' : (k : Int) < (m : Int) := by omega
      have hk0 : (0 : Int) ≤ (k : Int) := by omega
      obtain ⟨b, o, rfl, hb, q0⟩ := Ints.at_ HO.out.nums (i := k) (by rw [HLm.out]; omega)
      rw [HG.out k (by rw [HLm.out]; omega), Int.zero_add] at q0
      have Hvs := hide (conVars_succ k)
      go_wp2_with (at_builtin; refine wpList_append_row _ rfl _ _ 30 rfl wI.heap.size 32 i1 _ 3 48 Tryz.underlying30 hj hy0 hy1 hy2 rfl (by decide) (.slice A k c) k ((conVars k).flatMap tyC.f) rfl (HO.out.own.alloc _) _ 1 1 [.string ⟨#[]⟩, .int .i64 (k : Int), .slice none 0 0] rfl ?c2 ?c3 ?c4 ?c5 ?c6 ?_)
      case c2 => exact Row.ty3 _ _ _ (at_newB _ _ _ (by simp))
      case c3 => first | rfl | (intro y hy; simp at hy; rcases hy with rfl | rfl | rfl <;> rfl)
      case c4 => unfold maxLen; omega
      case c5 => omega
      case c6 => have := HO.out.sz; simp; omega
      intro v4 w4 hown4 hg4 _
      have hown5 : w4.ownsRow wI.heap.size 32 3 v4 (k + 1) ((conVars (k + 1)).flatMap tyC.f) := by rw [Hvs.out, flat_snoc]; exact hown4
      obtain ⟨A4, c4, rfl, -, -, -, -⟩ := RowOf.own tyC (l := conVars (k + 1)) (by rw [conVars_len]; exact hown5)
      rw [conVars_len] at hown5 hown4 ⊢
      have HO4 := hide (HO.out.step ((Ext.refl _).alloc _) hg4 hown5)
      have g2 : w4.frozen? ⟨w.heap.size + 1, 2, none⟩ = false := by
        have e := hg4.block (w.heap.size + 1) (by simp; omega) (fun e => by have := (HO.out.own.lt _ e.symm).1; have := HO.out.lo; omega)
        have e2 := e.trans ((((Ext.refl wr).alloc _).heap hbl).trans HO.out.box)
        exact free_block e2 2
      have d2 : w4.cell? ⟨w.heap.size + 1, 2, none⟩ = some (.slice A k c) := by
        have e := hg4.block (w.heap.size + 1) (by simp; omega) (fun e => by have := (HO.out.own.lt _ e.symm).1; have := HO.out.lo; omega)
        have e2 := e.trans ((((Ext.refl wr).alloc _).heap hbl).trans HO.out.box)
        exact bytes_block e2 2
      have hb4 : w.heap.size + 1 < w4.heap.size := by have := hg4.size; simp at this; omega
      clear hown4 hg4 hown5
      go_wp2
      go_roundw
      case rel => exact ⟨k + 1, A4, c4, hlt, by go_num, HO4⟩
      case measure => simp [intOf]; omega
    · have hge : ¬ (k : Int) < (m : Int) := by omega
      have hkm : k = m := by omega
      subst hkm
      have r0 := free_block HO.out.res 0
      have r1 := free_block HO.out.res 1
      have r2 := free_block HO.out.res 2
      have s0 := bytes_block HO.out.res 0
      have s1 := bytes_block HO.out.res 1
      have s2 := bytes_block HO.out.res 2
      simp only [List.getElem?_toArray, List.getElem?_cons_zero, List.getElem?_cons_succ] at s0 s1 s2
      have hrl := lt_of_obj HO.out.res
      have HEnd : Hid (TyIn (((wr.setCell ⟨w.heap.size, 0, none⟩ (encStr con)).setCell ⟨w.heap.size, 1, none⟩ (.int .i64 0)).setCell ⟨w.heap.size, 2, none⟩ (.slice A k c)) (.mk con 0 A c (conVars k)) ∧ (∀ b, b < w.heap.size → awayB b (.mk con 0 A c (conVars k)) = true) ∧ Ext w (((wr.setCell ⟨w.heap.size, 0, none⟩ (encStr con)).setCell ⟨w.heap.size, 1, none⟩ (.int .i64 0)).setCell ⟨w.heap.size, 2, none⟩ (.slice A k c))) := hide (by
        have hlo := HO.out.lo
        have ho := ownsRow_setCell_below (ownsRow_setCell_below (ownsRow_setCell_below HO.out.own (a := ⟨w.heap.size, 0, none⟩) (by show w.heap.size < _; omega) (encStr con)) (a := ⟨w.heap.size, 1, none⟩) (by show w.heap.size < _; omega) (.int .i64 0)) (a := ⟨w.heap.size, 2, none⟩) (by show w.heap.size < _; omega) (.slice A k c)
        obtain ⟨A6, c6, e6, h2, h3, h4, h5⟩ := RowOf.own tyC (l := conVars k) (by rw [conVars_len]; exact ho)
        injection e6 with a1 a2 a3
        subst a1 a3
        refine ⟨TyIn.of h2 h3 (by omega) h4 (conVars_in _ _), fun b hb => awayB_mk (fun hne a ha => ?_) (conVars_away b k), (((HO.out.x.setCell (by simp) _).setCell (by simp) _).setCell (by simp) _)⟩
        obtain ⟨b', o', e', hb', -⟩ := h4.2 (by have := List.length_pos_iff.2 hne; exact this)
        have := (h5 b' o' e').1
        rw [ha] at e'
        injection e' with e'
        subst e'
        show b' ≠ b
        omega)
      go_wp2
      refine bodyPost_ret (v := .agg #[encStr con, .int .i64 0, .slice A k c]) ?_ rfl ⟨⟨A, c, rfl, HEnd.out.1, HEnd.out.2.1⟩, HEnd.out.2.2⟩
      have hres := HO.out.res
      have hbb := blk_setCell (blk_setCell (blk_setCell hres 0 (encStr con)) 1 (.int .i64 0)) 2 (.slice A k c)
      have k0 := bytes_block hbb 0
      have k1 := bytes_block hbb 1
      have k2 := bytes_block hbb 2
      simp at k0 k1 k2
      simp [results, Tryz.f35, go_sem, k0, k1, k2]

end Go.Proofs.YtnomibjbjplieaaGreat

/- Contracts of chapter 33: a type in new memory; a class, and how many fields it has. -/
namespace Go.Proofs.YtnomibjbjplieaaGreat
open Go.RowKit

theorem putP_nil (t : Ty) : putP [] [] t = t.pure := by
  induction t using Ty.ind with
  | h t ih =>
  have e : putAt [] [] t.var = none := rfl
  have el : t.args.map (putP [] []) = t.args.map Ty.pure := List.map_congr_left fun k hk => ih k hk
  rw [putP_eq, e, el]
  conv => rhs; rw [Ty.pure_eq]
  split
  · rw [Option.getD_none, Ty.pure_eq]
  · rfl
/-- A result's box, and what is written into it. -/
theorem ty_ret {w W : World} {b : Nat} {u : Ty} (x : Ext w W) (hbw : w.heap.size ≤ b) (hu : TyIn W u) (ha : awayB b u = true) :
    TyIn (((W.setCell ⟨b, 0, none⟩ (encStr u.con)).setCell ⟨b, 1, none⟩ (.int .i64 u.var)).setCell ⟨b, 2, none⟩ (.slice u.A u.args.length u.cap)) u ∧ Ext w (((W.setCell ⟨b, 0, none⟩ (encStr u.con)).setCell ⟨b, 1, none⟩ (.int .i64 u.var)).setCell ⟨b, 2, none⟩ (.slice u.A u.args.length u.cap)) := by
  have hg := put3_grown W b 0 1 2 (encStr u.con) (.int .i64 u.var) (.slice u.A u.args.length u.cap)
  exact ⟨hu.grown hg (fun c e => by injection e with e; subst e; exact ha), x.grown hg (fun c e => by injection e with e; omega)⟩

set_option maxRecDepth 10000 in
set_option maxHeartbeats 1000000 in
theorem f_copied (t : Ty) (w : World) (h : TyIn w t) (hsz : t.size ≤ 100000) :
    Calls Tryz.prog 44 #[tyV t] w fun e w' => (∃ u, e = .returned (tyV u) ∧ TyIn w' u ∧ u.pure = t.pure ∧ ∀ c, c < w.heap.size → awayB c t = true → awayB c u = true) ∧ Ext w w' := by
  obtain ⟨W, hW⟩ : ∃ W, W = (w.alloc (.cells #[encStr t.con, .int .i64 t.var, .slice t.A t.args.length t.cap] 32)).alloc (.cells #[.string ⟨#[]⟩, .int .i64 0, .slice none 0 0] 32) := ⟨_, rfl⟩
  have HW := hide hW.symm
  have X0 : Hid (Ext w W) := hide (by rw [hW]; exact ((Ext.refl _).alloc _).alloc _)
  have B1 : Hid (TBox W w.heap.size t) := hide (by rw [hW]; exact (TBox.new w t).ext ((Ext.refl _).alloc _))
  have B2 : Hid (W.heap[w.heap.size + 1]? = some (.cells #[.string ⟨#[]⟩, .int .i64 0, .slice none 0 0] 32 (0, 0))) := hide (by rw [hW]; exact at_newB _ _ _ (by simp))
  have HP := hide (f_put none none 0 0 [] [] (by simp) t W (h.ext X0.out) (RowOf.nil _ _ _) (TysIn.nil _ _) hsz)
  have HA := hide (away_new h (c := w.heap.size + 1) (by omega))
  have c0 := B1.out.c0
  have c1 := B1.out.c1
  have c2 := B1.out.c2
  clear hW h
  unfold tyV at *
  simp only [List.length_nil] at HP
  go_enter Tryz.func44, Tryz.ntmps44
  go_upto_region 1 with fail
  rw [HW.out]
  clear HW
  go_wp2_with fail
  refine HP.out.mono ?_
  rintro e w2 ⟨⟨u, rfl, hp⟩, hx2⟩
  have B3 := hide ((hx2.heap (lt_of_obj B2.out)).trans B2.out)
  have f0 := free_block B3.out 0
  have f1 := free_block B3.out 1
  have f2 := free_block B3.out 2
  have k0 := bytes_block B3.out 0
  have k1 := bytes_block B3.out 1
  have k2 := bytes_block B3.out 2
  simp only [List.getElem?_toArray, List.getElem?_cons_zero, List.getElem?_cons_succ] at k0 k1 k2
  have hsW := X0.out.size
  have HR := hide (ty_ret (X0.out.trans hx2) (by omega) hp.ty (hp.away _ (lt_of_obj B2.out) HA.out (by simp)))
  have HU := hide (hp.is.trans (putP_nil t))
  have HAw : Hid (∀ c, c < w.heap.size → awayB c t = true → awayB c u = true) := hide (fun c hc ha => hp.away c (by omega) ha (by simp))
  clear hp hx2
  go_wp2
  refine bodyPost_ret (v := .agg #[encStr u.con, .int .i64 u.var, .slice u.A u.args.length u.cap]) ?_ rfl ⟨⟨u, rfl, HR.out.1, HU.out, HAw.out⟩, HR.out.2⟩
  simp [results, Tryz.f44, go_sem, k0, k1, k2]

def KlD.zero : KlD := ⟨[], none, 0, [], none, 0, []⟩
def clF (cs : List KlD) (name : Str) : Option KlD := cs.find? fun c => c.name == name

set_option maxRecDepth 10000 in
set_option maxHeartbeats 2000000 in
theorem f_klass (x : EnD) (name : Str) (w : World) (h : EnIn w x) :
    Calls Tryz.prog 48 #[enV x, encStr name] w fun e w' => e = .returned (.tuple #[klV ((clF x.classes name).getD KlD.zero), .bool (clF x.classes name).isSome]) ∧ Ext w w' := by
  obtain ⟨D, dc, datas, C, cc, cls, I, ic, insts⟩ := x
  obtain ⟨W, hW⟩ : ∃ W, W = (w.alloc (.cells #[.slice D datas.length dc, .slice C cls.length cc, .slice I insts.length ic] 26)).alloc (.cells #[.string ⟨#[]⟩, .slice none 0 0, .slice none 0 0] 64) := ⟨_, rfl⟩
  have HW := hide hW.symm
  have X0 : Hid (Ext w W) := hide (by rw [hW]; exact ((Ext.refl _).alloc _).alloc _)
  have B1 : Hid (EnBox W w.heap.size ⟨D, dc, datas, C, cc, cls, I, ic, insts⟩) := hide (by rw [hW]; exact (EnBox.new w _).ext ((Ext.refl _).alloc _))
  have B2 : Hid (W.heap[w.heap.size + 1]? = some (.cells #[.string ⟨#[]⟩, .slice none 0 0, .slice none 0 0] 64 (0, 0))) := hide (by rw [hW]; exact at_newB _ _ _ (by simp))
  have HC := hide (h.classes.ext X0.out)
  have hle := h.cle
  have hmx := h.cmax
  obtain ⟨c0, c1, c2⟩ := B1.out.cells
  have hbl := B1.out.lt
  clear hW h
  simp only [] at *
  obtain ⟨F, hF⟩ : ∃ F, F = clF cls name := ⟨_, rfl⟩
  rw [← hF]
  have HF : Hid (F = (cls.drop 0).find? fun c => c.name == name) := hide (by rw [hF, List.drop_zero]; rfl)
  clear hF
  unfold enV klV
  go_enter Tryz.func48, Tryz.ntmps48
  go_upto_region 1 with fail
  rw [HW.out]
  clear HW
  go_wp2
  go_loopw [7, 11] (fun t7 i wr => ∃ k : Nat, k ≤ cls.length ∧ i = .int .i64 k ∧ Hid (Ext W wr) ∧ Hid (F = (cls.drop k).find? fun c => c.name == name)) (fun _ i _ => cls.length - (intOf i).toNat)
  case atStart => exact ⟨0, Nat.zero_le _, rfl, hide (Ext.refl _), HF⟩
  case round =>
    obtain ⟨k, hk, rfl, HX, HR⟩ := hrel
    have B3 := hide ((HX.out.heap (lt_of_obj B2.out)).trans B2.out)
    have hb3 := lt_of_obj B3.out
    have f0 := free_block B3.out 0
    have f1 := free_block B3.out 1
    have f2 := free_block B3.out 2
    have k0 := bytes_block B3.out 0
    have k1 := bytes_block B3.out 1
    have k2 := bytes_block B3.out 2
    simp only [List.getElem?_toArray, List.getElem?_cons_zero, List.getElem?_cons_succ] at k0 k1 k2
    by_cases hlt : k < cls.length
    · have hlt' : (k : Int) < (cls.length : Int) := by omega
      have hk0 : (0 : Int) ≤ (k : Int) := by omega
      obtain ⟨b, o, rfl, hb, q0, q1, q2⟩ := (HC.out.ext HX.out).at_ hlt
      have HR2 : Hid (F = if ((cls[k]'hlt).name == name) = true then some (cls[k]'hlt) else (cls.drop (k + 1)).find? fun c => c.name == name) := hide (by
        rw [HR.out, List.drop_eq_getElem_cons hlt, List.find?_cons]
        cases ((cls[k]'hlt).name == name) <;> rfl)
      generalize cls[k]'hlt = c at *
      cases hc : (c.name == name)
      · rw [hc] at HR2
        go_wp2
        go_roundw
        case rel => exact ⟨k + 1, hlt, by go_num, hide (HX.out.trans (by repeat (first | exact Ext.refl _ | exact Ext.pre (by simp) | exact Ext.alloc (by assumption) _ | refine Ext.alloc ?_ _ |  refine Ext.more ?_ _ _ | refine Ext.drew ?_ | refine Ext.drewN ?_ _))), hide (by have := HR2.out; simpa using this)⟩
        case measure => simp [intOf]; omega
      · rw [hc] at HR2
        have hF : F = some c := by have := HR2.out; simpa using this
        clear HR2 HR HF
        subst hF
        go_wp2
        refine bodyPost_ret (v := .tuple #[.agg #[encStr c.name, .slice c.S c.sups.length c.sc, .slice c.A c.meths.length c.cap], .bool true]) ?_ rfl ⟨rfl, ?_⟩
        · simp [results, Tryz.f48, go_sem, k0, k1, k2, hb3]
        · exact (((((X0.out.trans HX.out)).setCell (by simp) _).setCell (by simp) _).setCell (by simp) _).alloc _
    · have hge : ¬ (k : Int) < (cls.length : Int) := by omega
      have hF : F = none := by rw [HR.out, List.drop_eq_nil_of_le (by omega)]; rfl
      clear HR HF
      subst hF
      go_wp2
      refine bodyPost_ret (v := .tuple #[.agg #[.string ⟨#[]⟩, .slice none 0 0, .slice none 0 0], .bool false]) ?_ rfl ⟨rfl, ?_⟩
      · simp [results, Tryz.f48, go_sem, k0, k1, k2]
      · exact ((((X0.out.trans HX.out)).setCell (by simp) _).setCell (by simp) _).setCell (by simp) _

theorem clF_mem {cs : List KlD} {name : Str} {c : KlD} (h : clF cs name = some c) : c ∈ cs := List.mem_of_find?_eq_some h
/-- How many fields. -/
def fieldsN (cs : List KlD) (name : Str) : Int := match clF cs name with
  | none => -1
  | some c => ((c.sups.length + c.meths.length : Nat) : Int)

set_option maxRecDepth 10000 in
set_option maxHeartbeats 1000000 in
theorem f_fields (x : EnD) (name : Str) (w : World) (h : EnIn w x) (hf : ∀ c ∈ x.classes, c.sups.length ≤ 100000 ∧ c.meths.length ≤ 100000) :
    Calls Tryz.prog 26 #[enV x, encStr name] w fun e w' => e = .returned (.int .i64 (fieldsN x.classes name)) ∧ Ext w w' := by
  have X1 : Hid (Ext w (w.alloc (.cells #[.slice x.D x.datas.length x.dc, .slice x.C x.classes.length x.cc, .slice x.I x.insts.length x.ic] 26))) := hide ((Ext.refl _).alloc _)
  have HC := hide (f_klass x name _ (h.ext X1.out))
  obtain ⟨c0, c1, c2⟩ := (EnBox.new w x).cells
  have HM := hide (fun c (e : clF x.classes name = some c) => hf c (clF_mem e))
  have HN : Hid (fieldsN x.classes name = match clF x.classes name with | none => -1 | some c => ((c.sups.length + c.meths.length : Nat) : Int)) := hide rfl
  generalize clF x.classes name = F at *
  generalize fieldsN x.classes name = N at *
  clear h hf
  unfold enV klV at *
  go_enter Tryz.func26, Tryz.ntmps26
  go_wp2_with fail
  refine HC.out.mono ?_
  rintro e w2 ⟨rfl, hx⟩
  have X2 := hide hx
  clear hx HC
  cases F with
  | none =>
    have hN : N = -1 := HN.out
    clear HN
    subst hN
    simp only [Option.getD_none, Option.isSome_none]
    go_wp2
    go_ret
    exact ⟨rfl, (X1.out.trans X2.out).alloc _⟩
  | some c =>
    have hN : N = ((c.sups.length + c.meths.length : Nat) : Int) := HN.out
    have hM := HM.out c rfl
    clear HN HM
    subst hN
    simp only [Option.getD_some, Option.isSome_some]
    go_wp2
    go_ret
    exact ⟨by go_num, (X1.out.trans X2.out).alloc _⟩

end Go.Proofs.YtnomibjbjplieaaGreat

/- Contracts of chapter 28's lookups: who has a constructor, who has a method; of the program. -/
namespace Go.Proofs.YtnomibjbjplieaaGreat
open Go.RowKit

theorem findIdx_step {α : Type} (l : List α) (p : α → Bool) {j : Nat} (h : j < l.length) : ((l.drop j).findIdx? p).map (· + j) = if p (l[j]'h) = true then some j else ((l.drop (j + 1)).findIdx? p).map (· + (j + 1)) := by
  rw [List.drop_eq_getElem_cons h, List.findIdx?_cons]
  cases p (l[j]'h)
  · simp only [Bool.false_eq_true, if_false, Option.map_map]
    congr 1
    funext a
    simp only [Function.comp]
    omega
  · simp
theorem findIdx_end {α : Type} (l : List α) (p : α → Bool) {j : Nat} (h : ¬ j < l.length) : ((l.drop j).findIdx? p).map (· + j) = none := by
  rw [List.drop_eq_nil_of_le (by omega)]
  rfl

/-- Who has a constructor. -/
def conIx (s : Str) (d : DaD) : Option Nat := d.cons.findIdx? fun c => c.name == s
def conF (s : Str) : List DaD → Option (DaD × Nat)
  | [] => none
  | d :: l => match conIx s d with
    | some k => some (d, k)
    | none => conF s l
def DaD.zero : DaD := ⟨[], 0, none, 0, []⟩
def conD (F : Option (DaD × Nat)) : DaD := (F.map Prod.fst).getD DaD.zero
def conK (F : Option (DaD × Nat)) : Nat := (F.map Prod.snd).getD 0
theorem conF_step (s : Str) (l : List DaD) {k : Nat} (h : k < l.length) : conF s (l.drop k) = match conIx s (l[k]'h) with | some j => some (l[k]'h, j) | none => conF s (l.drop (k + 1)) := by
  rw [List.drop_eq_getElem_cons h]
  rfl

set_option maxRecDepth 10000 in
set_option maxHeartbeats 4000000 in
theorem t_con (D : Option Addr) (dc : Nat) (datas : List DaD) (name : Str) (w : World) (h : DasIn w D datas) (hle : datas.length ≤ dc) (hmx : dc ≤ 9223372036854775807) :
    Calls Tryz.prog 43 #[.slice D datas.length dc, encStr name] w fun e w' => e = .returned (.tuple #[daV (conD (conF name datas)), .int .i64 (conK (conF name datas) : Int), .bool (conF name datas).isSome]) ∧ Ext w w' := by
  obtain ⟨W, hW⟩ : ∃ W, W = w.alloc (.cells #[.string ⟨#[]⟩, .int .i64 0, .slice none 0 0] 55) := ⟨_, rfl⟩
  have HW := hide hW.symm
  have X0 : Hid (Ext w W) := hide (by rw [hW]; exact (Ext.refl _).alloc _)
  have B2 : Hid (W.heap[w.heap.size]? = some (.cells #[.string ⟨#[]⟩, .int .i64 0, .slice none 0 0] 55 (0, 0))) := hide (by rw [hW]; exact at_newB _ _ _ (by simp))
  have HC := hide (h.ext X0.out)
  clear hW h
  obtain ⟨F, hF⟩ : ∃ F, F = conF name datas := ⟨_, rfl⟩
  rw [← hF]
  have HF : Hid (F = conF name (datas.drop 0)) := hide (by rw [hF, List.drop_zero])
  clear hF
  unfold daV
  go_enter Tryz.func43, Tryz.ntmps43
  go_upto_region 1 with fail
  rw [HW.out]
  clear HW
  go_wp2
  go_loopw [13] (fun i wr => ∃ k : Nat, k ≤ datas.length ∧ i = .int .i64 k ∧ Hid (Ext W wr) ∧ Hid (F = conF name (datas.drop k))) (fun i _ => datas.length - (intOf i).toNat)
  case atStart => exact ⟨0, Nat.zero_le _, rfl, hide (Ext.refl _), HF⟩
  case round =>
    obtain ⟨k, hk, rfl, HX, HR⟩ := hrel
    by_cases hlt : k < datas.length
    · have hlt' : (k : Int) < (datas.length : Int) := by omega
      have hk0 : (0 : Int) ≤ (k : Int) := by omega
      obtain ⟨b, o, rfl, hb, q0, q1, q2⟩ := (HC.out.ext HX.out).at_ hlt
      have HR2 := hide (HR.out.trans (conF_step name datas hlt))
      have HD := hide ((HC.out.ext HX.out).all _ (List.getElem_mem hlt))
      generalize datas[k]'hlt = d at *
      clear HR
      obtain ⟨dn, dk, DA, dcap, cons⟩ := d
      obtain ⟨G, hG⟩ : ∃ G, G = conIx name ⟨dn, dk, DA, dcap, cons⟩ := ⟨_, rfl⟩
      rw [← hG] at HR2
      have HG : Hid (G = ((cons.drop 0).findIdx? fun c => c.name == name).map (· + 0)) := hide (by rw [hG, List.drop_zero]; simp [conIx])
      clear hG
      have HBx := hide (DaBox.new wr ⟨dn, dk, DA, dcap, cons⟩)
      have hdl := HD.out.le
      have hdm := HD.out.max
      simp only [] at *
      obtain ⟨WB, hWB⟩ : ∃ WB, WB = wr.alloc (.cells #[encStr dn, .int .i64 dk, .slice DA cons.length dcap] 55) := ⟨_, rfl⟩
      have HWB := hide hWB.symm
      have XB : Hid (Ext wr WB) := hide (by rw [hWB]; exact (Ext.refl _).alloc _)
      rw [← hWB] at HBx
      clear hWB
      obtain ⟨e0, e1, e2⟩ := HBx.out.cells
      have hbB := HBx.out.lt
      have HCo := hide (HD.out.row.ext XB.out)
      simp only [] at HCo e0 e1 e2
      go_upto_region 4 with fail
      rw [HWB.out]
      go_wp2
      have HXW := hide (HX.out.trans XB.out)
      have hsb : w.heap.size < wr.heap.size := by have := X0.out.size; have := HX.out.size; have := lt_of_obj B2.out; omega
      generalize hgb : wr.heap.size = gB at *
      go_loopw [20] (fun j wr => ∃ m : Nat, m ≤ cons.length ∧ j = .int .i64 m ∧ Hid (Ext WB wr) ∧ Hid (G = ((cons.drop m).findIdx? fun c => c.name == name).map (· + m))) (fun j _ => cons.length - (intOf j).toNat)
      case atStart => exact ⟨0, Nat.zero_le _, rfl, hide (Ext.refl _), HG⟩
      case round =>
        obtain ⟨m, hm, rfl, HY, HS⟩ := hrel
        have XY := hide (HXW.out.trans HY.out)
        by_cases hlm : m < cons.length
        · have hlm' : (m : Int) < (cons.length : Int) := by omega
          have hm0 : (0 : Int) ≤ (m : Int) := by omega
          obtain ⟨b2, o2, rfl, hb2, r0, r1⟩ := (HCo.out.ext HY.out).at_ hlm
          have HS2 := hide (HS.out.trans (findIdx_step cons (fun c => c.name == name) hlm))
          generalize cons[m]'hlm = c at *
          have hbY := (HBx.out.ext HY.out).lt
          cases hc : (c.name == name)
          · rw [hc] at HS2
            go_wp2
            go_roundw
            case rel => exact ⟨m + 1, hlm, by go_num, hide (HY.out.trans (by repeat (first | exact Ext.refl _ | exact Ext.pre (by simp) | exact Ext.alloc (by assumption) _ | refine Ext.alloc ?_ _ |  refine Ext.more ?_ _ _ | refine Ext.drew ?_ | refine Ext.drewN ?_ _))), hide (by have := HS2.out; simpa using this)⟩
            case measure => simp [intOf]; omega
          · rw [hc] at HS2
            have hG : G = some m := by have := HS2.out; simpa using this
            clear HS2 HS HG
            subst hG
            have hF : F = some (⟨dn, dk, some ⟨b2, o2, none⟩, dcap, cons⟩, m) := HR2.out
            clear HR2 HF
            subst hF
            obtain ⟨x0, x1, x2⟩ := (HBx.out.ext HY.out).cells
            simp only [] at x0 x1 x2
            have B3 := hide ((XY.out.heap (lt_of_obj B2.out)).trans B2.out)
            have hb3 := lt_of_obj B3.out
            have f0 := free_block B3.out 0
            have f1 := free_block B3.out 1
            have f2 := free_block B3.out 2
            have k0 := bytes_block B3.out 0
            have k1 := bytes_block B3.out 1
            have k2 := bytes_block B3.out 2
            simp only [List.getElem?_toArray, List.getElem?_cons_zero, List.getElem?_cons_succ] at k0 k1 k2
            go_wp2
            refine bodyPost_ret (v := .tuple #[.agg #[encStr dn, .int .i64 dk, (.slice (some ⟨b2, o2, none⟩) cons.length dcap)], .int .i64 (m : Int), .bool true]) ?_ rfl ⟨rfl, ?_⟩
            · simp [results, Tryz.f43, go_sem, k0, k1, k2, hb3]
            · exact (((((X0.out.trans XY.out)).setCell (by simp) _).setCell (by simp) _).setCell (by simp) _).alloc _
        · have hge : ¬ (m : Int) < (cons.length : Int) := by omega
          have hG : G = none := HS.out.trans (findIdx_end cons _ hlm)
          clear HS HG
          subst hG
          go_wp2
          go_roundw
          case rel => exact ⟨k + 1, hlt, by go_num, hide XY.out, HR2⟩
          case measure => simp [intOf]; omega
    · have hge : ¬ (k : Int) < (datas.length : Int) := by omega
      have hF : F = none := by rw [HR.out, List.drop_eq_nil_of_le (by omega)]; rfl
      clear HR HF
      subst hF
      have B3 := hide ((HX.out.heap (lt_of_obj B2.out)).trans B2.out)
      have f0 := free_block B3.out 0
      have f1 := free_block B3.out 1
      have f2 := free_block B3.out 2
      have k0 := bytes_block B3.out 0
      have k1 := bytes_block B3.out 1
      have k2 := bytes_block B3.out 2
      simp only [List.getElem?_toArray, List.getElem?_cons_zero, List.getElem?_cons_succ] at k0 k1 k2
      go_wp2
      refine bodyPost_ret (v := .tuple #[.agg #[.string ⟨#[]⟩, .int .i64 0, .slice none 0 0], .int .i64 0, .bool false]) ?_ rfl ⟨rfl, ?_⟩
      · simp [results, Tryz.f43, go_sem, k0, k1, k2]
      · exact ((((X0.out.trans HX.out)).setCell (by simp) _).setCell (by simp) _).setCell (by simp) _

/-- Who has a method. -/
def methIx (s : Str) (c : KlD) : Option Nat := c.meths.findIdx? fun m => m.name == s
def methF (s : Str) : Nat → List KlD → Option (Nat × Nat)
  | _, [] => none
  | i, c :: l => match methIx s c with
    | some k => some (i, k)
    | none => methF s (i + 1) l
def fstN (F : Option (Nat × Nat)) : Nat := (F.map Prod.fst).getD 0
def sndN (F : Option (Nat × Nat)) : Nat := (F.map Prod.snd).getD 0
theorem methF_step (s : Str) (l : List KlD) {k : Nat} (h : k < l.length) : methF s k (l.drop k) = match methIx s (l[k]'h) with | some j => some (k, j) | none => methF s (k + 1) (l.drop (k + 1)) := by
  rw [List.drop_eq_getElem_cons h]
  rfl

set_option maxRecDepth 10000 in
set_option maxHeartbeats 4000000 in
theorem t_method (C : Option Addr) (cc : Nat) (cls : List KlD) (name : Str) (w : World) (h : KlsIn w C cls) (hle : cls.length ≤ cc) (hmx : cc ≤ 9223372036854775807) :
    Calls Tryz.prog 29 #[.slice C cls.length cc, encStr name] w fun e w' => e = .returned (.tuple #[.int .i64 (fstN (methF name 0 cls) : Int), .int .i64 (sndN (methF name 0 cls) : Int), .bool (methF name 0 cls).isSome]) ∧ Ext w w' := by
  have HC := hide h
  clear h
  obtain ⟨F, hF⟩ : ∃ F, F = methF name 0 cls := ⟨_, rfl⟩
  rw [← hF]
  have HF : Hid (F = methF name 0 (cls.drop 0)) := hide (by rw [hF, List.drop_zero])
  clear hF
  go_enter Tryz.func29, Tryz.ntmps29
  go_wp2
  go_loopw [13] (fun i wr => ∃ k : Nat, k ≤ cls.length ∧ i = .int .i64 k ∧ Hid (Ext w wr) ∧ Hid (F = methF name k (cls.drop k))) (fun i _ => cls.length - (intOf i).toNat)
  case atStart => exact ⟨0, Nat.zero_le _, rfl, hide (Ext.refl _), HF⟩
  case round =>
    obtain ⟨k, hk, rfl, HX, HR⟩ := hrel
    by_cases hlt : k < cls.length
    · have hlt' : (k : Int) < (cls.length : Int) := by omega
      have hk0 : (0 : Int) ≤ (k : Int) := by omega
      obtain ⟨b, o, rfl, hb, q0, q1, q2⟩ := (HC.out.ext HX.out).at_ hlt
      have HR2 := hide (HR.out.trans (methF_step name cls hlt))
      have HD := hide ((HC.out.ext HX.out).all _ (List.getElem_mem hlt))
      generalize cls[k]'hlt = d at *
      clear HR
      obtain ⟨dn, S, sc, sups, DA, dcap, cons⟩ := d
      obtain ⟨G, hG⟩ : ∃ G, G = methIx name ⟨dn, S, sc, sups, DA, dcap, cons⟩ := ⟨_, rfl⟩
      rw [← hG] at HR2
      have HG : Hid (G = ((cons.drop 0).findIdx? fun c => c.name == name).map (· + 0)) := hide (by rw [hG, List.drop_zero]; simp [methIx])
      clear hG
      have HBx := hide (KlBox.new wr ⟨dn, S, sc, sups, DA, dcap, cons⟩)
      have hdl := HD.out.le
      have hdm := HD.out.max
      simp only [] at *
      obtain ⟨WB, hWB⟩ : ∃ WB, WB = wr.alloc (.cells #[encStr dn, .slice S sups.length sc, .slice DA cons.length dcap] 64) := ⟨_, rfl⟩
      have HWB := hide hWB.symm
      have XB : Hid (Ext wr WB) := hide (by rw [hWB]; exact (Ext.refl _).alloc _)
      rw [← hWB] at HBx
      clear hWB
      obtain ⟨e0, e1, e2⟩ := HBx.out.cells
      have hbB := HBx.out.lt
      have HCo := hide (HD.out.row.ext XB.out)
      simp only [] at HCo e0 e1 e2
      go_upto_region 4 with fail
      rw [HWB.out]
      go_wp2
      have HXW := hide (HX.out.trans XB.out)
      generalize hgb : wr.heap.size = gB at *
      go_loopw [21] (fun j wr => ∃ m : Nat, m ≤ cons.length ∧ j = .int .i64 m ∧ Hid (Ext WB wr) ∧ Hid (G = ((cons.drop m).findIdx? fun c => c.name == name).map (· + m))) (fun j _ => cons.length - (intOf j).toNat)
      case atStart => exact ⟨0, Nat.zero_le _, rfl, hide (Ext.refl _), HG⟩
      case round =>
        obtain ⟨m, hm, rfl, HY, HS⟩ := hrel
        have XY := hide (HXW.out.trans HY.out)
        by_cases hlm : m < cons.length
        · have hlm' : (m : Int) < (cons.length : Int) := by omega
          have hm0 : (0 : Int) ≤ (m : Int) := by omega
          obtain ⟨b2, o2, rfl, hb2, r0, r1, r2, r3, r4⟩ := (HCo.out.ext HY.out).at_ hlm
          have HS2 := hide (HS.out.trans (findIdx_step cons (fun c => c.name == name) hlm))
          generalize cons[m]'hlm = c at *
          cases hc : (c.name == name)
          · rw [hc] at HS2
            go_wp2
            go_roundw
            case rel => exact ⟨m + 1, hlm, by go_num, hide (HY.out.trans (by repeat (first | exact Ext.refl _ | exact Ext.pre (by simp) | exact Ext.alloc (by assumption) _ | refine Ext.alloc ?_ _ |  refine Ext.more ?_ _ _ | refine Ext.drew ?_ | refine Ext.drewN ?_ _))), hide (by have := HS2.out; simpa using this)⟩
            case measure => simp [intOf]; omega
          · rw [hc] at HS2
            have hG : G = some m := by have := HS2.out; simpa using this
            clear HS2 HS HG
            subst hG
            have hF : F = some (k, m) := HR2.out
            clear HR2 HF
            subst hF
            go_wp2
            refine bodyPost_ret (v := .tuple #[.int .i64 (k : Int), .int .i64 (m : Int), .bool true]) ?_ rfl ⟨rfl, XY.out.alloc _⟩
            simp [results, Tryz.f29, go_sem]
        · have hge : ¬ (m : Int) < (cons.length : Int) := by omega
          have hG : G = none := HS.out.trans (findIdx_end cons _ hlm)
          clear HS HG
          subst hG
          go_wp2
          go_roundw
          case rel => exact ⟨k + 1, hlt, by go_num, hide XY.out, HR2⟩
          case measure => simp [intOf]; omega
    · have hge : ¬ (k : Int) < (cls.length : Int) := by omega
      have hF : F = none := by rw [HR.out, List.drop_eq_nil_of_le (by omega)]; rfl
      clear HR HF
      subst hF
      go_wp2
      refine bodyPost_ret (v := .tuple #[.int .i64 0, .int .i64 0, .bool false]) ?_ rfl ⟨rfl, HX.out⟩
      simp [results, Tryz.f29, go_sem]

end Go.Proofs.YtnomibjbjplieaaGreat

/- A scheme's type is alike itself. No program in sight. -/
namespace Go.Proofs.YtnomibjbjplieaaGreat
open Go.RowKit

/-- How great is what a type says? -/
noncomputable def szP (p : Ty.Pure) : Nat :=
  Ty.Pure.rec (motive_1 := fun _ => Nat) (motive_2 := fun _ => Nat) (fun _ _ _ r => r + 1) 0 (fun _ _ a b => a + b) p
theorem szP_eq (c : Str) (v : Int) (l : List Ty.Pure) : szP (.mk c v l) = (l.map szP).sum + 1 := by
  show Ty.Pure.rec_1 (motive_1 := fun _ => Nat) (motive_2 := fun _ => Nat) _ _ _ l + 1 = _
  congr 1
  induction l with
  | nil => rfl
  | cons x l ih => rw [List.map_cons, List.sum_cons, ← ih]; rfl
theorem size_pure (t : Ty) : t.size = szP t.pure := by
  induction t using Ty.ind with
  | h t ih =>
    rw [Ty.size_eq, Ty.pure_eq, szP_eq, List.map_map]
    congr 2
    exact List.map_congr_left ih
/-- Has no variable args? -/
inductive POk : Ty.Pure → Prop where
  | mk {c : Str} {v : Int} {l : List Ty.Pure} (h : c = [] → l = []) (h2 : ∀ x ∈ l, POk x) : POk (.mk c v l)
theorem pok_shape (t : Ty) (h : shapeT t = true) : POk t.pure := by
  induction t using Ty.ind with
  | h t ih =>
    unfold shapeT at h ih
    rw [allB_eq, Bool.and_eq_true, List.all_eq_true] at h
    rw [Ty.pure_eq]
    refine .mk (fun hc => ?_) (fun x hx => ?_)
    · have h1 := h.1
      rw [hc] at h1
      unfold headOk at h1
      simp at h1
      simp [h1]
    · obtain ⟨k, hk, rfl⟩ := List.mem_map.1 hx
      exact ih k hk (h.2 k hk)
theorem put_self (vars : List Int) (t : Ty) (h : POk t.pure) : putP vars (vars.map varT) t = t.pure := by
  induction t using Ty.ind with
  | h t ih =>
    rw [Ty.pure_eq] at h
    cases h with
    | mk h1 h2 =>
      rw [putP_eq]
      split
      · rename_i hc
        have hl : t.args = [] := by have := h1 hc; simpa using this
        unfold putAt
        split
        · rename_i hi
          have hany : vars.any (· == t.var) = true := by rw [← idxI_ge vars t.var]; exact decide_eq_true hi
          have e : idxI vars t.var = ((vars.findIdx (· == t.var) : Nat) : Int) := by unfold idxI; rw [if_pos hany]
          obtain ⟨x, hx, hxe⟩ := List.any_eq_true.1 hany
          have hlt : vars.findIdx (· == t.var) < vars.length := List.findIdx_lt_length_of_exists ⟨x, hx, hxe⟩
          have hat := List.findIdx_getElem (w := hlt)
          rw [e]
          have hat2 : vars[vars.findIdx (· == t.var)]'hlt = t.var := by simpa using hat
          rw [Int.toNat_natCast, List.getElem?_map, List.getElem?_eq_getElem hlt, hat2]
          show (varT t.var).pure = _
          rw [Ty.pure_eq, Ty.pure_eq t, hl, hc]
          rfl
        · rfl
      · rw [Ty.pure_eq t]
        congr 1
        exact List.map_congr_left (fun k hk => ih k hk (h2 _ (List.mem_map.2 ⟨k, hk, rfl⟩)))
theorem range_nodup (m : Nat) : (rangeI m).Nodup := by
  unfold rangeI
  exact List.pairwise_map.2 (List.nodup_range.imp (fun h e => h (by omega)))
theorem alike_self (p : Po) (hv : p.vars.Nodup) (ht : POk p.ty.pure) : alikeP p p = true := by
  have hm : meetsI p.vars (freeL p) = false := by
    unfold meetsI freeL
    rw [List.any_eq_false]
    intro v hv
    have h2 := (List.mem_filter.1 hv).2
    simp at h2 ⊢
    exact fun hh => h2 v hh rfl
  unfold alikeP eqP
  rw [hm, put_self p.vars p.ty ht]
  simp [hv]
theorem pok_fun (l : List Ty.Pure) (q : Ty.Pure) (hl : ∀ x ∈ l, POk x) (hq : POk q) : POk (funPP l q) := by
  induction l with
  | nil => exact hq
  | cons x l ih =>
    refine .mk (fun h => by cases h) (fun y hy => ?_)
    simp at hy
    rcases hy with rfl | rfl
    · exact hl y (by simp)
    · exact ih (fun z hz => hl z (by simp [hz]))
theorem pok_of (s : Sc) : POk (ofTyP s) := by
  unfold ofTyP
  split
  · rename_i h
    unfold scB legalT at h
    simp only [Bool.and_eq_true, List.all_eq_true, decide_eq_true_eq] at h
    refine pok_fun _ _ (fun x hx => ?_) (pok_shape _ h.1.1.1.1.2)
    obtain ⟨p, hp, rfl⟩ := List.mem_map.1 hx
    have hp2 := h.1.1.1.2 p hp
    unfold pdB legalT at hp2
    simp only [Bool.and_eq_true, decide_eq_true_eq] at hp2
    refine .mk (fun e => by simp at e) (fun y hy => ?_)
    simp at hy
    subst hy
    exact pok_shape _ hp2.2.2
  · rw [zero_pure]
    exact .mk (fun _ => rfl) (by simp)
theorem sz_fun (l : List Pd) (q : Ty.Pure) : szP (funPP (l.map fun p => dictP p.cls p.ty.pure) q) = szP q + psz l + 2 * l.length := by
  induction l with
  | nil => simp [funPP, psz]
  | cons p l ih =>
    show szP (arrP (dictP p.cls p.ty.pure) (funPP (l.map fun p => dictP p.cls p.ty.pure) q)) = _
    unfold arrP dictP
    rw [szP_eq, List.map_cons, List.map_cons, szP_eq]
    simp only [List.map_cons, List.map_nil, List.sum_cons, List.sum_nil, Nat.add_zero]
    have h2 : psz (p :: l) = p.ty.size + psz l := by unfold psz; simp
    unfold dictP at ih
    rw [ih, h2, size_pure p.ty, List.length_cons]
    omega
theorem sz_of (s : Sc) : szP (ofTyP s) ≤ s.ty.size + psz s.preds + 2 * s.preds.length + 1 := by
  unfold ofTyP
  split
  · rw [sz_fun, size_pure s.ty]; omega
  · rw [zero_pure, szP_eq]; simp
theorem ofVs_nodup (s : Sc) : (ofVs s).Nodup := by
  unfold ofVs
  split
  · exact range_nodup _
  · simp
theorem ofVs_len (s : Sc) : (ofVs s).length ≤ 4096 := by
  unfold ofVs
  split
  · rename_i h
    unfold scB at h
    simp only [Bool.and_eq_true, decide_eq_true_eq] at h
    rw [rangeI_len]
    have := h.1.2
    omega
  · simp

end Go.Proofs.YtnomibjbjplieaaGreat
