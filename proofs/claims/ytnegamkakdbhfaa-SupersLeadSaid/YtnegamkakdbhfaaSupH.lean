/- Contracts: rows of numbers alike; a copy of a row of numbers; ways, by the reference. -/
import Derived.Test.YtnegamkakdbhfaaSupG
import Derived.Laws.OwnMore
namespace Go.Proofs.Ytnegamkakdbhfaa
open Go.RowKit

theorem alike_ofI {l m : List Int} (hlen : l.length = m.length) (h : ∀ i, i < l.length → l.getD i 0 = m.getD i 0) : l = m := by
  apply List.ext_getElem hlen
  intro i h1 h2
  have := h i h1
  simpa [h1, h2] using this

set_option maxHeartbeats 1000000 in
theorem ref_ints (A B : Option Addr) (cap cap' : Nat) (l m : List Int) (w : World) (h : Ints w A l) (h' : Ints w B m) (hle : l.length ≤ 9223372036854775807) :
    Calls Try.prog 52 #[.slice A l.length cap, .slice B m.length cap'] w fun e w' => e = .returned (.bool (decide (l = m))) ∧ Ext w w' := by
  by_cases hlen : l.length = m.length
  · have Hall : Hid ((∀ j, j < l.length → l.getD j 0 = m.getD j 0) → decide (l = m) = true) := hide (fun hall => decide_eq_true (alike_ofI hlen hall))
    have Hne : Hid (∀ j, l.getD j 0 ≠ m.getD j 0 → decide (l = m) = false) := hide (fun j hj => decide_eq_false (fun e => hj (by rw [e])))
    have Hl := hide h
    have Hm := hide h'
    have Hlen := hide hlen
    clear h h'
    generalize decide (l = m) = R at *
    rw [← hlen]
    clear hlen
    go_enter Try.func52, Try.ntmps52
    go_wp2
    go_loopw [5] (fun i wr => ∃ j : Nat, j ≤ l.length ∧ i = .int .i64 j ∧ Hid (∀ i, i < j → l.getD i 0 = m.getD i 0) ∧ ∃ n, wr = w.drewN n) (fun i _ => l.length - (intOf i).toNat)
    case atStart => exact ⟨0, Nat.zero_le _, rfl, hide (fun i hi => absurd hi (by omega)), 0, rfl⟩
    case round =>
      obtain ⟨j, hj, rfl, Hj, n, rfl⟩ := hrel
      by_cases hlt : j < l.length
      · obtain ⟨b, o, rfl, hb, hc⟩ := Hl.out.at_ hlt
        obtain ⟨b', o', rfl, hb', hc'⟩ := Hm.out.at_ (by rw [← Hlen.out]; exact hlt)
        have hlt' : (j : Int) < (l.length : Int) := by omega
        have hj0 : (0 : Int) ≤ (j : Int) := by omega
        have Hy : Hid (l.getD j 0 = l[j]'hlt) := hide (by simp [hlt])
        have hltm : j < m.length := by rw [← Hlen.out]; exact hlt
        have Hz : Hid (m.getD j 0 = m[j]'hltm) := hide (by simp [hltm])
        generalize l[j]'hlt = y at *
        generalize m[j]'_ = z at *
        cases hs : (y != z)
        · go_wp2
          go_quiet (fail)
          go_wp2
          go_roundw
          case rel =>
            refine ⟨j + 1, hlt, by go_num, hide (fun i hi => ?_), _, rfl⟩
            by_cases hij : i = j
            · subst hij; rw [Hy.out, Hz.out]; simpa using hs
            · exact Hj.out i (by omega)
          case measure => simp [intOf]; omega
        · have hR := Hne.out j (by rw [Hy.out, Hz.out]; simpa using hs)
          subst hR
          go_wp2
          go_quiet (fail)
          go_wp2
          go_ret
          exact ⟨rfl, (by repeat (first | exact Ext.refl _ | exact Ext.pre (by simp) | exact Ext.alloc (by assumption) _ | refine Ext.alloc ?_ _ |  refine Ext.more ?_ _ _ | refine Ext.drew ?_ | refine Ext.drewN ?_ _))⟩
      · have hge : (l.length : Int) ≤ (j : Int) := by omega
        have hR := Hall.out (fun i hi => Hj.out i (by omega))
        subst hR
        go_wp2
        go_ret
        exact ⟨rfl, (by repeat (first | exact Ext.refl _ | exact Ext.pre (by simp) | exact Ext.alloc (by assumption) _ | refine Ext.alloc ?_ _ |  refine Ext.more ?_ _ _ | refine Ext.drew ?_ | refine Ext.drewN ?_ _))⟩
  · have hne : ((l.length : Int) != (m.length : Int)) = true := by rw [bne_iff_ne]; omega
    have hR : decide (l = m) = false := decide_eq_false (fun e => hlen (by rw [e]))
    rw [hR]
    clear h h' hR
    go_enter Try.func52, Try.ntmps52
    go_wp2
    go_ret
    exact ⟨rfl, (by repeat (first | exact Ext.refl _ | exact Ext.pre (by simp) | exact Ext.alloc (by assumption) _ | refine Ext.alloc ?_ _ |  refine Ext.more ?_ _ _ | refine Ext.drew ?_ | refine Ext.drewN ?_ _))⟩

set_option maxRecDepth 10000 in
set_option maxHeartbeats 1000000 in
theorem clone_i (A : Option Addr) (cap : Nat) (l : List Int) (w : World) (h : Ints w A l) (hl : l.length ≤ 100000) (hn : A = none → l = [] ∧ cap = 0) :
    Calls Try.prog 84 #[.slice A l.length cap] w fun e w' => (∃ v, e = .returned v ∧ w'.ownsRow w.heap.size 3 1 v l.length (l.map (Value.int .i64))) ∧ Ext w w' := by
  obtain ⟨i0, hi, hz0, hz1, hz2⟩ := info_parts int_info
  rcases A with _ | a
  · obtain ⟨rfl, rfl⟩ := hn rfl
    have heq := fun (w : World) (a : Option Addr) (n c : Nat) => Lib.run_eql_slice_nil (P := Try.prog) w 69 3 a n c 0 0 Try.underlying69
    clear h hn
    go_enter Try.func84, Try.ntmps84
    go_wp2
    go_ret
    exact ⟨⟨_, rfl, World.ownsRow_nil _ _ _ _⟩, (by repeat (first | exact Ext.refl _ | exact Ext.pre (by simp) | exact Ext.alloc (by assumption) _ | refine Ext.alloc ?_ _ |  refine Ext.more ?_ _ _ | refine Ext.drew ?_ | refine Ext.drewN ?_ _))⟩
  · have Hr := hide h.row
    have Hown : Hid ((w.alloc (.cells #[] 3)).ownsRow w.heap.size 3 1 (.slice (some ⟨w.heap.size, 0, none⟩) 0 0) 0 []) := hide (World.ownsRow_made w #[] 0 (Nat.le_refl _) (by simp) (by simp))
    have heq := fun (w : World) (a : Option Addr) (n c : Nat) => Lib.run_eql_slice_nil (P := Try.prog) w 69 3 a n c 0 0 Try.underlying69
    clear h hn
    go_enter Try.func84, Try.ntmps84
    go_wp2_with (at_builtin; refine wpList_append_row _ rfl _ _ 69 rfl w.heap.size 3 i0 _ 1 8 Try.underlying69 hi hz0 hz1 hz2 rfl (by decide) _ 0 [] rfl Hown.out (some a) l.length cap (l.map (Value.int .i64)) rfl ?c2 ?c3 ?c4 ?c5 ?c6 ?_)
    case c2 => exact Row.ext Hr.out (Ext.alloc (Ext.refl _) _)
    case c3 => exact one_ints _
    case c4 => unfold maxLen; omega
    case c5 => omega
    case c6 => simp
    intro v4 w4 hown4 hg4 _
    have X4 : Hid (Ext w w4) := hide (Ext.app (Ext.alloc (Ext.refl _) _) hg4 Hown.out (Nat.le_refl _))
    have O4 : Hid (w4.ownsRow w.heap.size 3 1 v4 l.length (l.map (Value.int .i64))) := hide (by simpa using hown4)
    clear hown4 hg4
    go_wp2
    go_ret
    exact ⟨⟨_, rfl, O4.out⟩, X4.out⟩

/-! ### Ways by names -/
def pathN (l : List Cls) (to : Str) : Nat → Str → Option (List Nat)
  | 0, x => if x == to then some [] else none
  | n + 1, x => (supL l x).zipIdx.findSome? fun y => (pathN l to n y.1).map (y.2 :: ·)
theorem zip_at {β γ : Type} (f : γ × Nat → Option β) : ∀ (row : List γ) (i0 i : Nat) (r : β), (∃ y, row[i]? = some y ∧ f (y, i0 + i) = some r) → (∀ j y, j < i → row[j]? = some y → f (y, i0 + j) = none) → (row.zipIdx i0).findSome? f = some r
  | [], i0, i, r, ⟨y, h, _⟩, _ => by simp at h
  | z :: row, i0, 0, r, ⟨y, h, h1⟩, _ => by
    simp at h; subst h
    simp only [List.zipIdx_cons, List.findSome?_cons]
    rw [Nat.add_zero] at h1
    rw [h1]
  | z :: row, i0, i + 1, r, ⟨y, h, h1⟩, h2 => by
    simp only [List.zipIdx_cons, List.findSome?_cons]
    have h3 := h2 0 z (by omega) rfl
    rw [Nat.add_zero] at h3
    rw [h3]
    refine zip_at f row (i0 + 1) i r ⟨y, by simpa using h, by rw [← h1]; congr 2; omega⟩ (fun j y hj hy => ?_)
    have := h2 (j + 1) y (by omega) (by simpa using hy)
    rw [← this]; congr 2; omega
theorem zip_no {β γ : Type} (f : γ × Nat → Option β) : ∀ (row : List γ) (i0 : Nat), (∀ j y, row[j]? = some y → f (y, i0 + j) = none) → (row.zipIdx i0).findSome? f = none
  | [], i0, _ => by simp
  | z :: row, i0, h2 => by
    simp only [List.zipIdx_cons, List.findSome?_cons]
    have h3 := h2 0 z rfl
    rw [Nat.add_zero] at h3
    rw [h3]
    refine zip_no f row (i0 + 1) (fun j y hy => ?_)
    have := h2 (j + 1) y (by simpa using hy)
    rw [← this]; congr 2; omega
theorem pathN_at (l : List Cls) (to : Str) (n : Nat) (x : Str) {i : Nat} {p : List Nat} (hi : i < (supL l x).length) (h : ∀ j, j < i → pathN l to n ((supL l x).getD j []) = none) (hp : pathN l to n ((supL l x).getD i []) = some p) :
    pathN l to (n + 1) x = some (i :: p) := by
  refine zip_at _ _ 0 i _ ⟨(supL l x).getD i [], by simp [hi], by simp only [hp, Option.map_some, Nat.zero_add]⟩ (fun j y hj hy => ?_)
  have : (supL l x).getD j [] = y := by simp [hy]
  have h1 := h j hj
  rw [this] at h1
  simp [h1]
theorem pathN_no (l : List Cls) (to : Str) (n : Nat) (x : Str) (h : ∀ j, j < (supL l x).length → pathN l to n ((supL l x).getD j []) = none) : pathN l to (n + 1) x = none := by
  refine zip_no _ _ 0 (fun j y hy => ?_)
  have hj : j < (supL l x).length := (List.getElem?_eq_some_iff.1 hy).1
  have : (supL l x).getD j [] = y := by simp [hy]
  have h1 := h j hj
  rw [this] at h1
  simp [h1]
theorem pathN_len (l : List Cls) (to : Str) : ∀ (n : Nat) (x : Str) (p : List Nat), pathN l to n x = some p → p.length = n ∧ (x = to ∨ Up l x to)
  | 0, x, p, h => by
    simp only [pathN] at h
    split at h
    · rename_i he
      injection h with h; subst h
      exact ⟨rfl, .inl (by simpa using he)⟩
    · cases h
  | n + 1, x, p, h => by
    obtain ⟨y, hy, hf⟩ := List.exists_of_findSome?_eq_some h
    simp only [Option.map_eq_some_iff] at hf
    obtain ⟨q, hq, rfl⟩ := hf
    obtain ⟨h1, h2⟩ := pathN_len l to n y.1 q hq
    have hm : y.1 ∈ supL l x := by
      have := List.mem_zipIdx_iff_getElem?.1 hy
      exact List.mem_of_getElem? this
    refine ⟨by simp [h1], .inr ?_⟩
    rcases h2 with h2 | h2
    · rw [← h2]; exact .one hm
    · exact (Up.one hm).trans h2
def ofNats (p : Option (List Nat)) : List Int := (p.getD []).map Int.ofNat

set_option maxRecDepth 10000 in
set_option maxHeartbeats 2000000 in
theorem ref_pathin (A : Option Addr) (cap : Nat) (l : List Cls) (to : Str) (hl : l.length ≤ 9) (hs : ∀ c ∈ l, c.sup.length ≤ 9) : ∀ (n : Nat) (x : Str) (w : World), n ≤ 100 → Classes w A l →
    Calls Try.prog 85 #[.slice A l.length cap, encStr x, encStr to, .int .i64 n] w fun e w' => (∃ A' cap', e = .returned (.tuple #[.slice A' (ofNats (pathN l to n x)).length cap', .bool (pathN l to n x).isSome]) ∧ (ofNats (pathN l to n x)).length ≤ cap' ∧ cap' ≤ 9223372036854775807 ∧ Ints w' A' (ofNats (pathN l to n x))) ∧ Ext w w' := by
  intro n
  induction n with
  | zero =>
    intro x w _ h
    clear h
    cases he : (x == to)
    · have hR : pathN l to 0 x = none := by simp [pathN, he]
      rw [hR]
      clear hR
      go_enter Try.func85, Try.ntmps85
      go_wp2
      go_ret2
      exact ⟨⟨none, 0, rfl, Nat.le_refl _, by omega, RowOf.nil _ _ _⟩, (by repeat (first | exact Ext.refl _ | exact Ext.pre (by simp) | exact Ext.alloc (by assumption) _ | refine Ext.alloc ?_ _ |  refine Ext.more ?_ _ _ | refine Ext.drew ?_ | refine Ext.drewN ?_ _))⟩
    · have hR : pathN l to 0 x = some [] := by simp [pathN, he]
      rw [hR]
      clear hR
      go_enter Try.func85, Try.ntmps85
      go_wp2
      go_ret2
      exact ⟨⟨none, 0, rfl, Nat.le_refl _, by omega, RowOf.nil _ _ _⟩, (by repeat (first | exact Ext.refl _ | exact Ext.pre (by simp) | exact Ext.alloc (by assumption) _ | refine Ext.alloc ?_ _ |  refine Ext.more ?_ _ _ | refine Ext.drew ?_ | refine Ext.drewN ?_ _))⟩
  | succ n ih =>
    intro x w hn h
    obtain ⟨i0, hi, hz0, hz1, hz2⟩ := info_parts int_info
    have HC := hide h
    have HI := hide ih
    have Hs := hide (ref_supers A cap l x w h (by omega))
    have Hat := hide (fun i p => @pathN_at l to n x i p)
    have Hno := hide (pathN_no l to n x)
    have hsl := supL_len l hs x
    have Hlen := hide (fun y p => pathN_len l to n y p)
    have hn1 : ¬ ((n : Int) + 1 = 0) := by omega
    have hn0 : (((n : Int) + 1) == 0) = false := by simp; omega
    have hsub : (n : Int) + 1 - 1 = (n : Int) := by omega
    have hcast : ((n + 1 : Nat) : Int) = (n : Int) + 1 := by omega
    have hnb : (n : Int) ≤ 100 := by omega
    have hn2 : n ≤ 100 := by omega
    rw [hcast]
    clear h ih hs hcast hn1
    generalize pathN l to (n + 1) x = R at *
    generalize supL l x = row at *
    go_enter Try.func85, Try.ntmps85
    go_wp2_with fail
    refine Hs.out.mono ?_
    rintro e w1 ⟨⟨A1, c1, rfl, g1, g2, g3⟩, rfl⟩
    have G3 := hide g3
    clear g3 Hs
    go_wp2
    go_loopw [11] (fun i wr => ∃ k : Nat, k ≤ row.length ∧ i = .int .i64 k ∧ Hid (Ext w1 wr) ∧ Hid (∀ j, j < k → pathN l to n (row.getD j []) = none)) (fun i _ => row.length - (intOf i).toNat)
    case atStart => exact ⟨0, Nat.zero_le _, rfl, hide (by repeat (first | exact Ext.refl _ | exact Ext.pre (by simp) | exact Ext.alloc (by assumption) _ | refine Ext.alloc ?_ _ |  refine Ext.more ?_ _ _ | refine Ext.drew ?_ | refine Ext.drewN ?_ _)), hide (fun j hj => absurd hj (by omega))⟩
    case round =>
      obtain ⟨k, hk, rfl, HX, HJ⟩ := hrel
      by_cases hlt : k < row.length
      · obtain ⟨b, o, rfl, hb, q0⟩ := (G3.out.ext HX.out).at_ hlt
        have hlt' : (k : Int) < (row.length : Int) := by omega
        have Hk := hide (fun p => Hat.out k p hlt HJ.out)
        generalize hy : row.getD k [] = y at *
        have Hy := hide hy
        clear hy
        have Hc := hide (HI.out y wr hn2 (HC.out.ext HX.out))
        cases hp : pathN l to n y with
        | none =>
          rw [hp] at Hc
          go_wp2_with fail
          refine Hc.out.mono ?_
          rintro e w3 ⟨⟨A3, c3, rfl, p1, p2, p3⟩, l3, d3, rfl⟩
          clear p3
          go_wp2
          go_roundw
          case rel =>
            refine ⟨k + 1, hlt, by go_num, hide (HX.out.trans (by repeat (first | exact Ext.refl _ | exact Ext.pre (by simp) | exact Ext.alloc (by assumption) _ | refine Ext.alloc ?_ _ |  refine Ext.more ?_ _ _ | refine Ext.drew ?_ | refine Ext.drewN ?_ _))), hide (fun j hj => ?_)⟩
            by_cases e : j = k
            · subst e; rw [Hy.out]; exact hp
            · exact HJ.out j (by omega)
          case measure => simp [intOf]; omega
        | some p =>
          rw [hp] at Hc
          have hR := Hk.out p hp
          have hpl := (Hlen.out y p hp).1
          subst hR
          go_wp2_with fail
          refine Hc.out.mono ?_
          rintro e w3 ⟨⟨A3, c3, rfl, p1, p2, p3⟩, l3, d3, rfl⟩
          have P3 := hide p3.row
          have HR : Hid (ofNats (some (k :: p)) = [(k : Int)] ++ ofNats (some p)) := hide rfl
          have hol : (ofNats (some p)).length ≤ 100 := by unfold ofNats; simp; omega
          clear p3
          generalize ofNats (some p) = O at *
          generalize hF : ofNats (some (k :: p)) = F at *
          have HF := hide hF
          clear hF
          have Hown : Hid (((more wr l3 d3).alloc (.cells #[.int .i64 k] 3)).ownsRow (more wr l3 d3).heap.size 3 1 (.slice (some ⟨(more wr l3 d3).heap.size, 0, none⟩) 1 1) 1 [.int .i64 k]) := hide (World.ownsRow_lit _ _ 1 (Nat.le_refl _) (by unfold maxLen; omega) (by simp))
          rw [size_more] at Hown
          go_wp2_with (at_builtin; refine wpList_append_row _ rfl _ _ 69 rfl (wr.heap.size + l3.length) 3 i0 _ 1 8 Try.underlying69 hi hz0 hz1 hz2 rfl (by decide) _ 1 [.int .i64 k] rfl Hown.out A3 O.length c3 (O.map (Value.int .i64)) rfl ?c2 ?c3 ?c4 ?c5 ?c6 ?_)
          case c2 => exact Row.ext P3.out (Ext.alloc (Ext.refl _) _)
          case c3 => exact one_ints _
          case c4 => unfold maxLen; omega
          case c5 => omega
          case c6 => simp
          intro v4 w4 hown4 hg4 _
          have X4 : Hid (Ext wr w4) := hide (Ext.app (by repeat (first | exact Ext.refl _ | exact Ext.pre (by simp) | exact Ext.alloc (by assumption) _ | refine Ext.alloc ?_ _ |  refine Ext.more ?_ _ _ | refine Ext.drew ?_ | refine Ext.drewN ?_ _)) hg4 Hown.out (by simp))
          have O4 : Hid (w4.ownsRow (wr.heap.size + l3.length) 3 1 v4 F.length (F.map (Value.int .i64))) := hide (by
            have := hown4
            rw [show (1 + O.length) = F.length by rw [HR.out]; simp; omega, show (Value.int .i64 k :: O.map (Value.int .i64)) = F.map (Value.int .i64) by rw [HR.out]; simp] at this
            exact this)
          clear hown4 hg4
          obtain ⟨A5, c5, rfl, z1, z2, z3, _⟩ := Ints.own O4.out
          have Z3 := hide z3
          clear z3
          go_wp2
          go_ret2
          rw [HF.out]
          exact ⟨⟨A5, c5, rfl, z1, z2, Z3.out⟩, HX.out.trans X4.out⟩
      · have hge : (row.length : Int) ≤ (k : Int) := by omega
        have hR := Hno.out (fun j hj => HJ.out j (by omega))
        subst hR
        go_wp2
        go_ret2
        exact ⟨⟨none, 0, rfl, Nat.le_refl _, by omega, RowOf.nil _ _ _⟩, HX.out⟩

end Go.Proofs.Ytnegamkakdbhfaa
