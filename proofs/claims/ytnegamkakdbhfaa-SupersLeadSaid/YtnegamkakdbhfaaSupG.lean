/- Contracts: all classes above one; those below. -/
import Derived.Test.YtnegamkakdbhfaaSupF
namespace Go.Proofs.Ytnegamkakdbhfaa
open Go.RowKit

/-! ### Plain -/
theorem aboveL_none (l : List Cls) {x : Str} (h : supL l x = []) : aboveL l x = [] := by
  unfold aboveL
  rw [h, aboveGo_nil]
theorem aboveGo_len (l : List Cls) : ∀ (f : Nat) (out todo : List Str), (aboveGo l f out todo).length ≤ out.length + f
  | 0, out, _ => by simp [aboveGo]
  | f + 1, out, [] => by simp [aboveGo]
  | f + 1, out, x :: todo => by
    unfold aboveGo
    split
    · have := aboveGo_len l f out todo; omega
    · have := aboveGo_len l f (out ++ [x]) (todo ++ supL l x); simp at this; omega
theorem aboveL_len (l : List Cls) (hl : l.length ≤ 9) (h : ∀ c ∈ l, c.sup.length ≤ 9) (x : Str) : (aboveL l x).length ≤ 90 := by
  have h1 := aboveGo_len l (boundL l x) [] (supL l x)
  have h2 := boundL_le l hl h x
  unfold aboveL
  simp at h1
  omega
def allL (l : List Cls) (x : Str) : List Str := if okL l then aboveL l x else []
def belowP (l : List Cls) (x : Str) (c : Cls) : Bool := (aboveL l c.name).any (· == x)
def belowL (l : List Cls) (x : Str) : List Str := if okL l then (l.filter (belowP l x)).map (·.name) else []
theorem below_snoc (l m : List Cls) (x : Str) (c : Cls) : ((m ++ [c]).filter (belowP l x)).map (·.name) = (m.filter (belowP l x)).map (·.name) ++ if belowP l x c then [c.name] else [] := by
  rw [List.filter_append, List.map_append]
  cases h : belowP l x c <;> simp [h]

section
variable (A : Option Addr) (cap : Nat) (l : List Cls) (x : Str) (w : World)
set_option maxRecDepth 10000 in
set_option maxHeartbeats 1000000 in
theorem sup_all (h : Classes w A l) (hl : l.length ≤ 9) (hs : ∀ c ∈ l, c.sup.length ≤ 9) :
    Calls Try.prog 46 #[.slice A l.length cap, encStr x] w fun e w' => (∃ A' cap', e = .returned (.slice A' (allL l x).length cap') ∧ (allL l x).length ≤ cap' ∧ cap' ≤ 9223372036854775807 ∧ Strs w' A' (allL l x)) ∧ Ext w w' := by
  have HC := hide h
  have HS := hide hs
  have Ha := hide (sup_at A cap l x w h (by omega))
  have Ho := hide (fun w' (e : Ext w w') => hide (sup_sound A cap l w' (h.ext e) hl hs))
  clear h hs
  rcases atI_cases l x with ⟨e1, e2, _⟩ | ⟨k, hk, e1, e2, _⟩
  · have hR : allL l x = [] := by unfold allL; rw [aboveL_none l e2]; simp
    rw [e1] at Ha
    rw [hR]
    clear e1 e2 hR
    go_enter Try.func46, Try.ntmps46
    go_wp2_with fail
    refine Ha.out.mono ?_
    rintro e w1 ⟨rfl, rfl⟩
    go_wp2
    go_ret
    exact ⟨⟨none, 0, rfl, Nat.le_refl _, by omega, Strs.nil _⟩, (by repeat (first | exact Ext.refl _ | exact Ext.pre (by simp) | exact Ext.alloc (by assumption) _ | refine Ext.alloc ?_ _ |  refine Ext.more ?_ _ _ | refine Ext.drew ?_ | refine Ext.drewN ?_ _))⟩
  · rw [e1] at Ha
    have hk0 : ¬ (k : Int) < 0 := by omega
    cases ho : okL l
    · have hR : allL l x = [] := by unfold allL; rw [ho]; rfl
      rw [ho] at Ho
      rw [hR]
      clear e1 e2 hR ho
      go_enter Try.func46, Try.ntmps46
      go_wp2_with fail
      refine Ha.out.mono ?_
      rintro e w1 ⟨rfl, rfl⟩
      go_wp2_with fail
      refine (Ho.out _ (by repeat (first | exact Ext.refl _ | exact Ext.pre (by simp) | exact Ext.alloc (by assumption) _ | refine Ext.alloc ?_ _ |  refine Ext.more ?_ _ _ | refine Ext.drew ?_ | refine Ext.drewN ?_ _))).out.mono ?_
      rintro e w2 ⟨rfl, l2, d2, rfl⟩
      go_wp2
      go_ret
      exact ⟨⟨none, 0, rfl, Nat.le_refl _, by omega, Strs.nil _⟩, (by repeat (first | exact Ext.refl _ | exact Ext.pre (by simp) | exact Ext.alloc (by assumption) _ | refine Ext.alloc ?_ _ |  refine Ext.more ?_ _ _ | refine Ext.drew ?_ | refine Ext.drewN ?_ _))⟩
    · have hR : allL l x = aboveL l x := by unfold allL; rw [ho]; rfl
      have Hab := hide (fun w' (e : Ext w w') => hide (sup_above A cap l k x w' (HC.out.ext e) hl HS.out hk (okL_sound ho).1.known e2))
      rw [ho] at Ho
      rw [hR]
      clear e1 e2 hR ho
      generalize aboveL l x = V at *
      go_enter Try.func46, Try.ntmps46
      go_wp2_with fail
      refine Ha.out.mono ?_
      rintro e w1 ⟨rfl, rfl⟩
      go_wp2_with fail
      refine (Ho.out _ (by repeat (first | exact Ext.refl _ | exact Ext.pre (by simp) | exact Ext.alloc (by assumption) _ | refine Ext.alloc ?_ _ |  refine Ext.more ?_ _ _ | refine Ext.drew ?_ | refine Ext.drewN ?_ _))).out.mono ?_
      rintro e w2 ⟨rfl, l2, d2, rfl⟩
      go_wp2_with fail
      refine (Hab.out _ (by repeat (first | exact Ext.refl _ | exact Ext.pre (by simp) | exact Ext.alloc (by assumption) _ | refine Ext.alloc ?_ _ |  refine Ext.more ?_ _ _ | refine Ext.drew ?_ | refine Ext.drewN ?_ _))).out.mono ?_
      rintro e w3 ⟨⟨A3, c3, rfl, g1, g2, g3⟩, l3, d3, rfl⟩
      simp only [more_more] at g3
      have G3 := hide g3
      clear g3
      go_wp2
      go_ret
      exact ⟨⟨A3, c3, rfl, g1, g2, G3.out.ext (by repeat (first | exact Ext.refl _ | exact Ext.pre (by simp) | exact Ext.alloc (by assumption) _ | refine Ext.alloc ?_ _ |  refine Ext.more ?_ _ _ | refine Ext.drew ?_ | refine Ext.drewN ?_ _))⟩, (by repeat (first | exact Ext.refl _ | exact Ext.pre (by simp) | exact Ext.alloc (by assumption) _ | refine Ext.alloc ?_ _ |  refine Ext.more ?_ _ _ | refine Ext.drew ?_ | refine Ext.drewN ?_ _))⟩

set_option maxRecDepth 10000 in
set_option maxHeartbeats 1000000 in
theorem ref_all (h : Classes w A l) (hl : l.length ≤ 9) (hs : ∀ c ∈ l, c.sup.length ≤ 9) :
    Calls Try.prog 47 #[.slice A l.length cap, encStr x] w fun e w' => (∃ A' cap', e = .returned (.slice A' (allL l x).length cap') ∧ (allL l x).length ≤ cap' ∧ cap' ≤ 9223372036854775807 ∧ Strs w' A' (allL l x)) ∧ Ext w w' := by
  have Ho := hide (fun w' (e : Ext w w') => hide (ref_ok A cap l w' (h.ext e) hl hs))
  have Hab := hide (fun w' (e : Ext w w') => hide (ref_above A cap l x w' (h.ext e) hl hs))
  clear h hs
  unfold allL
  generalize aboveL l x = V at *
  cases ho : okL l
  · rw [ho] at Ho
    simp only [Bool.false_eq_true, ↓reduceIte, List.length_nil]
    go_enter Try.func47, Try.ntmps47
    go_wp2_with fail
    refine (Ho.out _ (by repeat (first | exact Ext.refl _ | exact Ext.pre (by simp) | exact Ext.alloc (by assumption) _ | refine Ext.alloc ?_ _ |  refine Ext.more ?_ _ _ | refine Ext.drew ?_ | refine Ext.drewN ?_ _))).out.mono ?_
    rintro e w2 ⟨rfl, l2, d2, rfl⟩
    go_wp2
    go_ret
    exact ⟨⟨none, 0, rfl, Nat.le_refl _, by omega, Strs.nil _⟩, (by repeat (first | exact Ext.refl _ | exact Ext.pre (by simp) | exact Ext.alloc (by assumption) _ | refine Ext.alloc ?_ _ |  refine Ext.more ?_ _ _ | refine Ext.drew ?_ | refine Ext.drewN ?_ _))⟩
  · rw [ho] at Ho
    simp only [↓reduceIte]
    go_enter Try.func47, Try.ntmps47
    go_wp2_with fail
    refine (Ho.out _ (by repeat (first | exact Ext.refl _ | exact Ext.pre (by simp) | exact Ext.alloc (by assumption) _ | refine Ext.alloc ?_ _ |  refine Ext.more ?_ _ _ | refine Ext.drew ?_ | refine Ext.drewN ?_ _))).out.mono ?_
    rintro e w2 ⟨rfl, l2, d2, rfl⟩
    go_wp2_with fail
    refine (Hab.out _ (by repeat (first | exact Ext.refl _ | exact Ext.pre (by simp) | exact Ext.alloc (by assumption) _ | refine Ext.alloc ?_ _ |  refine Ext.more ?_ _ _ | refine Ext.drew ?_ | refine Ext.drewN ?_ _))).out.mono ?_
    rintro e w3 ⟨⟨A3, c3, rfl, g1, g2, g3⟩, l3, d3, rfl⟩
    simp only [more_more] at g3
    have G3 := hide g3
    clear g3
    go_wp2
    go_ret
    exact ⟨⟨A3, c3, rfl, g1, g2, G3.out.ext (by repeat (first | exact Ext.refl _ | exact Ext.pre (by simp) | exact Ext.alloc (by assumption) _ | refine Ext.alloc ?_ _ |  refine Ext.more ?_ _ _ | refine Ext.drew ?_ | refine Ext.drewN ?_ _))⟩, (by repeat (first | exact Ext.refl _ | exact Ext.pre (by simp) | exact Ext.alloc (by assumption) _ | refine Ext.alloc ?_ _ |  refine Ext.more ?_ _ _ | refine Ext.drew ?_ | refine Ext.drewN ?_ _))⟩

theorem take_snocC (l : List Cls) {k : Nat} (h : k < l.length) : l.take (k + 1) = l.take k ++ [l[k]'h] := by
  rw [List.take_succ_eq_append_getElem h]

set_option maxRecDepth 10000 in
set_option maxHeartbeats 2000000 in
theorem sup_below (h : Classes w A l) (hl : l.length ≤ 9) (hs : ∀ c ∈ l, c.sup.length ≤ 9) :
    Calls Try.prog 48 #[.slice A l.length cap, encStr x] w fun e w' => (∃ A' cap', e = .returned (.slice A' (belowL l x).length cap') ∧ (belowL l x).length ≤ cap' ∧ cap' ≤ 9223372036854775807 ∧ Strs w' A' (belowL l x)) ∧ Ext w w' := by
  have HC := hide h
  have HS := hide hs
  have Ho := hide (sup_sound A cap l w h hl hs)
  clear h hs
  cases ho : okL l
  · have hR : belowL l x = [] := by unfold belowL; rw [ho]; rfl
    rw [ho] at Ho
    rw [hR]
    clear hR ho
    go_enter Try.func48, Try.ntmps48
    go_wp2_with fail
    refine Ho.out.mono ?_
    rintro e w2 ⟨rfl, l2, d2, rfl⟩
    go_wp2
    go_ret
    exact ⟨⟨none, 0, rfl, Nat.le_refl _, by omega, Strs.nil _⟩, (by repeat (first | exact Ext.refl _ | exact Ext.pre (by simp) | exact Ext.alloc (by assumption) _ | refine Ext.alloc ?_ _ |  refine Ext.more ?_ _ _ | refine Ext.drew ?_ | refine Ext.drewN ?_ _))⟩
  · have hR : belowL l x = (l.filter (belowP l x)).map (·.name) := by unfold belowL; rw [ho]; rfl
    have Hso := hide (okL_sound ho).1
    rw [ho] at Ho
    rw [hR]
    clear hR ho
    have Hfl : Hid (∀ k, ((l.take k).filter (belowP l x)).length ≤ k) := hide (fun k => by have := List.length_filter_le (belowP l x) (l.take k); have := List.length_take_le k l; omega)
    have HF : Hid (((l.take l.length).filter (belowP l x)).map (·.name) = (l.filter (belowP l x)).map (·.name)) := hide (by rw [List.take_length])
    obtain ⟨i0, hi, hz0, hz1, hz2⟩ := info_parts str_infoB
    go_enter Try.func48, Try.ntmps48
    go_wp2_with fail
    refine Ho.out.mono ?_
    rintro e w2 ⟨rfl, hx2⟩
    have HX2 := hide hx2
    clear hx2
    go_wp2
    go_loopw [5, 12] (fun u i wr => ∃ k : Nat, k ≤ l.length ∧ i = .int .i64 k ∧ Hid (Ext w wr) ∧ Hid (wr.ownsRow w.heap.size 9 1 u (((l.take k).filter (belowP l x)).map (·.name)).length ((((l.take k).filter (belowP l x)).map (·.name)).map encStr))) (fun _ i _ => l.length - (intOf i).toNat)
    case atStart => exact ⟨0, Nat.zero_le _, rfl, HX2, hide (World.ownsRow_nil _ _ _ _)⟩
    case round =>
      obtain ⟨k, hk, rfl, HX, HO⟩ := hrel
      by_cases hlt : k < l.length
      · have hlt' : (k : Int) < (l.length : Int) := by omega
        have hk0 : (0 : Int) ≤ (k : Int) := by omega
        have Hsn : Hid (((l.take (k + 1)).filter (belowP l x)).map (·.name) = ((l.take k).filter (belowP l x)).map (·.name) ++ if (aboveL l (l[k]'hlt).name).any (· == x) then [(l[k]'hlt).name] else []) := hide (by rw [take_snocC l hlt, below_snoc]; rfl)
        have hfl : (((l.take k).filter (belowP l x)).map (·.name)).length ≤ 1000 := by rw [List.length_map]; have := Hfl.out k; omega
        have Hab := hide (sup_above A cap l k (l[k]'hlt).name wr (HC.out.ext HX.out) hl HS.out hlt Hso.out.known (Hso.out.sup hlt))
        generalize ((l.take k).filter (belowP l x)).map (·.name) = L at *
        generalize aboveL l (l[k]'hlt).name = V at *
        go_wp2_with fail
        refine Hab.out.mono ?_
        rintro e w3 ⟨⟨A3, c3, rfl, g1, g2, g3⟩, hx3⟩
        have Hh := hide (has_s A3 c3 V x w3 g3 (by omega))
        have X3 := hide (HX.out.trans hx3)
        have O3 := hide (own_extB HO.out hx3)
        obtain ⟨b, o, hA, hb, q0, q1, q2⟩ := (HC.out.ext X3.out).at_ hlt
        clear g3 hx3 q1 q2 HX HO Hab
        subst hA
        generalize (l[k]'hlt).name = y at *
        cases h1 : V.any (· == x)
        · rw [h1] at Hh Hsn
          go_wp2_with fail
          refine Hh.out.mono ?_
          rintro e w4 ⟨rfl, rfl⟩
          go_wp2
          go_roundw
          case rel => exact ⟨k + 1, hlt, by go_num, X3, hide (by rw [Hsn.out]; simpa using O3.out)⟩
          case measure => simp [intOf]; omega
        · rw [h1] at Hh Hsn
          go_wp2_with fail
          refine Hh.out.mono ?_
          rintro e w4 ⟨rfl, rfl⟩
          go_wp2_with (at_builtin; refine wpList_append_row _ rfl _ _ 65 rfl w.heap.size 9 i0 _ 1 16 Try.underlying65 hi hz0 hz1 hz2 rfl (by decide) u5 L.length (L.map encStr) rfl (O3.out.alloc _) _ 1 1 [encStr y] rfl ?c2 ?c3 ?c4 ?c5 ?c6 ?_)
          case c2 => exact Strs.boxed _ (at_newB _ _ _ (by simp))
          case c3 => intro y hy; simp at hy; subst hy; rfl
          case c4 => unfold maxLen; omega
          case c5 => omega
          case c6 => have := X3.out.size; simp; omega
          intro v5 w5 hown5 hg5 _
          have X5 := hide (Ext.app (X3.out.alloc _) hg5 (O3.out.alloc _) (Nat.le_refl _))
          have O5 := hide hown5
          clear hown5 hg5
          go_wp2
          go_roundw
          case rel => exact ⟨k + 1, hlt, by go_num, X5, hide (by rw [Hsn.out]; simpa using O5.out)⟩
          case measure => simp [intOf]; omega
      · have hge : (l.length : Int) ≤ (k : Int) := by omega
        have hkl : k = l.length := by omega
        rw [hkl, HF.out] at HO
        clear hkl HF
        obtain ⟨A5, c5, rfl, p1, p2, p3, _⟩ := Strs.of_own HO.out
        have P3 := hide p3
        clear p3
        go_wp2
        go_ret
        exact ⟨⟨A5, c5, rfl, p1, p2, P3.out⟩, HX.out⟩

set_option maxRecDepth 10000 in
set_option maxHeartbeats 2000000 in
theorem ref_below (h : Classes w A l) (hl : l.length ≤ 9) (hs : ∀ c ∈ l, c.sup.length ≤ 9) :
    Calls Try.prog 49 #[.slice A l.length cap, encStr x] w fun e w' => (∃ A' cap', e = .returned (.slice A' (belowL l x).length cap') ∧ (belowL l x).length ≤ cap' ∧ cap' ≤ 9223372036854775807 ∧ Strs w' A' (belowL l x)) ∧ Ext w w' := by
  have HC := hide h
  have HS := hide hs
  have Ho := hide (ref_ok A cap l w h hl hs)
  clear h hs
  cases ho : okL l
  · have hR : belowL l x = [] := by unfold belowL; rw [ho]; rfl
    rw [ho] at Ho
    rw [hR]
    clear hR ho
    go_enter Try.func49, Try.ntmps49
    go_wp2_with fail
    refine Ho.out.mono ?_
    rintro e w2 ⟨rfl, l2, d2, rfl⟩
    go_wp2
    go_ret
    exact ⟨⟨none, 0, rfl, Nat.le_refl _, by omega, Strs.nil _⟩, (by repeat (first | exact Ext.refl _ | exact Ext.pre (by simp) | exact Ext.alloc (by assumption) _ | refine Ext.alloc ?_ _ |  refine Ext.more ?_ _ _ | refine Ext.drew ?_ | refine Ext.drewN ?_ _))⟩
  · have hR : belowL l x = (l.filter (belowP l x)).map (·.name) := by unfold belowL; rw [ho]; rfl
    rw [ho] at Ho
    rw [hR]
    clear hR ho
    have Hfl : Hid (∀ k, ((l.take k).filter (belowP l x)).length ≤ k) := hide (fun k => by have := List.length_filter_le (belowP l x) (l.take k); have := List.length_take_le k l; omega)
    have HF : Hid (((l.take l.length).filter (belowP l x)).map (·.name) = (l.filter (belowP l x)).map (·.name)) := hide (by rw [List.take_length])
    obtain ⟨i0, hi, hz0, hz1, hz2⟩ := info_parts str_infoB
    go_enter Try.func49, Try.ntmps49
    go_wp2_with fail
    refine Ho.out.mono ?_
    rintro e w2 ⟨rfl, hx2⟩
    have HX2 := hide hx2
    clear hx2
    go_wp2
    go_loopw [5, 6] (fun u i wr => ∃ k : Nat, k ≤ l.length ∧ i = .int .i64 k ∧ Hid (Ext w wr) ∧ Hid (wr.ownsRow w.heap.size 9 1 u (((l.take k).filter (belowP l x)).map (·.name)).length ((((l.take k).filter (belowP l x)).map (·.name)).map encStr))) (fun _ i _ => l.length - (intOf i).toNat)
    case atStart => exact ⟨0, Nat.zero_le _, rfl, HX2, hide (World.ownsRow_nil _ _ _ _)⟩
    case round =>
      obtain ⟨k, hk, rfl, HX, HO⟩ := hrel
      by_cases hlt : k < l.length
      · have hlt' : (k : Int) < (l.length : Int) := by omega
        have hk0 : (0 : Int) ≤ (k : Int) := by omega
        have Hsn : Hid (((l.take (k + 1)).filter (belowP l x)).map (·.name) = ((l.take k).filter (belowP l x)).map (·.name) ++ if (aboveL l (l[k]'hlt).name).any (· == x) then [(l[k]'hlt).name] else []) := hide (by rw [take_snocC l hlt, below_snoc]; rfl)
        have hfl : (((l.take k).filter (belowP l x)).map (·.name)).length ≤ 1000 := by rw [List.length_map]; have := Hfl.out k; omega
        have Hab := hide (ref_above A cap l (l[k]'hlt).name wr (HC.out.ext HX.out) hl HS.out)
        obtain ⟨b, o, hA, hb, q0, q1, q2⟩ := (HC.out.ext HX.out).at_ hlt
        subst hA
        clear q1 q2
        generalize ((l.take k).filter (belowP l x)).map (·.name) = L at *
        generalize aboveL l (l[k]'hlt).name = V at *
        generalize (l[k]'hlt).name = y at *
        go_wp2_with fail
        refine Hab.out.mono ?_
        rintro e w3 ⟨⟨A3, c3, rfl, g1, g2, g3⟩, hx3⟩
        have Hh := hide (ref_has A3 c3 V x w3 g3 (by omega))
        have X3 := hide (HX.out.trans hx3)
        have O3 := hide (own_extB HO.out hx3)
        have q3 : w3.cell? ⟨b, o + k * 3, none⟩ = some (.string ⟨y.toArray⟩) := (World.cell?_of_block (a := ⟨b, o + k * 3, none⟩) (hx3.heap hb)).trans q0
        clear g3 hx3 HX HO Hab q0 hb
        cases h1 : V.any (· == x)
        · rw [h1] at Hh Hsn
          go_wp2_with fail
          refine Hh.out.mono ?_
          rintro e w4 ⟨rfl, rfl⟩
          go_wp2
          go_roundw
          case rel => exact ⟨k + 1, hlt, by go_num, X3, hide (by rw [Hsn.out]; simpa using O3.out)⟩
          case measure => simp [intOf]; omega
        · rw [h1] at Hh Hsn
          go_wp2_with fail
          refine Hh.out.mono ?_
          rintro e w4 ⟨rfl, rfl⟩
          go_wp2_with (at_builtin; refine wpList_append_row _ rfl _ _ 65 rfl w.heap.size 9 i0 _ 1 16 Try.underlying65 hi hz0 hz1 hz2 rfl (by decide) u5 L.length (L.map encStr) rfl (O3.out.alloc _) _ 1 1 [encStr y] rfl ?c2 ?c3 ?c4 ?c5 ?c6 ?_)
          case c2 => exact Strs.boxed _ (at_newB _ _ _ (by simp))
          case c3 => intro y hy; simp at hy; subst hy; rfl
          case c4 => unfold maxLen; omega
          case c5 => omega
          case c6 => have := X3.out.size; simp; omega
          intro v5 w5 hown5 hg5 _
          have X5 := hide (Ext.app (X3.out.alloc _) hg5 (O3.out.alloc _) (Nat.le_refl _))
          have O5 := hide hown5
          clear hown5 hg5
          go_wp2
          go_roundw
          case rel => exact ⟨k + 1, hlt, by go_num, X5, hide (by rw [Hsn.out]; simpa using O5.out)⟩
          case measure => simp [intOf]; omega
      · have hge : (l.length : Int) ≤ (k : Int) := by omega
        have hkl : k = l.length := by omega
        rw [hkl, HF.out] at HO
        clear hkl HF
        obtain ⟨A5, c5, rfl, p1, p2, p3, _⟩ := Strs.of_own HO.out
        have P3 := hide p3
        clear p3
        go_wp2
        go_ret
        exact ⟨⟨A5, c5, rfl, p1, p2, P3.out⟩, HX.out⟩
end

end Go.Proofs.Ytnegamkakdbhfaa
