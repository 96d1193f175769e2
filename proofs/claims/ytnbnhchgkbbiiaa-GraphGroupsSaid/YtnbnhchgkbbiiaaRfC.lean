/- Contracts: what is reached from any vertex (the program's and the reference's); whether all is done that is reached. -/
import Derived.Test.YtnbnhchgkbbiiaaRfB
import Derived.Test.YtnbnhchgkbbiiaaCyc
namespace Go.Proofs.Ytnbnhchgkbbiiaa
open Go.RowKit

noncomputable def reachL (n v : Int) (es : List Edge) : List Nat := if graphOk n es && decide (0 ≤ v) && decide (v < n) then (List.range n.toNat).filter (reachB es v.toNat) else []
theorem bool_eq {a b : Bool} (h : a = true ↔ b = true) : a = b := by cases a <;> cases b <;> simp_all

set_option maxRecDepth 10000 in
set_option maxHeartbeats 4000000 in
theorem g_reachA (n v : Int) (A : Option Addr) (cap : Nat) (es : List Edge) (w : World) (h : Edges w A es) (hlen : es.length ≤ 100000) :
    Calls Try.prog 22 #[.int .i64 n, .slice A es.length cap, .int .i64 v] w fun e w' => (∃ A' cap', e = .returned (.slice A' (reachL n v es).length cap') ∧ (reachL n v es).length ≤ cap' ∧ cap' ≤ 9223372036854775807 ∧ Ints w' A' (zs (reachL n v es))) ∧ Ext w w' := by
  have Hc := hide (g_check n A cap es w h hlen)
  cases hg : graphOk n es
  · have hR : reachL n v es = [] := by unfold reachL; rw [hg]; rfl
    rw [hR]
    rw [hg] at Hc
    clear hR hg h
    go_enter Try.func22, Try.ntmps22
    go_wp2_with fail
    refine Hc.out.mono ?_
    rintro e w1 ⟨rfl, l1, d1, rfl⟩
    go_wp2
    go_ret
    exact ⟨⟨none, 0, rfl, Nat.le_refl _, by omega, RowOf.nil _ _ _⟩, (by repeat (first | exact Ext.refl _ | exact Ext.pre (by simp) | exact Ext.alloc (by assumption) _ | refine Ext.alloc ?_ _ |  refine Ext.more ?_ _ _ | refine Ext.drew ?_ | refine Ext.drewN ?_ _))⟩
  · by_cases h0 : v < 0
    · have hR : reachL n v es = [] := by unfold reachL; rw [hg]; simp; omega
      rw [hR]
      rw [hg] at Hc
      clear hR hg h
      go_enter Try.func22, Try.ntmps22
      go_wp2_with fail
      refine Hc.out.mono ?_
      rintro e w1 ⟨rfl, l1, d1, rfl⟩
      go_wp2
      go_ret
      exact ⟨⟨none, 0, rfl, Nat.le_refl _, by omega, RowOf.nil _ _ _⟩, (by repeat (first | exact Ext.refl _ | exact Ext.pre (by simp) | exact Ext.alloc (by assumption) _ | refine Ext.alloc ?_ _ |  refine Ext.more ?_ _ _ | refine Ext.drew ?_ | refine Ext.drewN ?_ _))⟩
    · by_cases h1 : v ≥ n
      · have hR : reachL n v es = [] := by unfold reachL; rw [hg]; simp; omega
        rw [hR]
        rw [hg] at Hc
        clear hR hg h
        go_enter Try.func22, Try.ntmps22
        go_wp2_with fail
        refine Hc.out.mono ?_
        rintro e w1 ⟨rfl, l1, d1, rfl⟩
        go_wp2
        go_ret
        exact ⟨⟨none, 0, rfl, Nat.le_refl _, by omega, RowOf.nil _ _ _⟩, (by repeat (first | exact Ext.refl _ | exact Ext.pre (by simp) | exact Ext.alloc (by assumption) _ | refine Ext.alloc ?_ _ |  refine Ext.more ?_ _ _ | refine Ext.drew ?_ | refine Ext.drewN ?_ _))⟩
      · obtain ⟨k, rfl⟩ := Int.eq_ofNat_of_zero_le (by omega : 0 ≤ v)
        obtain ⟨m, rfl⟩ := Int.eq_ofNat_of_zero_le (by omega : 0 ≤ n)
        refine (g_reach m k A cap es w h hg hlen (by omega)).mono ?_
        rintro e w' ⟨⟨A', c', p, rfl, p1, p2, p3, p4⟩, hx⟩
        have hp : p = reachB es k := funext fun x => bool_eq ((p4 x).trans (reachB_iff es k x).symm)
        have hR : reachL m k es = (List.range m).filter (reachB es k) := by
          unfold reachL
          rw [hg, if_pos (by simp; omega)]
          rfl
        subst hp
        have e1 : markedL (reachB es k) m = zs (reachL m k es) := by rw [hR]; rfl
        rw [e1] at p1 p3 ⊢
        rw [zs_len] at p1 ⊢
        exact ⟨⟨A', c', rfl, p1, p2, p3⟩, hx⟩

set_option maxRecDepth 10000 in
set_option maxHeartbeats 4000000 in
theorem r_reach (n v : Int) (A : Option Addr) (cap : Nat) (es : List Edge) (w : World) (h : Edges w A es) (hlen : es.length ≤ 100000) :
    Calls Try.prog 23 #[.int .i64 n, .slice A es.length cap, .int .i64 v] w fun e w' => (∃ A' cap', e = .returned (.slice A' (reachL n v es).length cap') ∧ (reachL n v es).length ≤ cap' ∧ cap' ≤ 9223372036854775807 ∧ Ints w' A' (zs (reachL n v es))) ∧ Ext w w' := by
  obtain ⟨i0, hi, hz0, hz1, hz2⟩ := info_parts int_info
  have Hc := hide (r_check n A cap es w h hlen)
  cases hg : graphOk n es
  · have hR : reachL n v es = [] := by unfold reachL; rw [hg]; rfl
    rw [hR]
    rw [hg] at Hc
    clear hR hg h
    go_enter Try.func23, Try.ntmps23
    go_wp2_with fail
    refine Hc.out.mono ?_
    rintro e w1 ⟨rfl, l1, d1, rfl⟩
    go_wp2
    go_ret
    exact ⟨⟨none, 0, rfl, Nat.le_refl _, by omega, RowOf.nil _ _ _⟩, (by repeat (first | exact Ext.refl _ | exact Ext.pre (by simp) | exact Ext.alloc (by assumption) _ | refine Ext.alloc ?_ _ |  refine Ext.more ?_ _ _ | refine Ext.drew ?_ | refine Ext.drewN ?_ _))⟩
  · by_cases h0 : v < 0
    · have hR : reachL n v es = [] := by unfold reachL; rw [hg]; simp; omega
      rw [hR]
      rw [hg] at Hc
      clear hR hg h
      go_enter Try.func23, Try.ntmps23
      go_wp2_with fail
      refine Hc.out.mono ?_
      rintro e w1 ⟨rfl, l1, d1, rfl⟩
      go_wp2
      go_ret
      exact ⟨⟨none, 0, rfl, Nat.le_refl _, by omega, RowOf.nil _ _ _⟩, (by repeat (first | exact Ext.refl _ | exact Ext.pre (by simp) | exact Ext.alloc (by assumption) _ | refine Ext.alloc ?_ _ |  refine Ext.more ?_ _ _ | refine Ext.drew ?_ | refine Ext.drewN ?_ _))⟩
    · by_cases h1 : v ≥ n
      · have hR : reachL n v es = [] := by unfold reachL; rw [hg]; simp; omega
        rw [hR]
        rw [hg] at Hc
        clear hR hg h
        go_enter Try.func23, Try.ntmps23
        go_wp2_with fail
        refine Hc.out.mono ?_
        rintro e w1 ⟨rfl, l1, d1, rfl⟩
        go_wp2
        go_ret
        exact ⟨⟨none, 0, rfl, Nat.le_refl _, by omega, RowOf.nil _ _ _⟩, (by repeat (first | exact Ext.refl _ | exact Ext.pre (by simp) | exact Ext.alloc (by assumption) _ | refine Ext.alloc ?_ _ |  refine Ext.more ?_ _ _ | refine Ext.drew ?_ | refine Ext.drewN ?_ _))⟩
      · obtain ⟨k, rfl⟩ := Int.eq_ofNat_of_zero_le (by omega : 0 ≤ v)
        obtain ⟨m, rfl⟩ := Int.eq_ofNat_of_zero_le (by omega : 0 ≤ n)
        have hm : m ≤ 1000 := by unfold graphOk at hg; simp at hg; omega
        have hok : ∀ e ∈ es, edgeOk m e = true := by unfold graphOk at hg; simp at hg; exact hg.2
        have hkm : k < m := by omega
        have HR : Hid (reachL m k es = (List.range m).filter (reachB es k)) := hide (by
          unfold reachL
          rw [hg, if_pos (by simp; omega)]
          rfl)
        have Hmk := hide (fun w' (e : Ext w w') => hide (r_marks m k A cap es w' (RowOf.ext edgeC h e) hm hlen hok hkm))
        rw [hg] at Hc
        generalize reachL m k es = R at *
        have h2 : ¬ (k : Int) < 0 := by omega
        have h3 : ¬ (k : Int) ≥ (m : Int) := by omega
        clear hg h hok h0 h1
        go_enter Try.func23, Try.ntmps23
        go_wp2_with fail
        refine Hc.out.mono ?_
        rintro e w1 ⟨rfl, l1, d1, rfl⟩
        go_wp2_with fail
        refine (Hmk.out _ (by repeat (first | exact Ext.refl _ | exact Ext.pre (by simp) | exact Ext.alloc (by assumption) _ | refine Ext.alloc ?_ _ |  refine Ext.more ?_ _ _ | refine Ext.drew ?_ | refine Ext.drewN ?_ _))).out.mono ?_
        rintro e w2 ⟨⟨b, M, rfl, hb, hB, hM⟩, hx2⟩
        have hMe : M = reachB es k := funext fun x => bool_eq ((hM x).trans (reachB_iff es k x).symm)
        subst hMe
        have HX2 : Hid (Ext w w2) := hide (Ext.trans (by repeat (first | exact Ext.refl _ | exact Ext.pre (by simp) | exact Ext.alloc (by assumption) _ | refine Ext.alloc ?_ _ |  refine Ext.more ?_ _ _ | refine Ext.drew ?_ | refine Ext.drewN ?_ _)) hx2)
        have HB := hide hB
        have hm1 : (m : Int) ≤ 1000 := by omega
        clear hb hB hM hx2
        go_wp2
        go_loopw [8, 9] (fun u i wr => ∃ j : Nat, j ≤ m ∧ i = .int .i64 j ∧ Hid (Ext w2 wr) ∧ Hid (wr.ownsRow w2.heap.size 3 1 u (markedL (reachB es k) j).length ((markedL (reachB es k) j).map (Value.int .i64)))) (fun _ i _ => m - (intOf i).toNat)
        case atStart => exact ⟨0, Nat.zero_le _, rfl, hide (Ext.refl _), hide (World.ownsRow_nil _ _ _ _)⟩
        case round =>
          obtain ⟨j, hj, rfl, HX, HO⟩ := hrel
          by_cases hlt : j < m
          · have hlt' : (j : Int) < (m : Int) := by omega
            have hj0 : (0 : Int) ≤ (j : Int) := by omega
            have hcm := (HB.out.ext HX.out).cell hlt
            have Hsu := hide (markedL_succ (reachB es k) j)
            have hml := markedL_len (reachB es k) j
            generalize hLk : markedL (reachB es k) j = L at *
            have HLk := hide hLk
            clear hLk
            cases hMk : reachB es k j
            · rw [hMk] at hcm Hsu
              clear hMk
              go_wp2
              go_roundw
              case rel => exact ⟨j + 1, hlt, by go_num, HX, hide (by rw [Hsu.out]; simpa using HO.out)⟩
              case measure => simp [intOf]; omega
            · rw [hMk] at hcm Hsu
              clear hMk
              go_wp2_with (at_builtin; refine wpList_append_row _ rfl _ _ 31 rfl w2.heap.size 3 i0 _ 1 8 Try.underlying31 hi hz0 hz1 hz2 rfl (by decide) u8 L.length (L.map (Value.int .i64)) rfl (HO.out.alloc _) _ 1 1 [.int .i64 j] rfl ?c2 ?c3 ?c4 ?c5 ?c6 ?_)
              case c2 => exact Row.boxV _ (at_newB _ _ _ (by simp))
              case c3 => first | rfl | (intro y hy; simp at hy; subst hy; rfl)
              case c4 => unfold maxLen; omega
              case c5 => omega
              case c6 => have := HX.out.size; simp; omega
              intro v4 w4 hown4 hg4 _
              have X4 := hide (Ext.app (HX.out.alloc _) hg4 (HO.out.alloc _) (Nat.le_refl _))
              have O4 := hide hown4
              clear hown4 hg4
              go_wp2
              go_roundw
              case rel => exact ⟨j + 1, hlt, by go_num, X4, hide (by rw [Hsu.out]; simpa using O4.out)⟩
              case measure => simp [intOf]; omega
          · have hge : ¬ (j : Int) < (m : Int) := by omega
            have hjn : j = m := by omega
            rw [hjn] at HO
            clear hjn
            obtain ⟨A5, c5, rfl, p1, p2, p3, _⟩ := Ints.own HO.out
            have P3 := hide p3
            have e1 : markedL (reachB es k) m = zs R := by rw [HR.out]; rfl
            have HE := hide e1
            rw [e1, zs_len] at p1
            clear p3 e1
            go_wp2
            go_ret
            refine ⟨⟨A5, c5, ?_, p1, p2, ?_⟩, HX2.out.trans HX.out⟩
            · rw [HE.out, zs_len]; rfl
            · have := P3.out
              rwa [HE.out] at this

/-- Rows of tests: one block each. -/
def blC (n : Nat) : Coder Nat := ⟨1, fun b => [.slice (some ⟨b, 0, none⟩) n n], fun _ => rfl, by omega⟩
structure MR (ty : TypeId) (w : World) (A : Option Addr) (n : Nat) (bs : List Nat) (m : Nat → Nat → Bool) : Prop where
  row : RowOf (blC n) w A bs
  blk : ∀ i (h : i < bs.length), BoolB ty w (bs[i]'h) n (m i)
section
variable {ty : TypeId} {w w' : World} {A : Option Addr} {n : Nat} {bs : List Nat} {m : Nat → Nat → Bool}
theorem MR.ext (h : MR ty w A n bs m) (e : Ext w w') : MR ty w' A n bs m := ⟨RowOf.ext _ h.row e, fun i hi => (h.blk i hi).ext e⟩
theorem MR.at_ (h : MR ty w A n bs m) {i : Nat} (hi : i < bs.length) : ∃ b o, A = some ⟨b, o, none⟩ ∧ b < w.heap.size ∧ w.cell? ⟨b, o + i, none⟩ = some (.slice (some ⟨bs[i]'hi, 0, none⟩) n n) := by
  obtain ⟨b, o, e, hb, hc⟩ := RowOf.at_ _ h.row hi
  refine ⟨b, o, e, hb, ?_⟩
  have := hc 0 (Nat.zero_lt_one)
  simpa [blC] using this
end
theorem freeB_all {n : Nat} {m : Nat → Nat → Bool} {done : Nat → Bool} {a : Nat} (h : ∀ i, i < n → (m a i && !done i && !m i a) = false) : freeB n m done a = true := by
  unfold freeB
  rw [List.all_eq_true]
  intro i hi
  rw [h i (by simpa using hi)]
  rfl
theorem freeB_not {n : Nat} {m : Nat → Nat → Bool} {done : Nat → Bool} {a i : Nat} (hi : i < n) (h : (m a i && !done i && !m i a) = true) : freeB n m done a = false := by
  unfold freeB
  rw [List.all_eq_false]
  exact ⟨i, by simpa using hi, by rw [h]; simp⟩

set_option maxRecDepth 10000 in
set_option maxHeartbeats 4000000 in
theorem r_free (n a bd cap : Nat) (A : Option Addr) (bs : List Nat) (m : Nat → Nat → Bool) (done : Nat → Bool) (w : World) (hbs : bs.length = n) (hn : n ≤ 1000) (ha : a < n) (hM : MR 4 w A n bs m) (hD : BoolB 4 w bd n done) :
    Calls Try.prog 44 #[.slice A n cap, .slice (some ⟨bd, 0, none⟩) n n, .int .i64 a] w fun e w' => e = .returned (.bool (freeB n m done a)) ∧ w' = w := by
  have HY := hide (fun h => freeB_all (n := n) (m := m) (done := done) (a := a) h)
  have HN := hide (fun i hi h => freeB_not (n := n) (m := m) (done := done) (a := a) (i := i) hi h)
  have HM := hide hM
  have HD := hide hD
  have hat : a < bs.length := by omega
  obtain ⟨b, o, rfl, hb, qa⟩ := hM.at_ hat
  have hab := HM.out.blk a hat
  have HAb := hide hab
  have ha1 : (a : Int) < (n : Int) := by omega
  have ha0 : (0 : Int) ≤ (a : Int) := by omega
  generalize bs[a]'hat = ba at *
  clear hM hD hab
  generalize freeB n m done a = R at *
  go_enter Try.func44, Try.ntmps44
  go_wp2
  go_loop [7] (fun i => ∃ j : Nat, j ≤ n ∧ i = .int .i64 j ∧ Hid (∀ i, i < j → (m a i && !done i && !m i a) = false)) (fun i => n - (intOf i).toNat)
  case atStart => exact ⟨0, Nat.zero_le _, rfl, hide (fun i hi => absurd hi (by omega))⟩
  case round =>
    obtain ⟨j, hj, rfl, Hj⟩ := hrel
    by_cases hlt : j < n
    · have hlt' : (j : Int) < (n : Int) := by omega
      have hj0 : (0 : Int) ≤ (j : Int) := by omega
      have hjb : j < bs.length := by omega
      obtain ⟨b2, o2, e2, hb2, qj⟩ := HM.out.at_ hjb
      injection e2 with e2
      injection e2 with e3 e4
      rw [← e3, ← e4] at qj
      have hq1 := HAb.out.cell hlt
      have hq2 := HD.out.cell hlt
      have hq3 := (HM.out.blk j hjb).cell ha
      generalize bs[j]'hjb = bj at *
      clear e3 e4 hb2
      have HNj := hide (HN.out j hlt)
      have Hst : Hid ((m a j && !done j && !m j a) = false → ∀ i, i < j + 1 → (m a i && !done i && !m i a) = false) := hide (fun hh i hi => by
        by_cases e : i = j
        · rw [e]; exact hh
        · exact Hj.out i (by omega))
      generalize m a j = x1 at *
      generalize done j = x2 at *
      generalize m j a = x3 at *
      cases x1
      · go_wp2
        go_round
        case rel => exact ⟨j + 1, hlt, by go_num, hide (Hst.out rfl)⟩
        case measure => simp [intOf]; omega
      · cases x2
        · cases x3
          · have hR := HNj.out rfl
            clear HY HN HNj Hst
            subst hR
            go_wp2
            go_ret
            exact ⟨rfl, rfl⟩
          · go_wp2
            go_round
            case rel => exact ⟨j + 1, hlt, by go_num, hide (Hst.out rfl)⟩
            case measure => simp [intOf]; omega
        · go_wp2
          go_round
          case rel => exact ⟨j + 1, hlt, by go_num, hide (Hst.out rfl)⟩
          case measure => simp [intOf]; omega
    · have hge : ¬ (j : Int) < (n : Int) := by omega
      have hR := HY.out (fun i hi => Hj.out i (by omega))
      clear HY HN
      subst hR
      go_wp2
      go_ret
      exact ⟨rfl, rfl⟩

end Go.Proofs.Ytnbnhchgkbbiiaa
