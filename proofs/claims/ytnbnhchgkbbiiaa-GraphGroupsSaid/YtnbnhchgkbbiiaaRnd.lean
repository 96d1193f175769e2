/- Contracts: whether an edge is among some; whether a group goes round. -/
import Derived.Test.YtnbnhchgkbbiiaaWait
import Derived.Test.YtnbnhchgkbbiiaaGrB
import Derived.Deep.RegionHeld3
namespace Go.Proofs.Ytnbnhchgkbbiiaa
open Go.RowKit

instance : BEq Edge := ⟨fun x y => x.a == y.a && x.b == y.b⟩
theorem edge_beq (x y : Edge) : (x == y) = (x.a == y.a && x.b == y.b) := rfl

set_option maxRecDepth 10000 in
set_option maxHeartbeats 2000000 in
theorem index_e (A : Option Addr) (cap : Nat) (es : List Edge) (a b : Int) (w : World) (h : Edges w A es) (hle : es.length ≤ 100000) :
    Calls Try.prog 92 #[.slice A es.length cap, .agg #[.int .i64 a, .int .i64 b]] w fun e w' => e = .returned (.int .i64 (idxI es ⟨a, b⟩)) ∧ Ext w w' := by
  have Hat := hide (fun k => @idxI_at _ _ es ⟨a, b⟩ ⟨0, 0⟩ k)
  have Hno := hide (idxI_no es ⟨a, b⟩ ⟨0, 0⟩)
  have Hr := hide h
  clear h
  generalize idxI es ⟨a, b⟩ = R at *
  have Hbx : Hid ((w.alloc (.cells #[.int .i64 a, .int .i64 b] 45)).heap[w.heap.size]? = some (.cells #[.int .i64 a, .int .i64 b] 45 (0, 0))) := hide (at_newB _ _ _ rfl)
  go_enter Try.func92, Try.ntmps92
  go_wp2
  go_loopw [8] (fun i wr => ∃ j : Nat, j ≤ es.length ∧ i = .int .i64 j ∧ Hid (Ext w wr) ∧ Hid (wr.heap[w.heap.size]? = some (.cells #[.int .i64 a, .int .i64 b] 45 (0, 0))) ∧ Hid (∀ i, i < j → (es.getD i ⟨0, 0⟩ == ⟨a, b⟩) = false)) (fun i _ => es.length - (intOf i).toNat)
  case atStart => exact ⟨0, Nat.zero_le _, rfl, hide (by repeat (first | exact Ext.refl _ | exact Ext.pre (by simp) | exact Ext.alloc (by assumption) _ | refine Ext.alloc ?_ _ |  refine Ext.more ?_ _ _ | refine Ext.drew ?_ | refine Ext.drewN ?_ _)), Hbx, hide (fun i hi => absurd hi (by omega))⟩
  case round =>
    obtain ⟨j, hj, rfl, HX, HB, Hj⟩ := hrel
    by_cases hlt : j < es.length
    · obtain ⟨b1, o1, rfl, hb1, c0, c1⟩ := Edges.at_ (RowOf.ext edgeC Hr.out HX.out) hlt
      have hlt' : (j : Int) < (es.length : Int) := by omega
      have hx0 : wr.cell? ⟨w.heap.size, 0, none⟩ = some (.int .i64 a) := by have := HB.out; simp [World.cell?, this]
      have hx1 : wr.cell? ⟨w.heap.size, 1, none⟩ = some (.int .i64 b) := by have := HB.out; simp [World.cell?, this]
      have hwl : w.heap.size < wr.heap.size := lt_of_obj HB.out
      have Hy : Hid (es.getD j ⟨0, 0⟩ = es[j]'hlt) := hide (by simp [hlt])
      have Ha : Hid ((es[j]'hlt).a = (es[j]'hlt).a) := hide rfl
      generalize hea : (es[j]'hlt).a = ea at *
      generalize heb : (es[j]'hlt).b = eb at *
      have Hea := hide hea
      have Heb := hide heb
      clear hea heb Ha
      by_cases hs : a = ea ∧ b = eb
      · obtain ⟨h1, h2⟩ := hs
        have hR := Hat.out j hlt Hj.out (by rw [Hy.out, edge_beq, Hea.out, Heb.out, h1, h2]; simp)
        subst hR
        subst h1 h2
        have hw2 : IntKind.i64.wrap 0 = 0 := rfl
        go_wp2
        go_region
        go_wp2
        go_ret
        exact ⟨rfl, HX.out.trans (by repeat (first | exact Ext.refl _ | exact Ext.pre (by simp) | exact Ext.alloc (by assumption) _ | refine Ext.alloc ?_ _ |  refine Ext.more ?_ _ _ | refine Ext.drew ?_ | refine Ext.drewN ?_ _))⟩
      · have hb2 : (es.getD j ⟨0, 0⟩ == ⟨a, b⟩) = false := by
          rw [Hy.out, edge_beq, Hea.out, Heb.out]
          simp only [Bool.and_eq_false_iff, beq_eq_false_iff_ne]
          by_cases e : ea = a
          · exact .inr (fun e2 => hs ⟨e.symm, e2.symm⟩)
          · exact .inl e
        have Hb2 := hide hb2
        have Hs := hide hs
        clear hb2 hs
        by_cases e1 : a = ea
        · have e2 : ¬ b = eb := fun h => Hs.out ⟨e1, h⟩
          go_wp2
          go_region
          go_wp2
          go_roundw
          case rel =>
            refine ⟨j + 1, hlt, by go_num, hide (HX.out.trans (by repeat (first | exact Ext.refl _ | exact Ext.pre (by simp) | exact Ext.alloc (by assumption) _ | refine Ext.alloc ?_ _ |  refine Ext.more ?_ _ _ | refine Ext.drew ?_ | refine Ext.drewN ?_ _))), HB, hide (fun i hi => ?_)⟩
            by_cases hij : i = j
            · rw [hij]; exact Hb2.out
            · exact Hj.out i (by omega)
          case measure => simp [intOf]; omega
        · go_wp2
          go_region
          go_wp2
          go_roundw
          case rel =>
            refine ⟨j + 1, hlt, by go_num, hide (HX.out.trans (by repeat (first | exact Ext.refl _ | exact Ext.pre (by simp) | exact Ext.alloc (by assumption) _ | refine Ext.alloc ?_ _ |  refine Ext.more ?_ _ _ | refine Ext.drew ?_ | refine Ext.drewN ?_ _))), HB, hide (fun i hi => ?_)⟩
            by_cases hij : i = j
            · rw [hij]; exact Hb2.out
            · exact Hj.out i (by omega)
          case measure => simp [intOf]; omega
    · have hge : (es.length : Int) ≤ (j : Int) := by omega
      have hR := Hno.out (fun i hi => Hj.out i (by omega))
      subst hR
      go_wp2
      go_ret
      exact ⟨rfl, HX.out⟩

set_option maxRecDepth 10000 in
set_option maxHeartbeats 2000000 in
theorem contains_e (A : Option Addr) (cap : Nat) (es : List Edge) (a b : Int) (w : World) (h : Edges w A es) (hle : es.length ≤ 100000) :
    Calls Try.prog 62 #[.slice A es.length cap, .agg #[.int .i64 a, .int .i64 b]] w fun e w' => e = .returned (.bool (es.any (· == ⟨a, b⟩))) ∧ Ext w w' := by
  have Hi := hide (fun w' (e : Ext w w') => hide (index_e A cap es a b w' (RowOf.ext edgeC h e) hle))
  rw [← idxI_ge]
  clear h
  generalize idxI es ⟨a, b⟩ = R at *
  go_enter Try.func62, Try.ntmps62
  go_wp2_with fail
  refine (Hi.out _ (by repeat (first | exact Ext.refl _ | exact Ext.pre (by simp) | exact Ext.alloc (by assumption) _ | refine Ext.alloc ?_ _ |  refine Ext.more ?_ _ _ | refine Ext.drew ?_ | refine Ext.drewN ?_ _))).out.mono ?_
  rintro e w1 ⟨rfl, l1, d1, rfl⟩
  go_wp2
  go_ret
  exact ⟨rfl, (by repeat (first | exact Ext.refl _ | exact Ext.pre (by simp) | exact Ext.alloc (by assumption) _ | refine Ext.alloc ?_ _ |  refine Ext.more ?_ _ _ | refine Ext.drew ?_ | refine Ext.drewN ?_ _))⟩

/-- Does a group go round? -/
def roundL (es : List Edge) (g : List Nat) : Bool := decide (1 < g.length) || es.any (· == ⟨(g.getD 0 0 : Nat), (g.getD 0 0 : Nat)⟩)
set_option maxRecDepth 10000 in
set_option maxHeartbeats 2000000 in
theorem g_round (A B : Option Addr) (capA cap : Nat) (g : List Nat) (es : List Edge) (w : World) (hg : Ints w A (zs g)) (hg0 : 0 < g.length) (hgl : g.length ≤ 1000) (h : Edges w B es) (hle : es.length ≤ 100000) :
    Calls Try.prog 45 #[.slice A g.length capA, .slice B es.length cap] w fun e w' => e = .returned (.bool (roundL es g)) ∧ Ext w w' := by
  have hz : 0 < (zs g).length := by rw [zs_len]; exact hg0
  obtain ⟨b1, o1, rfl, hb1, q1⟩ := hg.at_ hz
  rw [zs_get _ hz hg0, Nat.add_zero] at q1
  have Hv : Hid (g.getD 0 0 = g[0]'hg0) := hide (by simp [hg0])
  have HG : Hid (roundL es g = (decide (1 < g.length) || es.any (· == ⟨(g.getD 0 0 : Nat), (g.getD 0 0 : Nat)⟩))) := hide rfl
  have Hc := hide (fun v w' (e : Ext w w') => hide (contains_e B cap es v v w' (RowOf.ext edgeC h e) hle))
  generalize roundL es g = R at *
  clear h hg
  generalize g[0]'hg0 = v at *
  by_cases h1 : 1 < g.length
  · have hR : R = true := by rw [HG.out]; simp [h1]
    clear HG
    subst hR
    have hd : (g.length : Int) > 1 := by omega
    have hd2 : decide ((g.length : Int) > 1) = true := by simpa using hd
    go_enter Try.func45, Try.ntmps45
    go_wp2
    go_quiet (fail)
    go_wp2
    go_ret
    exact ⟨rfl, (by repeat (first | exact Ext.refl _ | exact Ext.pre (by simp) | exact Ext.alloc (by assumption) _ | refine Ext.alloc ?_ _ |  refine Ext.more ?_ _ _ | refine Ext.drew ?_ | refine Ext.drewN ?_ _))⟩
  · have hR : R = es.any (· == ⟨(v : Nat), (v : Nat)⟩) := by rw [HG.out, Hv.out]; simp [h1]
    clear HG
    rw [hR]
    clear hR
    have Hc2 := Hc.out (v : Int)
    generalize es.any (· == ⟨(v : Nat), (v : Nat)⟩) = RR at *
    have HC := hide Hc2
    clear Hc2 Hc
    have hd : ¬ (g.length : Int) > 1 := by omega
    have hd2 : decide ((g.length : Int) > 1) = false := by simpa using hd
    have hl0 : (0 : Int) < (g.length : Int) := by omega
    go_enter Try.func45, Try.ntmps45
    go_wp2
    go_region_held3 (fun w' => w'.cell? ⟨b1, o1, none⟩ = some (.int .i64 (v : Int))) (first | assumption | go_keep) (
      (go_at_call 62
       refine Calls.mono (HC.out _ ?e).out ?_
       case e => exact (Ext.refl w).drew
       rintro e w8 ⟨rfl, l8, d8, rfl⟩
       have q8 : (more w l8 d8).cell? ⟨b1, o1, none⟩ = some (.int .i64 (v : Int)) := (cell_more w l8 d8 b1 o1 hb1).trans q1))
    go_wp2
    go_ret
    exact ⟨rfl, (by repeat (first | exact Ext.refl _ | exact Ext.pre (by simp) | exact Ext.alloc (by assumption) _ | refine Ext.alloc ?_ _ |  refine Ext.more ?_ _ _ | refine Ext.drew ?_ | refine Ext.drewN ?_ _))⟩

end Go.Proofs.Ytnbnhchgkbbiiaa
