/- Contract: what is reached from a vertex. -/
import Derived.Test.YtnbnhchgkbbiiaaGrC
namespace Go.Proofs.Ytnbnhchgkbbiiaa
open Go.RowKit

def nextN (es : List Edge) (v : Nat) : List Nat := (nextL es v).map Int.toNat
theorem succ_next {n : Nat} {es : List Edge} {ts : List SlV} (hok : ∀ e ∈ es, edgeOk n e = true) (hts : ts.length = n) (hl : ∀ v (h : v < ts.length), (ts[v]'h).l = nextL es v) : succOf ts = nextN es := by
  funext v
  unfold succOf nextN
  congr 1
  by_cases h : v < ts.length
  · simp [h, hl v h]
  · have hnil : nextL es v = [] := by
      unfold nextL
      simp only [List.map_eq_nil_iff, List.filter_eq_nil_iff]
      intro e he hv
      have := hok e he
      unfold edgeOk at this
      simp at this hv
      omega
    simp [h, hnil]
theorem all_in {n : Nat} {es : List Edge} {ts : List SlV} (hok : ∀ e ∈ es, edgeOk n e = true) (hts : ts.length = n) (hl : ∀ v (h : v < ts.length), (ts[v]'h).l = nextL es v) : AllIn ts := by
  intro s hs y hy
  obtain ⟨v, hv, rfl⟩ := List.getElem_of_mem hs
  rw [hl v hv] at hy
  unfold nextL at hy
  obtain ⟨e, he, rfl⟩ := List.mem_map.1 hy
  have := hok e (List.mem_filter.1 he).1
  unfold edgeOk at this
  simp at this
  rw [hts]
  omega
theorem markCells_none (n : Nat) : markCells n (fun _ => false) = Array.replicate n (.bool false) := by
  unfold markCells
  rw [List.map_const']
  simp
theorem zero_marks : Try.zeroCells68 = Array.replicate 1000 (.bool false) := by kernel_rfl
def markedL (M : Nat → Bool) (k : Nat) : List Int := ((List.range k).filter M).map Int.ofNat
theorem markedL_succ (M : Nat → Bool) (k : Nat) : markedL M (k + 1) = markedL M k ++ if M k then [(k : Int)] else [] := by
  unfold markedL
  rw [List.range_succ, List.filter_append, List.map_append]
  cases h : M k <;> simp [h]
theorem markedL_len (M : Nat → Bool) (k : Nat) : (markedL M k).length ≤ k := by
  unfold markedL
  have := List.length_filter_le M (List.range k)
  simpa using this

set_option maxRecDepth 10000 in
set_option maxHeartbeats 4000000 in
theorem g_reach (n v : Nat) (A : Option Addr) (cap : Nat) (es : List Edge) (w : World) (h : Edges w A es) (hg : graphOk n es = true) (hlen : es.length ≤ 100000) (hv : v < n) :
    Calls Try.prog 22 #[.int .i64 n, .slice A es.length cap, .int .i64 v] w fun e w' => (∃ A' cap' p, e = .returned (.slice A' (markedL p n).length cap') ∧ (markedL p n).length ≤ cap' ∧ cap' ≤ 9223372036854775807 ∧ Ints w' A' (markedL p n) ∧ ∀ x, p x = true ↔ SR (nextN es) v x) ∧ Ext w w' := by
  have hn : n ≤ 1000 := by unfold graphOk at hg; simp at hg; omega
  have hok : ∀ e ∈ es, edgeOk n e = true := by unfold graphOk at hg; simp at hg; exact hg.2
  have Hc := hide (g_check n A cap es w h hlen)
  rw [hg] at Hc
  have Hr := hide h
  have Hok := hide hok
  have hv' : (v : Int) < (n : Int) := by omega
  have hv0 : ¬ (v : Int) < 0 := by omega
  have hv1 : ¬ (n : Int) ≤ (v : Int) := by omega
  obtain ⟨i0, hi, hz0, hz1, hz2⟩ := info_parts int_info
  clear h hg hok
  go_enter Try.func22, Try.ntmps22
  go_wp2_with fail
  refine Hc.out.mono ?_
  rintro e w1 ⟨rfl, l1, d1, rfl⟩
  go_wp2_with fail
  refine (g_next n A cap es _ (RowOf.ext edgeC Hr.out (by repeat (first | exact Ext.refl _ | exact Ext.pre (by simp) | exact Ext.alloc (by assumption) _ | refine Ext.alloc ?_ _ |  refine Ext.more ?_ _ _ | refine Ext.drew ?_ | refine Ext.drewN ?_ _))) hn hlen Hok.out).mono ?_
  rintro e w2 ⟨⟨b, ts, rfl, hts, hT, hL⟩, hx2⟩
  subst hts
  have Hs := hide (succ_next Hok.out rfl hL)
  have Hin := hide (all_in Hok.out rfl hL)
  have HT := hide hT
  have HX2 : Hid (Ext w w2) := hide (Ext.trans (by repeat (first | exact Ext.refl _ | exact Ext.pre (by simp) | exact Ext.alloc (by assumption) _ | refine Ext.alloc ?_ _ |  refine Ext.more ?_ _ _ | refine Ext.drew ?_ | refine Ext.drewN ?_ _)) hx2)
  have HM : Hid (Marks 68 w2 (w.heap.size + l1.length) (fun _ => false)) := hide (by
    unfold Marks
    rw [markCells_none, ← zero_marks]
    exact (hx2.heap (by simp)).trans (at_newB _ _ _ (by simp)))
  have hszb : w.heap.size + l1.length < ((more w l1 d1).alloc (.cells Try.zeroCells68 68)).heap.size := by simp
  clear hT hL hx2
  go_wp2_with fail
  refine (g_from 68 (w.heap.size + l1.length) b ts _ hszb hn Hin.out _ _ v w2 rfl hv HT.out HM.out).mono ?_
  rintro e w3 ⟨rfl, hg3, M3, hM3, hD3⟩
  have HM3 := hide hM3
  have hmb3 : w.heap.size + l1.length < w3.heap.size := lt_of_obj hM3
  have HX3 : Hid (Ext w w3) := hide (HX2.out.grown hg3 (by intro j hj; injection hj with hj; omega))
  have HP : Hid (∀ x, M3 x = true ↔ SR (nextN es) v x) := hide (by rw [← Hs.out]; exact hD3.all)
  clear hg3 hM3 hD3 HM HT Hs Hin hszb
  have hn2 : (ts.length : Int) ≤ 1000 := by omega
  go_wp2
  go_loopw [8, 29] (fun u i wr => ∃ (k : Nat), k ≤ ts.length ∧ i = .int .i64 k ∧ Hid (Ext w3 wr) ∧ Hid (wr.ownsRow w3.heap.size 3 1 u (markedL M3 k).length ((markedL M3 k).map (Value.int .i64)))) (fun _ i _ => ts.length - (intOf i).toNat)
  case atStart => exact ⟨0, Nat.zero_le _, rfl, hide (Ext.refl _), hide (World.ownsRow_nil _ _ _ _)⟩
  case round =>
    obtain ⟨k, hk, rfl, HX, HO⟩ := hrel
    by_cases hlt : k < ts.length
    · have hlt' : (k : Int) < (ts.length : Int) := by omega
      have hk0 : (0 : Int) ≤ (k : Int) := by omega
      have hk1 : (k : Int) < 1000 := by omega
      have hcm : wr.cell? ⟨w.heap.size + l1.length, k, none⟩ = some (.bool (M3 k)) := (World.cell?_of_block (a := ⟨w.heap.size + l1.length, k, none⟩) (HX.out.heap hmb3)).trans (HM3.out.cell (by omega))
      have Hsu := hide (markedL_succ M3 k)
      have hml := markedL_len M3 k
      generalize hLk : markedL M3 k = L at *
      have HLk := hide hLk
      clear hLk
      cases hMk : M3 k
      · rw [hMk] at hcm Hsu
        go_wp2
        go_roundw
        case rel => exact ⟨k + 1, hlt, by go_num, HX, hide (by rw [Hsu.out]; simpa using HO.out)⟩
        case measure => simp [intOf]; omega
      · rw [hMk] at hcm Hsu
        go_wp2_with (at_builtin; refine wpList_append_row _ rfl _ _ 31 rfl w3.heap.size 3 i0 _ 1 8 Try.underlying31 hi hz0 hz1 hz2 rfl (by decide) u8 L.length (L.map (Value.int .i64)) rfl (HO.out.alloc _) _ 1 1 [.int .i64 k] rfl ?c2 ?c3 ?c4 ?c5 ?c6 ?_)
        case c2 => exact Row.boxV _ (at_newB _ _ _ (by simp))
        case c3 => first | rfl | (intro y hy; simp at hy; subst hy; rfl)
        case c4 => unfold maxLen; omega
        case c5 => omega
        case c6 => have := HX.out.size; simp; omega
        intro v4 w4 hown4 hg4 _
        have X4 := hide (Ext.app (HX.out.alloc _) hg4 (HO.out.alloc _) (Nat.le_refl _))
        have O4 := hide hown4
        clear hown4 hg4
        go_wp2
        go_roundw
        case rel => exact ⟨k + 1, hlt, by go_num, X4, hide (by rw [Hsu.out]; simpa using O4.out)⟩
        case measure => simp [intOf]; omega
    · have hge : (ts.length : Int) ≤ (k : Int) := by omega
      have hkn : k = ts.length := by omega
      rw [hkn] at HO
      clear hkn
      obtain ⟨A5, c5, rfl, p1, p2, p3, _⟩ := Ints.own HO.out
      have P3 := hide p3
      clear p3
      go_wp2
      go_ret
      exact ⟨⟨A5, c5, M3, rfl, p1, p2, P3.out, HP.out⟩, HX3.out.trans HX.out⟩

end Go.Proofs.Ytnbnhchgkbbiiaa
