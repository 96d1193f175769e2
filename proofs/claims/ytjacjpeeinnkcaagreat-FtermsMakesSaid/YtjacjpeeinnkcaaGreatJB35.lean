/- Contract: what names become within a term that binds some. (A program of ours has printed it.) -/
import Derived.Test.YtjacjpeeinnkcaaGreatJB34
import Derived.Laws.IdiomRangeMap
/- Contract: what names become within a term that binds some. (A program of ours has printed it.) -/
namespace Go.Proofs.YtjacjpeeinnkcaaGreat
open Go.RowKit Go.Sort Go.Maps

theorem grown_trW {a b c : World} {row : Option Nat} (h : a.grownBy b row) (k : b.grownBy c row) : a.grownBy c row := ⟨k.os.trans h.os, k.tape.trans h.tape, k.output.trans h.output, Nat.le_trans h.size k.size, fun j hj hne => (k.block j (Nat.lt_of_lt_of_le hj h.size) hne).trans (h.block j hj hne)⟩
theorem MapS.setC {w : World} {b n c : Nat} {f : Str → Option Str} (h : MapS w b n f) (hc : c ≠ b) (i : Nat) (v : Value) : MapS (w.setCell ⟨c, i, none⟩ v) b n f :=
  h.grown (grown_cell w c i v) (fun e => hc (by injection e))

set_option maxRecDepth 100000 in
set_option maxHeartbeats 4000000 in
theorem c_within_none (w : World) (V T : Option Addr) (vn vc tn tc n : Nat) (f : Str → Option Str) (A : Option Addr) (cap : Nat) (l : List Str) (hf : ∀ s, f s = none) (hl : Strs w A l) (hs : ∀ x ∈ l, x.length ≤ 9223372036854775807) (hn : n ≤ 1000000000) (hln : l.length ≤ 1000000000) :
    Calls Tryz.prog 115 #[.agg #[.map none, .slice V vn vc, .slice T tn tc], .slice A l.length cap] w fun e w' => (∃ b, e = .returned (.agg #[.map (some b), .slice V vn vc, .slice T tn tc]) ∧ w.heap.size ≤ b ∧ MapS w' b (n + l.length) (fun s => if l.any (· == s) then some s else f s)) ∧ Ext w w' := by
  have hmm := @run_makeMap Tryz.prog
  obtain ⟨W, hW⟩ : ∃ W, W = ((w.alloc (.cells #[.map none, .slice V vn vc, .slice T tn tc] 110)).alloc (.cells #[.map none, .slice none 0 0, .slice none 0 0] 110)).alloc (.map #[] 0) := ⟨_, rfl⟩
  have HW := hide hW.symm
  have hWs : W.heap.size = w.heap.size + 3 := by rw [hW]; simp
  have X0 : Hid (Ext w W) := hide (by rw [hW]; exact (((Ext.refl _).alloc _).alloc _).alloc _)
  have B0 : Hid (W.heap[w.heap.size]? = some (.cells #[.map none, .slice V vn vc, .slice T tn tc] 110 (0, 0))) := hide (by rw [hW]; exact (((Ext.refl _).alloc _).alloc _).heap (by simp) |>.trans (at_newB _ _ _ rfl))
  have B1 : Hid (W.heap[w.heap.size + 1]? = some (.cells #[.map none, .slice none 0 0, .slice none 0 0] 110 (0, 0))) := hide (by rw [hW]; exact ((Ext.refl _).alloc _).heap (by simp) |>.trans (at_newB _ _ _ (by simp)))
  have M0 : Hid (MapS W (w.heap.size + 2) n f) := hide (by
    have := (MapS.new ((w.alloc (.cells #[.map none, .slice V vn vc, .slice T tn tc] 110)).alloc (.cells #[.map none, .slice none 0 0, .slice none 0 0] 110)))
    rw [← hW] at this
    obtain ⟨D, h1, h2⟩ := this
    simp only [World.size_alloc] at h1
    exact ⟨D, h1.mono (Nat.zero_le _), fun s => by rw [h2 s, hf s]⟩)
  have hrg := run_range_nilMap (P := Tryz.prog) W 108 9 9 Tryz.underlying108
  have hnx : ∀ ty, (Instr.next (.pointer (some ⟨W.heap.size, 0, none⟩)) false ty).run Tryz.prog (W.alloc (.mapIter none 0 #[] 0)) = _ := fun ty => run_next_nilMap _ ty 0 0 #[]
  rw [hWs] at hrg hnx
  have Hl := hide hl
  have Hs := hide hs
  generalize hF : (fun s => if l.any (· == s) then some s else f s) = F
  have HF := hide hF
  clear hF
  obtain ⟨k0, k1, k2⟩ := And.intro (bytes_block B0.out 0) (And.intro (bytes_block B0.out 1) (bytes_block B0.out 2))
  simp only [List.getElem?_toArray, List.getElem?_cons_zero, List.getElem?_cons_succ] at k0 k1 k2
  clear hl hs hf hW
  go_enter Tryz.func115, Tryz.ntmps115
  go_upto_region 2 with fail
  rw [HW.out]
  go_wp2
  refine wp_loop_rounds 1 ?_
  rw [rounds_succ]
  have HMA : Hid (MapS (W.alloc (.mapIter none 0 #[] 0)) (w.heap.size + 2) n f) := hide (M0.out.ext ((Ext.refl _).alloc _))
  have HXA : Hid (Ext w (W.alloc (.mapIter none 0 #[] 0))) := hide (X0.out.alloc _)
  have HA0 := hide ((((Ext.refl W).alloc (.mapIter none 0 #[] 0)).heap (lt_of_obj B0.out)).trans B0.out)
  have HA1 := hide ((((Ext.refl W).alloc (.mapIter none 0 #[] 0)).heap (lt_of_obj B1.out)).trans B1.out)
  clear k0 k1 k2 B0 B1 M0 X0 HW hrg
  generalize W.alloc (.mapIter none 0 #[] 0) = wA at *
  have HM0 := hide (show MapS wA (w.heap.size + 2) (n + 0) (fun s => if (l.take 0).any (· == s) then some s else f s) from HMA.out)
  clear HMA
  go_wp2
  go_loopw [24] (fun i wr => ∃ k : Nat, k ≤ l.length ∧ i = .int .i64 k ∧ Hid (MapS wr (w.heap.size + 2) (n + k) (fun s => if (l.take k).any (· == s) then some s else f s)) ∧ Hid (wA.grownBy wr (some (w.heap.size + 2)))) (fun i _ => l.length - (intOf i).toNat)
  case atStart => exact ⟨0, Nat.zero_le _, rfl, HM0, hide (World.grownBy.refl _ _)⟩
  case round =>
    obtain ⟨k, hk, rfl, HM, HG⟩ := hrel
    have HXr : Hid (Ext w wr) := hide (HXA.out.grown HG.out (fun j e => by injection e with e; omega))
    by_cases hlt : k < l.length
    · have hlt' : (k : Int) < (l.length : Int) := by omega
      have hk0 : (0 : Int) ≤ (k : Int) := by omega
      obtain ⟨bb, o, rfl, hbb, q0⟩ := (Hl.out.ext HXr.out).at_ hlt
      have hxm : l.getD k [] ∈ l := by rw [List.getD_eq_getElem?_getD, List.getElem?_eq_getElem hlt]; exact List.getElem_mem hlt
      have hx := Hs.out _ hxm
      have Htk : Hid (∀ s, (l.take (k + 1)).any (· == s) = ((l.take k).any (· == s) || (l.getD k [] == s))) := hide (fun s => by
        rw [List.take_succ_eq_append_getElem hlt, List.any_append, List.getD_eq_getElem?_getD, List.getElem?_eq_getElem hlt]
        simp)
      obtain ⟨D', ho', hk'⟩ := HM.out
      have HK' := hide hk'
      clear hxm hk' HM
      generalize l.getD k [] = x at *
      go_wp2_with (at_mapUpdate; refine wpList_mapUpdate_own _ rfl _ _ _ 108 rfl 9 9 key_law Tryz.underlying108 _ (w.heap.size + 2) (n + k) D' rfl ho' (by unfold maxLen; omega) _ _ _ rfl rfl (key_of hx) (strD x) [] (elem_str hx) ?_; intro w5 ho5 hg5; go_frame)
      have HM5 : Hid (MapS w5 (w.heap.size + 2) (n + (k + 1)) (fun s => if (l.take (k + 1)).any (· == s) then some s else f s)) := hide ⟨_, ho5, fun s => by
        rw [lookD_put _ ho'.isMap, HK'.out s]
        dsimp only
        rw [Htk.out s]
        by_cases e : s = x
        · subst e; simp
        · have : (x == s) = false := by simpa using fun h => e h.symm
          rw [if_neg e, this, Bool.or_false]⟩
      have HG5 := hide (grown_trW HG.out hg5)
      clear ho' ho5 hg5
      go_wp2
      go_roundw
      case rel => exact ⟨k + 1, hlt, by go_num, HM5, HG5⟩
      case measure => simp [intOf]; omega
    · have hge : ¬ (k : Int) < (l.length : Int) := by omega
      have HMF : Hid (MapS wr (w.heap.size + 2) (n + l.length) F) := hide (by have := HM.out; rwa [show k = l.length by omega, List.take_length, HF.out] at this)
      have C0 := hide ((HG.out.block _ (lt_of_obj HA0.out) (fun e => by injection e with e; omega)).trans HA0.out)
      have C1 := hide ((HG.out.block _ (lt_of_obj HA1.out) (fun e => by injection e with e; omega)).trans HA1.out)
      have k0 := bytes_block C0.out 0
      have k1 := bytes_block C0.out 1
      have k2 := bytes_block C0.out 2
      have j0 := bytes_block C1.out 0
      have j1 := bytes_block C1.out 1
      have j2 := bytes_block C1.out 2
      have f0 := free_block C0.out 0
      have g0 := free_block C1.out 0
      have g1 := free_block C1.out 1
      have g2 := free_block C1.out 2
      simp only [List.getElem?_toArray, List.getElem?_cons_zero, List.getElem?_cons_succ] at k0 k1 k2 j0 j1 j2
      have XF : Hid (Ext w ((((wr.setCell ⟨w.heap.size, 0, none⟩ (.map (some (w.heap.size + 2)))).setCell ⟨w.heap.size + 1, 0, none⟩ (.map (some (w.heap.size + 2)))).setCell ⟨w.heap.size + 1, 1, none⟩ (.slice V vn vc)).setCell ⟨w.heap.size + 1, 2, none⟩ (.slice T tn tc))) := hide ((((HXr.out.setCell (by simp) _).setCell (by simp) _).setCell (by simp) _).setCell (by simp) _)
      have MF : Hid (MapS ((((wr.setCell ⟨w.heap.size, 0, none⟩ (.map (some (w.heap.size + 2)))).setCell ⟨w.heap.size + 1, 0, none⟩ (.map (some (w.heap.size + 2)))).setCell ⟨w.heap.size + 1, 1, none⟩ (.slice V vn vc)).setCell ⟨w.heap.size + 1, 2, none⟩ (.slice T tn tc)) (w.heap.size + 2) (n + l.length) F) := hide ((((HMF.out.setC (by simp) _ _).setC (by simp) _ _).setC (by simp) _ _).setC (by simp) _ _)
      clear HM HMF
      go_wp2
      refine bodyPost_ret (v := .agg #[.map (some (w.heap.size + 2)), .slice V vn vc, .slice T tn tc]) ?_ rfl ⟨⟨w.heap.size + 2, rfl, by omega, MF.out⟩, XF.out⟩
      simp [results, Tryz.f115, go_sem, j0, j1, j2]

set_option maxRecDepth 100000 in
set_option maxHeartbeats 4000000 in
theorem c_within_some (w : World) (b : Nat) (V T : Option Addr) (vn vc tn tc n : Nat) (f : Str → Option Str) (A : Option Addr) (cap : Nat) (l : List Str) (hf : MapS w b n f) (hl : Strs w A l) (hs : ∀ x ∈ l, x.length ≤ 9223372036854775807) (hn : n ≤ 1000000000) (hln : l.length ≤ 1000000000) :
    Calls Tryz.prog 115 #[.agg #[.map (some b), .slice V vn vc, .slice T tn tc], .slice A l.length cap] w fun e w' => (∃ b, e = .returned (.agg #[.map (some b), .slice V vn vc, .slice T tn tc]) ∧ w.heap.size ≤ b ∧ MapS w' b (n + l.length) (fun s => if l.any (· == s) then some s else f s)) ∧ Ext w w' := by
  have hmm := @run_makeMap Tryz.prog
  obtain ⟨W, hW⟩ : ∃ W, W = ((w.alloc (.cells #[.map (some b), .slice V vn vc, .slice T tn tc] 110)).alloc (.cells #[.map none, .slice none 0 0, .slice none 0 0] 110)).alloc (.map #[] 0) := ⟨_, rfl⟩
  have HW := hide hW.symm
  have hWs : W.heap.size = w.heap.size + 3 := by rw [hW]; simp
  have X0 : Hid (Ext w W) := hide (by rw [hW]; exact (((Ext.refl _).alloc _).alloc _).alloc _)
  have B0 : Hid (W.heap[w.heap.size]? = some (.cells #[.map (some b), .slice V vn vc, .slice T tn tc] 110 (0, 0))) := hide (by rw [hW]; exact (((Ext.refl _).alloc _).alloc _).heap (by simp) |>.trans (at_newB _ _ _ rfl))
  have B1 : Hid (W.heap[w.heap.size + 1]? = some (.cells #[.map none, .slice none 0 0, .slice none 0 0] 110 (0, 0))) := hide (by rw [hW]; exact ((Ext.refl _).alloc _).heap (by simp) |>.trans (at_newB _ _ _ (by simp)))
  obtain ⟨D, ho, hk⟩ := hf
  have hbl := ho.lt
  have HO : Hid (W.ownsMap Tryz.prog 9 (plainElem Tryz.prog 9) b n D) := hide (by rw [hW]; exact ((ho.alloc _).alloc _).alloc _)
  have HK := hide hk
  have HM0 : Hid (W.ownsMap (H := Unit) Tryz.prog 9 (plainElem Tryz.prog 9) (w.heap.size + 2) 0 (.map [])) := hide (by
    have := World.ownsMap_made (H := Unit) ((w.alloc (.cells #[.map (some b), .slice V vn vc, .slice T tn tc] 110)).alloc (.cells #[.map none, .slice none 0 0, .slice none 0 0] 110)) Tryz.prog 9 (plainElem Tryz.prog 9)
    rw [← hW] at this
    simpa using this)
  have hsD := ho.size_le
  have Hl := hide hl
  have Hs := hide hs
  generalize hF : (fun s => if l.any (· == s) then some s else f s) = F
  have HF := hide hF
  clear hF
  obtain ⟨k0, k1, k2⟩ := And.intro (bytes_block B0.out 0) (And.intro (bytes_block B0.out 1) (bytes_block B0.out 2))
  simp only [List.getElem?_toArray, List.getElem?_cons_zero, List.getElem?_cons_succ] at k0 k1 k2
  clear hl hs ho hk hW
  go_enter Tryz.func115, Tryz.ntmps115
  go_upto_region 2 with fail
  rw [HW.out]
  go_wp2_with (first
    | (at_range; refine wpList_range_own _ rfl _ 108 rfl 9 9 key_law Tryz.underlying108 _ b n D rfl HO.out ?_; intro w0 hrg0 hg0 hs0)
    | go_in)
  go_frame
  rw [hWs] at hrg0 hs0 ⊢
  have X1 : Hid (Ext w w0) := hide (X0.out.grown hg0 (fun j e => by cases e))
  have A0 := hide ((hg0.block _ (lt_of_obj B0.out) (by simp)).trans B0.out)
  have A1 := hide ((hg0.block _ (lt_of_obj B1.out) (by simp)).trans B1.out)
  have HRG0 := hide hrg0
  have HM1 := hide (HM0.out.kept hg0 (by simp))
  clear hrg0 hg0 B0 B1 HM0 X0 HW k0 k1 k2
  go_loopw [6] (fun _ wr => ∃ (left : Lit → Bool) (cnt : Nat) (Dout : SD), Hid (wr.ranges Tryz.prog 9 (plainElem Tryz.prog 9) b (w.heap.size + 3) n D left cnt) ∧ cnt ≤ Maps.size D ∧
      Hid (wr.ownsMap Tryz.prog 9 (plainElem Tryz.prog 9) (w.heap.size + 2) (Maps.size D - cnt) Dout) ∧ Hid (Agree Dout D left) ∧ Hid (Ext w wr) ∧
      Hid (wr.heap[w.heap.size]? = some (.cells #[.map (some b), .slice V vn vc, .slice T tn tc] 110 (0, 0))) ∧ Hid (wr.heap[w.heap.size + 1]? = some (.cells #[.map none, .slice none 0 0, .slice none 0 0] 110 (0, 0))))
    (fun _ wr => wr.rangeLeft b (w.heap.size + 3))
  case atStart =>
    exact ⟨_, _, .map [], HRG0, Nat.le_refl _, by rw [Nat.sub_self]; exact HM1, hide (agree_start D), X1, A0, A1⟩
  case round =>
    obtain ⟨left, cnt, Dout, Hrg, hcs, Hout, HA, HX, HB0, HB1⟩ := hrel
    go_wp2_with (first
      | (at_next; refine wpList_next_ranges_ss _ rfl _ rfl 9 9 key_law Tryz.underlying9 Tryz.underlying9 b (w.heap.size + 3) n _ _ _ rfl Hrg.out ?_ ?_)
      | go_in)
    · intro hc0 hl0
      subst hc0
      have e := agree_end HA.out hl0 (Hout.out.canon key_law) (HO.out.canon key_law)
      subst e
      have HMA : Hid (MapS wr (w.heap.size + 2) n f) := hide ⟨_, Hout.out.mono (by omega), HK.out⟩
      have HXA := HX
      have HA0 := HB0
      have HA1 := HB1
      clear HX HB0 HB1 HA Hout Hrg hl0 X1 A0 A1 HRG0 HM1
      rename World => wA
      have HM0 := hide (show MapS wA (w.heap.size + 2) (n + 0) (fun s => if (l.take 0).any (· == s) then some s else f s) from HMA.out)
      clear HMA
      go_wp2
      go_loopw [24] (fun i wr => ∃ k : Nat, k ≤ l.length ∧ i = .int .i64 k ∧ Hid (MapS wr (w.heap.size + 2) (n + k) (fun s => if (l.take k).any (· == s) then some s else f s)) ∧ Hid (wA.grownBy wr (some (w.heap.size + 2)))) (fun i _ => l.length - (intOf i).toNat)
      case atStart => exact ⟨0, Nat.zero_le _, rfl, HM0, hide (World.grownBy.refl _ _)⟩
      case round =>
        obtain ⟨k, hk, rfl, HM, HG⟩ := hrel
        have HXr : Hid (Ext w wr) := hide (HXA.out.grown HG.out (fun j e => by injection e with e; omega))
        by_cases hlt : k < l.length
        · have hlt' : (k : Int) < (l.length : Int) := by omega
          have hk0 : (0 : Int) ≤ (k : Int) := by omega
          obtain ⟨bb, o, rfl, hbb, q0⟩ := (Hl.out.ext HXr.out).at_ hlt
          have hxm : l.getD k [] ∈ l := by rw [List.getD_eq_getElem?_getD, List.getElem?_eq_getElem hlt]; exact List.getElem_mem hlt
          have hx := Hs.out _ hxm
          have Htk : Hid (∀ s, (l.take (k + 1)).any (· == s) = ((l.take k).any (· == s) || (l.getD k [] == s))) := hide (fun s => by
            rw [List.take_succ_eq_append_getElem hlt, List.any_append, List.getD_eq_getElem?_getD, List.getElem?_eq_getElem hlt]
            simp)
          obtain ⟨D', ho', hk'⟩ := HM.out
          have HK' := hide hk'
          clear hxm hk' HM
          generalize l.getD k [] = x at *
          go_wp2_with (at_mapUpdate; refine wpList_mapUpdate_own _ rfl _ _ _ 108 rfl 9 9 key_law Tryz.underlying108 _ (w.heap.size + 2) (n + k) D' rfl ho' (by unfold maxLen; omega) _ _ _ rfl rfl (key_of hx) (strD x) [] (elem_str hx) ?_; intro w5 ho5 hg5; go_frame)
          have HM5 : Hid (MapS w5 (w.heap.size + 2) (n + (k + 1)) (fun s => if (l.take (k + 1)).any (· == s) then some s else f s)) := hide ⟨_, ho5, fun s => by
            rw [lookD_put _ ho'.isMap, HK'.out s]
            dsimp only
            rw [Htk.out s]
            by_cases e : s = x
            · subst e; simp
            · have : (x == s) = false := by simpa using fun h => e h.symm
              rw [if_neg e, this, Bool.or_false]⟩
          have HG5 := hide (grown_trW HG.out hg5)
          clear ho' ho5 hg5
          go_wp2
          go_roundw
          case rel => exact ⟨k + 1, hlt, by go_num, HM5, HG5⟩
          case measure => simp [intOf]; omega
        · have hge : ¬ (k : Int) < (l.length : Int) := by omega
          have HMF : Hid (MapS wr (w.heap.size + 2) (n + l.length) F) := hide (by have := HM.out; rwa [show k = l.length by omega, List.take_length, HF.out] at this)
          have C0 := hide ((HG.out.block _ (lt_of_obj HA0.out) (fun e => by injection e with e; omega)).trans HA0.out)
          have C1 := hide ((HG.out.block _ (lt_of_obj HA1.out) (fun e => by injection e with e; omega)).trans HA1.out)
          have k0 := bytes_block C0.out 0
          have k1 := bytes_block C0.out 1
          have k2 := bytes_block C0.out 2
          have j0 := bytes_block C1.out 0
          have j1 := bytes_block C1.out 1
          have j2 := bytes_block C1.out 2
          have f0 := free_block C0.out 0
          have g0 := free_block C1.out 0
          have g1 := free_block C1.out 1
          have g2 := free_block C1.out 2
          simp only [List.getElem?_toArray, List.getElem?_cons_zero, List.getElem?_cons_succ] at k0 k1 k2 j0 j1 j2
          have XF : Hid (Ext w ((((wr.setCell ⟨w.heap.size, 0, none⟩ (.map (some (w.heap.size + 2)))).setCell ⟨w.heap.size + 1, 0, none⟩ (.map (some (w.heap.size + 2)))).setCell ⟨w.heap.size + 1, 1, none⟩ (.slice V vn vc)).setCell ⟨w.heap.size + 1, 2, none⟩ (.slice T tn tc))) := hide ((((HXr.out.setCell (by simp) _).setCell (by simp) _).setCell (by simp) _).setCell (by simp) _)
          have MF : Hid (MapS ((((wr.setCell ⟨w.heap.size, 0, none⟩ (.map (some (w.heap.size + 2)))).setCell ⟨w.heap.size + 1, 0, none⟩ (.map (some (w.heap.size + 2)))).setCell ⟨w.heap.size + 1, 1, none⟩ (.slice V vn vc)).setCell ⟨w.heap.size + 1, 2, none⟩ (.slice T tn tc)) (w.heap.size + 2) (n + l.length) F) := hide ((((HMF.out.setC (by simp) _ _).setC (by simp) _ _).setC (by simp) _ _).setC (by simp) _ _)
          clear HM HMF
          go_wp2
          refine bodyPost_ret (v := .agg #[.map (some (w.heap.size + 2)), .slice V vn vc, .slice T tn tc]) ?_ rfl ⟨⟨w.heap.size + 2, rfl, by omega, MF.out⟩, XF.out⟩
          simp [results, Tryz.f115, go_sem, j0, j1, j2]
    · intro x c w1 cnt1 hx hcl hlx hat hrg1 hlt hg1 hs1 hen
      have hout1 := Hout.out.kept hg1 (by simp)
      have X2 := hide (HX.out.grown hg1 (fun j e => by injection e with e; omega))
      have B20 := hide ((hg1.block _ (lt_of_obj HB0.out) (fun e => by injection e with e; omega)).trans HB0.out)
      have B21 := hide ((hg1.block _ (lt_of_obj HB1.out) (fun e => by injection e with e; omega)).trans HB1.out)
      have HRG1 := hide hrg1
      have HAT := hide hat
      clear hrg1 hg1 hat hlx
      go_wp2_with (first
        | (at_mapUpdate; refine wpList_mapUpdate_own _ rfl _ _ _ 108 rfl 9 9 key_law Tryz.underlying108 _ (w.heap.size + 2) (Maps.size D - cnt) Dout rfl hout1 (by unfold maxLen; omega) _ _ _ rfl rfl (key_of hx) (strD c) [] (elem_str hcl) ?_; intro w2 hout2 hg2; go_frame)
        | go_in)
      have HRG2 := hide (HRG1.out.kept hg2 (fun e => by have := Option.some.inj e; omega) (fun e => by have := Option.some.inj e; omega))
      have X3 := hide (X2.out.grown hg2 (fun j e => by injection e with e; omega))
      have B30 := hide ((hg2.block _ (lt_of_obj B20.out) (fun e => by injection e with e; omega)).trans B20.out)
      have B31 := hide ((hg2.block _ (lt_of_obj B21.out) (fun e => by injection e with e; omega)).trans B21.out)
      have HO2 := hide (hout2.mono (n' := Maps.size D - cnt1) (by omega))
      have HA2 := hide (agree_step (kl := .string x) HA.out hout1.isMap trivial HAT.out)
      clear hout1 hout2 hg2
      go_roundw
      case rel => exact ⟨_, cnt1, _, HRG2, by omega, HO2, HA2, X3, B30, B31⟩
      case measure => rw [HRG2.out.left_eq, Hrg.out.left_eq]; exact hlt

/-- What names become within a term that binds some. -/
theorem c_within (w : World) (mv : Value) (V T : Option Addr) (vn vc tn tc n : Nat) (f : Str → Option Str) (A : Option Addr) (cap : Nat) (l : List Str) (hf : NmAt w mv n f) (hl : Strs w A l) (hs : ∀ x ∈ l, x.length ≤ 9223372036854775807) (hn : n ≤ 1000000000) (hln : l.length ≤ 1000000000) :
    Calls Tryz.prog 115 #[.agg #[mv, .slice V vn vc, .slice T tn tc], .slice A l.length cap] w fun e w' => (∃ b, e = .returned (.agg #[.map (some b), .slice V vn vc, .slice T tn tc]) ∧ w.heap.size ≤ b ∧ MapS w' b (n + l.length) (fun s => if l.any (· == s) then some s else f s)) ∧ Ext w w' := by
  rcases hf with ⟨rfl, h⟩ | ⟨b, rfl, h⟩
  · exact c_within_none w V T vn vc tn tc n f A cap l h hl hs hn hln
  · exact c_within_some w b V T vn vc tn tc n f A cap l h hl hs hn hln

end Go.Proofs.YtjacjpeeinnkcaaGreat

/- Contract: what variables become within a term that binds some. -/
namespace Go.Proofs.YtjacjpeeinnkcaaGreat
open Go.RowKit Go.Sort

theorem grown_own {W a b : World} {cb : Nat} {row : Option Nat} (h : W.grownBy a (some cb)) (k : a.grownBy b row) (hr : ∀ j, row = some j → W.heap.size ≤ j) : W.grownBy b (some cb) :=
  ⟨k.os.trans h.os, k.tape.trans h.tape, k.output.trans h.output, Nat.le_trans h.size k.size, fun j hj hne => (k.block j (Nat.lt_of_lt_of_le hj h.size) (fun e => by have := hr j e.symm; omega)).trans (h.block j hj hne)⟩
theorem rowI_succ (a : Int) (n : Nat) : rowI a (n + 1) = rowI a n ++ [a + (n : Nat)] := by
  unfold rowI
  rw [List.range_succ, List.map_append]
  rfl
/-- How the new numbers stand: what has been told, in two rows; the count. -/
structure OSt (W : World) (cb : Nat) (nv c nn : Int) (kx ky : Nat) (wr : World) (x y : Value) : Prop where
  g : W.grownBy wr (some cb)
  c : wr.heap[cb]? = some (.cells #[.int .i64 c, .int .i64 nn] 107 (0, 0))
  ox : wr.ownsRow W.heap.size 3 1 x kx ((rowI nv kx).map (Value.int .i64))
  oy : wr.ownsRow W.heap.size 55 3 y ky (((rowI nv ky).map varT).flatMap tyC.f)
  ne : ∀ j, x.ownBlock = some j → y.ownBlock ≠ some j
section
variable {W wr w2 : World} {cb : Nat} {nv c nn : Int} {kx ky : Nat} {x y x2 : Value}
theorem OSt.stepx (h : OSt W cb nv c nn kx ky wr x y) (hcb : cb < W.heap.size) (o : Obj) (ho : w2.ownsRow W.heap.size 3 1 x2 (kx + 1) ((rowI nv kx).map (Value.int .i64) ++ [.int .i64 (nv + (kx : Nat))]))
    (hg : (wr.alloc o).grownBy w2 x.ownBlock) (hat : x2.ownBlock = x.ownBlock ∨ x2.ownBlock = some (wr.heap.size + 1)) : OSt W cb nv c nn (kx + 1) ky w2 x2 y where
  g := (grown_own (grown_own h.g (ext_grown ((Ext.refl wr).alloc o) none) (fun j e => by cases e)) hg (fun j e => (h.ox.lt j e).1))
  c := (hg.block cb (by have := h.g.size; simp; omega) (fun e => by have := (h.ox.lt cb e.symm).1; omega)).trans ((((Ext.refl wr).alloc o).heap (lt_of_obj h.c)).trans h.c)
  ox := by rw [rowI_succ, List.map_append]; exact ho
  oy := (h.oy.alloc o).kept hg (by
    cases hx : x.ownBlock with
    | none => cases hy : y.ownBlock with
      | none => exact .inl rfl
      | some j => exact .inr (by simp)
    | some j => exact .inr (h.ne j hx))
  ne := fun j hj => by
    rcases hat with e | e
    · exact h.ne j (e ▸ hj)
    · intro hy
      rw [e] at hj
      injection hj with hj
      have := (h.oy.lt j hy).2
      omega
theorem OSt.stepy (h : OSt W cb nv c nn kx ky wr x y) (hcb : cb < W.heap.size) (o : Obj) (ho : w2.ownsRow W.heap.size 55 3 x2 (ky + 1) (((rowI nv ky).map varT).flatMap tyC.f ++ [.string ⟨#[]⟩, .int .i64 (nv + (ky : Nat)), .slice none 0 0]))
    (hg : (wr.alloc o).grownBy w2 y.ownBlock) (hat : x2.ownBlock = y.ownBlock ∨ x2.ownBlock = some (wr.heap.size + 1)) : OSt W cb nv c nn kx (ky + 1) w2 x x2 where
  g := (grown_own (grown_own h.g (ext_grown ((Ext.refl wr).alloc o) none) (fun j e => by cases e)) hg (fun j e => (h.oy.lt j e).1))
  c := (hg.block cb (by have := h.g.size; simp; omega) (fun e => by have := (h.oy.lt cb e.symm).1; omega)).trans ((((Ext.refl wr).alloc o).heap (lt_of_obj h.c)).trans h.c)
  oy := by rw [rowI_succ, List.map_append, List.flatMap_append]; exact ho
  ox := (h.ox.alloc o).kept hg (by
    cases hx : x.ownBlock with
    | none => exact .inl rfl
    | some j => exact .inr (fun e => h.ne j hx e.symm))
  ne := fun j hj => by
    rcases hat with e | e
    · rw [e]; exact h.ne j hj
    · intro hy
      rw [e] at hy
      injection hy with hy
      have := (h.ox.lt j hj).2
      omega
theorem OSt.stepc (h : OSt W cb nv c nn kx ky wr x y) (hcb : cb < W.heap.size) (d : Int) : OSt W cb nv d nn kx ky (wr.setCell ⟨cb, 0, none⟩ (.int .i64 d)) x y where
  g := grown_tr h.g (grown_cell wr cb 0 _)
  c := by have := blk_setCell h.c 0 (.int .i64 d); simpa using this
  ox := ownsRow_setCell_below h.ox (a := ⟨cb, 0, none⟩) hcb _
  oy := ownsRow_setCell_below h.oy (a := ⟨cb, 0, none⟩) hcb _
  ne := h.ne
end

theorem row_setC {w : World} {A : Option Addr} {k n b : Nat} {xs : List Value} (h : Row w A k n xs) (hA : ∀ c o, A = some ⟨c, o, none⟩ → c ≠ b) (i : Nat) (v : Value) : Row (w.setCell ⟨b, i, none⟩ v) A k n xs :=
  row_grown h (grown_cell w b i v) (fun hn a e he => by
    obtain ⟨bb, oo, e2, -, -⟩ := h.2 (by omega)
    rw [e2] at e
    injection e with e
    subst e
    injection he with he
    exact hA _ _ e2 he.symm)

set_option maxRecDepth 100000 in
set_option maxHeartbeats 8000000 in
theorem c_open (w : World) (r : Option Nat) (V T : Option Addr) (vc tc : Nat) (vs tys : List Int) (cb : Nat) (nv nn : Int) (A : Option Addr) (cap : Nat) (l : List Int)
    (hv : Ints w V vs) (ht : RowOf tyC w T (tys.map varT)) (hc : w.heap[cb]? = some (.cells #[.int .i64 nv, .int .i64 nn] 107 (0, 0))) (hl : Ints w A l)
    (ov : OffB cb V vs.length) (ot : OffB cb T tys.length) (ol : OffB cb A l.length) (h2 : l.length + vs.length ≤ 100000000) (h3 : l.length + tys.length ≤ 100000000) (hn0 : 0 ≤ nv) (hn1 : nv ≤ 1000000000000) :
    Calls Tryz.prog 113 #[.agg #[.map r, .slice V vs.length vc, .slice T tys.length tc], .pointer (some ⟨cb, 0, none⟩), .slice A l.length cap] w fun e w' =>
      (∃ V' vc' T' tc' A' cap', e = .returned (.tuple #[.agg #[.map r, .slice V' (l ++ vs).length vc', .slice T' (rowI nv l.length ++ tys).length tc'], .slice A' l.length cap']) ∧
        Ints w' V' (l ++ vs) ∧ RowOf tyC w' T' ((rowI nv l.length ++ tys).map varT) ∧ Ints w' A' (rowI nv l.length) ∧ (∀ c o, V' = some ⟨c, o, none⟩ → w.heap.size ≤ c) ∧ (∀ c o, T' = some ⟨c, o, none⟩ → w.heap.size ≤ c) ∧ (∀ c o, A' = some ⟨c, o, none⟩ → w.heap.size ≤ c) ∧ l.length ≤ cap' ∧ cap' ≤ 9223372036854775807) ∧
      w'.heap[cb]? = some (.cells #[.int .i64 (nv + (l.length : Nat)), .int .i64 nn] 107 (0, 0)) ∧ w.grownBy w' (some cb) := by
  obtain ⟨i0, hi, hz0, hz1, hz2⟩ := info_parts int64_info
  obtain ⟨j0, hj, hy0, hy1, hy2⟩ := info_parts ty_info3
  obtain ⟨W, hW⟩ : ∃ W, W = (w.alloc (.cells #[.map r, .slice V vs.length vc, .slice T tys.length tc] 110)).alloc (.cells #[.map none, .slice none 0 0, .slice none 0 0] 110) := ⟨_, rfl⟩
  have HW := hide hW.symm
  have hWs : W.heap.size = w.heap.size + 2 := by rw [hW]; simp
  have X0 : Hid (Ext w W) := hide (by rw [hW]; exact ((Ext.refl _).alloc _).alloc _)
  have B0 : Hid (W.heap[w.heap.size]? = some (.cells #[.map r, .slice V vs.length vc, .slice T tys.length tc] 110 (0, 0))) := hide (by rw [hW]; exact ((Ext.refl _).alloc _).heap (by simp) |>.trans (at_newB _ _ _ rfl))
  have B1 : Hid (W.heap[w.heap.size + 1]? = some (.cells #[.map none, .slice none 0 0, .slice none 0 0] 110 (0, 0))) := hide (by rw [hW]; exact at_newB _ _ _ (by simp))
  have hcl := lt_of_obj hc
  have hcW : cb < W.heap.size := by omega
  have C0 : Hid (W.heap[cb]? = some (.cells #[.int .i64 nv, .int .i64 nn] 107 (0, 0))) := hide ((X0.out.heap hcl).trans hc)
  have HWs := hide hWs
  have hW2 : w.heap.size + 2 ≤ W.heap.size := by omega
  clear hWs
  have HV := hide hv
  have HT := hide ht
  have HL := hide hl
  have OV := hide ov
  have OT := hide ot
  have OL := hide ol
  clear hv ht hc hl ov ot ol hW
  go_enter Tryz.func113, Tryz.ntmps113
  go_upto_region 1 with fail
  rw [HW.out]
  go_wp2
  go_loopw [8, 9, 12] (fun x y i wr => ∃ k : Nat, k ≤ l.length ∧ i = .int .i64 k ∧ Hid (OSt W cb nv (nv + (k : Nat)) nn k k wr x y)) (fun _ _ i _ => l.length - (intOf i).toNat)
  case atStart => exact ⟨0, Nat.zero_le _, rfl, hide ⟨World.grownBy.refl _ _, (by simpa using C0.out), World.ownsRow_nil _ _ _ _, World.ownsRow_nil _ _ _ _, fun j h => by cases h⟩⟩
  case round =>
    obtain ⟨k, hk, rfl, HS⟩ := hrel
    by_cases hlt : k < l.length
    · have hlt' : (k : Int) < (l.length : Int) := by omega
      have hk0 : (0 : Int) ≤ (k : Int) := by omega
      have k0 := bytes_block HS.out.c 0
      simp only [List.getElem?_toArray, List.getElem?_cons_zero] at k0
      have hws := HS.out.g.size
      go_wp2_with (at_builtin; refine wpList_append_row _ rfl _ _ 29 rfl W.heap.size 3 i0 _ 1 8 Tryz.underlying29 hi hz0 hz1 hz2 rfl (by decide) u8 k ((rowI nv k).map (Value.int .i64)) rfl (own_extB HS.out.ox ((Ext.refl _).alloc _)) _ 1 1 [.int .i64 (nv + (k : Nat))] rfl ?c2 ?c3 ?c4 ?c5 ?c6 ?_)
      case c2 => exact Row.boxI _ (at_newB _ _ _ (by simp))
      case c3 => first | rfl | (intro y hy; simp at hy; subst hy; rfl)
      case c4 => unfold maxLen; omega
      case c5 => omega
      case c6 => (first | omega | (simp; omega))
      intro x2 w2 hox2 hg2 hat2
      have HS2 := hide (HS.out.stepx hcW _ hox2 hg2 (by simpa using hat2))
      have k0 := bytes_block HS2.out.c 0
      simp only [List.getElem?_toArray, List.getElem?_cons_zero] at k0
      have hws2 := HS2.out.g.size
      clear hox2 hg2 hat2
      go_wp2_with (at_builtin; refine wpList_append_row _ rfl _ _ 23 rfl W.heap.size 55 j0 _ 3 48 Tryz.underlying23 hj hy0 hy1 hy2 rfl (by decide) u9 k (((rowI nv k).map varT).flatMap tyC.f) rfl (own_extB HS2.out.oy ((Ext.refl _).alloc _)) _ 1 1 [.string ⟨#[]⟩, .int .i64 (nv + (k : Nat)), .slice none 0 0] rfl ?c2 ?c3 ?c4 ?c5 ?c6 ?_)
      case c2 => exact Row.ty3 _ _ _ (at_newB _ _ _ (by simp))
      case c3 => intro y hy; simp at hy; rcases hy with rfl | rfl | rfl <;> rfl
      case c4 => unfold maxLen; omega
      case c5 => omega
      case c6 => (first | omega | (simp; omega))
      intro y3 w3 hoy3 hg3 hat3
      have HS3 := hide (HS2.out.stepy hcW _ hoy3 hg3 (by simpa using hat3))
      have k0 := bytes_block HS3.out.c 0
      have f0 := free_block HS3.out.c 0
      simp only [List.getElem?_toArray, List.getElem?_cons_zero] at k0
      have hov : nv + (k : Int) + 1 ≤ 2000000000000 := by omega
      have hov0 : 0 ≤ nv + (k : Int) := by omega
      have HS4 := hide (HS3.out.stepc hcW (nv + (k : Int) + 1))
      clear hoy3 hg3 hat3
      go_wp2
      go_roundw
      case rel => exact ⟨k + 1, hlt, by go_num, by rw [show nv + ((k + 1 : Nat) : Int) = nv + (k : Int) + 1 by omega]; exact HS4⟩
      case measure => simp [intOf]; omega
    · have hge : ¬ (k : Int) < (l.length : Int) := by omega
      obtain rfl : k = l.length := by omega
      have G := hide HS.out.g
      have HLr : Hid (Ints wr A l) := hide (row_grown (Row.ext HL.out X0.out) G.out (fun hn a e h => OL.out hn a e (by injection h with h; exact h.symm)))
      have HVr : Hid (Ints wr V vs) := hide (row_grown (Row.ext HV.out X0.out) G.out (fun hn a e h => OV.out hn a e (by injection h with h; exact h.symm)))
      have HTr : Hid (RowOf tyC wr T (tys.map varT)) := hide (row_grown (Row.ext HT.out X0.out) G.out (fun hn a e h => OT.out (by simpa using hn) a e (by injection h with h; exact h.symm)))
      obtain ⟨A', cap', hx, hcl1, hcm1, hIx, hnx⟩ := Ints.own (l := rowI nv l.length) (by rw [rowI_len]; exact HS.out.ox)
      rw [rowI_len] at hcl1
      obtain ⟨T1, tc1, hy, -, -, hIy, hny⟩ := RowOf.own tyC (l := (rowI nv l.length).map varT) (by rw [List.length_map, rowI_len]; exact HS.out.oy)
      rw [rowI_len] at hx
      rw [List.length_map, rowI_len] at hy
      subst hx hy
      have HIx := hide hIx
      have HIy := hide hIy
      have Hnx : Hid (∀ c o, A' = some ⟨c, o, none⟩ → W.heap.size ≤ c) := hide (fun c o e => (hnx c o e).1)
      have Hny : Hid (∀ c o, T1 = some ⟨c, o, none⟩ → W.heap.size ≤ c) := hide (fun c o e => (hny c o e).1)
      have b0 := hide ((G.out.block _ (lt_of_obj B0.out) (fun e => by injection e with e; omega)).trans B0.out)
      have b1 := hide ((G.out.block _ (lt_of_obj B1.out) (fun e => by injection e with e; omega)).trans B1.out)
      have Hcb := hide HS.out.c
      have hwr := G.out.size
      have k0 := bytes_block b0.out 1
      simp only [List.getElem?_toArray, List.getElem?_cons_succ, List.getElem?_cons_zero] at k0
      clear hIx hIy hnx hny HS hge
      go_wp2_with fail
      refine (concat2I wr.heap.size cap vc A V l vs _ _ (at_newB _ _ _ rfl) (Row.ext HLr.out ((Ext.refl _).alloc _)) (Row.ext HVr.out ((Ext.refl _).alloc _)) (by omega)).mono ?_
      rintro e w5 ⟨⟨V5, vc5, rfl, q1, q2, hR5, hn5⟩, hx5⟩
      have X5 := hide (((Ext.refl wr).alloc _).trans hx5)
      have c5 := hide ((X5.out.heap (lt_of_obj b0.out)).trans b0.out)
      have f1 := free_block c5.out 1
      have k1 := bytes_block c5.out 1
      have k2 := bytes_block c5.out 2
      simp only [List.getElem?_toArray, List.getElem?_cons_succ, List.getElem?_cons_zero] at k1 k2
      have R5 := hide hR5
      have Hn5 : Hid (∀ c o, V5 = some ⟨c, o, none⟩ → W.heap.size ≤ c) := hide (fun c o e => by have := hn5 c o e; simp at this; omega)
      have hw5 := X5.out.size
      clear hx5 hR5
      go_wp2_with fail
      obtain ⟨w6, hw6⟩ : ∃ w6, w6 = w5.setCell ⟨w.heap.size, 1, none⟩ (.slice V5 (l.length + vs.length) vc5) := ⟨_, rfl⟩
      rw [← hw6]
      have G6 : Hid (wr.grownBy w6 (some w.heap.size)) := hide (by rw [hw6]; exact grown_tr (ext_grown X5.out _) (grown_cell _ _ _ _))
      have hs6 : w6.heap.size = w5.heap.size := by rw [hw6]; simp [World.setCell]
      have c6 : Hid (w6.heap[w.heap.size]? = some (.cells #[.map r, .slice V5 (l.length + vs.length) vc5, .slice T tys.length tc] 110 (0, 0))) := hide (by rw [hw6]; have := blk_setCell c5.out 1 (.slice V5 (l.length + vs.length) vc5); simpa using this)
      have R6 : Hid (Ints w6 V5 (l ++ vs)) := hide (by rw [hw6]; exact row_grown R5.out (grown_cell _ _ _ _) (fun hn a e h => by
        obtain ⟨bb, oo, e2, -, -⟩ := R5.out.2 (by omega)
        rw [e2] at e
        injection e with e
        subst e
        have := hn5 _ _ e2
        injection h with h
        simp at this h
        omega))
      have T6 : Hid (RowOf tyC w6 T (tys.map varT)) := hide (row_grown HTr.out G6.out (fun hn a e h => by
        obtain ⟨bb, oo, e2, hb2, -⟩ := HT.out.2 (Nat.pos_of_ne_zero hn)
        rw [e2] at e
        injection e with e
        subst e
        injection h with h
        simp at h
        omega))
      have Y6 : Hid (RowOf tyC w6 T1 ((rowI nv l.length).map varT)) := hide (row_grown HIy.out G6.out (fun hn a e h => by
        obtain ⟨bb, oo, e2, -, -⟩ := HIy.out.2 (by omega)
        rw [e2] at e
        injection e with e
        subst e
        have := Hny.out _ _ e2
        injection h with h
        simp at h
        omega))
      have hT := concat2T w5.heap.size tc1 tc T1 T ((rowI nv l.length).map varT) (tys.map varT) 23 (w6.alloc (.cells #[.slice T1 ((rowI nv l.length).map varT).length tc1, .slice T (tys.map varT).length tc] 23)) (at_newB _ _ _ hs6.symm) (RowOf.ext tyC Y6.out ((Ext.refl _).alloc _)) (RowOf.ext tyC T6.out ((Ext.refl _).alloc _)) (by simp [rowI_len]; omega)
      simp only [List.length_map, rowI_len, List.length_append] at hT
      have HT7 := hide hT
      clear hT hw6 hs6 c5 f1 k1 k2 R5
      refine HT7.out.mono ?_
      rintro e w7 ⟨⟨T7, tc7, rfl, -, -, hR7, hn7⟩, hx7⟩
      have X7 := hide (((Ext.refl w6).alloc _).trans hx7)
      have c7 := hide ((X7.out.heap (lt_of_obj c6.out)).trans c6.out)
      have d7 := hide ((X7.out.heap (lt_of_obj ((G6.out.block _ (lt_of_obj b1.out) (fun e => by injection e with e; omega)).trans b1.out))).trans ((G6.out.block _ (lt_of_obj b1.out) (fun e => by injection e with e; omega)).trans b1.out))
      have f2 := free_block c7.out 2
      have k0 := bytes_block c7.out 0
      have k1 := bytes_block c7.out 1
      have k2 := bytes_block c7.out 2
      have e0 := free_block d7.out 0
      have e1 := free_block d7.out 1
      have e2 := free_block d7.out 2
      have j0 := bytes_block d7.out 0
      have j1 := bytes_block d7.out 1
      have j2 := bytes_block d7.out 2
      simp only [List.getElem?_toArray, List.getElem?_cons_succ, List.getElem?_cons_zero] at k0 k1 k2 j0 j1 j2
      have R7 := hide hR7
      have Hn7 : Hid (∀ c o, T7 = some ⟨c, o, none⟩ → W.heap.size ≤ c) := hide (fun c o e => by have h7 := hn7 c o e; have := G6.out.size; simp at h7; omega)
      clear hx7 hR7
      go_wp2
      obtain ⟨w8, hw8⟩ : ∃ w8, w8 = (((w7.setCell ⟨w.heap.size, 2, none⟩ (.slice T7 (l.length + tys.length) tc7)).setCell ⟨w.heap.size + 1, 0, none⟩ (.map r)).setCell ⟨w.heap.size + 1, 1, none⟩ (.slice V5 (l.length + vs.length) vc5)).setCell ⟨w.heap.size + 1, 2, none⟩ (.slice T7 (l.length + tys.length) tc7) := ⟨_, rfl⟩
      rw [← hw8]
      have G7 : w.grownBy w7 (some cb) := grown_own (grown_own (grown_tr (ext_grown X0.out _) G.out) G6.out (fun j e => by injection e with e; omega)) (ext_grown X7.out none) (fun j e => by cases e)
      have G8 : w.grownBy w8 (some cb) := by
        rw [hw8]
        exact grown_own (grown_own (grown_own (grown_own G7 (grown_cell _ w.heap.size _ _) (fun j e => by injection e with e; omega)) (grown_cell _ (w.heap.size + 1) _ _) (fun j e => by injection e with e; omega)) (grown_cell _ (w.heap.size + 1) _ _) (fun j e => by injection e with e; omega)) (grown_cell _ (w.heap.size + 1) _ _) (fun j e => by injection e with e; omega)
      have fin : ∀ {A : Option Addr} {k n : Nat} {xs : List Value}, Row w7 A k n xs → (∀ c o, A = some ⟨c, o, none⟩ → W.heap.size ≤ c) → Row w8 A k n xs := fun h hA => by
        rw [hw8]
        exact row_setC (row_setC (row_setC (row_setC h (fun c o e => by have := hA c o e; omega) _ _) (fun c o e => by have := hA c o e; omega) _ _) (fun c o e => by have := hA c o e; omega) _ _) (fun c o e => by have := hA c o e; omega) _ _
      have x6 : Ints w6 A' (rowI nv l.length) := row_grown HIx.out G6.out (fun hn a e h => by
        obtain ⟨bb, oo, e2, -, -⟩ := HIx.out.2 (Nat.pos_of_ne_zero hn)
        rw [e2] at e
        injection e with e
        subst e
        have := Hnx.out _ _ e2
        injection h with h
        simp at h
        omega)
      have P1 : Ints w8 V5 (l ++ vs) := fin (Row.ext R6.out X7.out) Hn5.out
      have P2 : RowOf tyC w8 T7 ((rowI nv l.length ++ tys).map varT) := by rw [List.map_append]; exact fin R7.out Hn7.out
      have P3 : Ints w8 A' (rowI nv l.length) := fin (Row.ext x6 X7.out) Hnx.out
      have P4 : w8.heap[cb]? = some (.cells #[.int .i64 (nv + (l.length : Nat)), .int .i64 nn] 107 (0, 0)) := by
        have hs : ∀ (x : World) (b i : Nat) (v : Value), b ≠ cb → (x.setCell ⟨b, i, none⟩ v).heap[cb]? = x.heap[cb]? := fun x b i v h => Below.heap_setCell x ⟨b, i, none⟩ v cb (by intro e; exact h (by first | exact e | exact e.symm))
        rw [hw8, hs _ _ _ _ (by omega), hs _ _ _ _ (by omega), hs _ _ _ _ (by omega), hs _ _ _ _ (by omega)]
        exact (X7.out.heap (lt_of_obj ((G6.out.block _ (lt_of_obj Hcb.out) (fun e => by injection e with e; omega)).trans Hcb.out))).trans ((G6.out.block _ (lt_of_obj Hcb.out) (fun e => by injection e with e; omega)).trans Hcb.out)
      refine bodyPost_ret (v := .tuple #[.agg #[.map r, .slice V5 (l.length + vs.length) vc5, .slice T7 (l.length + tys.length) tc7], .slice A' l.length cap']) ?_ rfl ⟨⟨V5, vc5, T7, tc7, A', cap', by simp [rowI_len], P1, P2, P3, fun c o e => by have := Hn5.out c o e; omega, fun c o e => by have := Hn7.out c o e; omega, fun c o e => by have := Hnx.out c o e; omega, hcl1, hcm1⟩, P4, G8⟩
      rw [hw8]
      simp [results, Tryz.f113, go_sem, j0, j1, j2]

end Go.Proofs.YtjacjpeeinnkcaaGreat

/- Terms with bound names told by numbers: plain parts; terms in a row that is written one by one. -/
namespace Go.Proofs.YtjacjpeeinnkcaaGreat
open Go.RowKit Go.Sort Go.Maps

/-! ### Types -/
theorem varT_pure (v : Int) : (varT v).pure = .mk [] v [] := by rw [Ty.pure_eq]; rfl
theorem putAt_varT (vars tys : List Int) (v : Int) : putAt vars (tys.map varT) v = (varAt vars tys v).map varT := by
  unfold putAt varAt
  split
  · rw [List.getElem?_map]
  · rfl
theorem putP_typQ (vars tys : List Int) (t : Ty) : putP vars (tys.map varT) t = typQ vars tys t.pure := by
  induction t using Ty.ind with
  | h t ih =>
  rw [putP_eq, Ty.pure_eq t, typQ_eq]
  split
  · rw [putAt_varT]
    cases varAt vars tys t.var with
    | none => show t.pure = _; rw [Ty.pure_eq t]
    | some n => exact varT_pure n
  · rw [List.map_map]
    congr 1
    exact List.map_congr_left ih
theorem varT_away (c : Nat) (v : Int) : awayB c (varT v) = true := awayB_mk (fun h => absurd rfl h) (by simp)

/-! ### What holds within a term: what is written first, and a lambda's own name -/
/-- The first part of a step: all but a lambda's new name. -/
def stepA (k : Int) (s : Str) (vs : List Int) (l : List Str) (c : Cn) (V : Int) : Cn × Str × List Int × Int :=
  if k = 1 then (c, (c.look s).getD s, vs, V)
  else if k = 5 ∨ k = 11 then (⟨c.names, vs ++ c.vars, rowI V vs.length ++ c.tys⟩, s, rowI V vs.length, V + vs.length)
  else (c.within l, s, vs, V)
theorem step_sharp (num : Int → Str) (k : Int) (s : Str) (vs : List Int) (l : List Tm.Pure) (c : Cn) (V L : Int) (hk : k = 3) (hs : sharpB s = true) :
    stepQ num k s vs l c V L = (⟨(s, 35 :: num L) :: (stepA k s vs (bindsQ k s l) c V).1.names, (stepA k s vs (bindsQ k s l) c V).1.vars, (stepA k s vs (bindsQ k s l) c V).1.tys⟩, 35 :: num L, (stepA k s vs (bindsQ k s l) c V).2.2.1, (stepA k s vs (bindsQ k s l) c V).2.2.2, L + 1) := by
  subst hk
  unfold stepQ stepA
  rw [if_neg (by decide), if_neg (by decide), if_pos ⟨rfl, hs⟩, if_neg (by decide), if_neg (by decide)]
  rfl
theorem step_plain (num : Int → Str) (k : Int) (s : Str) (vs : List Int) (l : List Tm.Pure) (c : Cn) (V L : Int) (h : ¬ (k = 3 ∧ sharpB s = true)) :
    stepQ num k s vs l c V L = ((stepA k s vs (bindsQ k s l) c V).1, (stepA k s vs (bindsQ k s l) c V).2.1, (stepA k s vs (bindsQ k s l) c V).2.2.1, (stepA k s vs (bindsQ k s l) c V).2.2.2, L) := by
  unfold stepQ stepA
  rw [if_neg h]
  split
  · rfl
  split
  · rfl
  · rfl
theorem look_within (c : Cn) (l : List Str) (s : Str) : (c.within l).look s = if l.any (· == s) then some s else c.look s := by
  unfold Cn.look Cn.within
  show Option.map _ (((l.map fun s => (s, s)) ++ c.names).find? _) = _
  rw [List.find?_append]
  cases h : l.any (· == s)
  · have : (l.map fun s => (s, s)).find? (fun p => p.1 == s) = none := by
      rw [List.find?_eq_none]
      intro p hp
      obtain ⟨x, hx, rfl⟩ := List.mem_map.1 hp
      rw [List.any_eq_false] at h
      exact h x hx
    rw [this]
    rfl
  · obtain ⟨x, hx, he⟩ := List.any_eq_true.1 h
    have he' : x = s := by simpa using he
    subst he'
    cases hf : (l.map fun s => (s, s)).find? (fun p => p.1 == x) with
    | none =>
      rw [List.find?_eq_none] at hf
      exact absurd (by simp) (hf (x, x) (List.mem_map.2 ⟨x, hx, rfl⟩))
    | some p =>
      have h1 := List.mem_of_find?_eq_some hf
      have h2 := List.find?_some hf
      obtain ⟨y, -, rfl⟩ := List.mem_map.1 h1
      have : y = x := by simpa using h2
      subst this
      rfl
theorem look_cons (c : Cn) (a b s : Str) : (⟨(a, b) :: c.names, c.vars, c.tys⟩ : Cn).look s = if s = a then some b else c.look s := by
  unfold Cn.look
  rw [List.find?_cons]
  by_cases h : s = a
  · subst h; simp
  · have : (a == s) = false := by simpa using fun e => h e.symm
    rw [this, if_neg h]

/-! ### Terms in a row -/
def rowM (us : List Tm) (n : Nat) : Array Value := ((us ++ List.replicate n Tm.zero).flatMap tmC.f).toArray
/-- A term is written at a place. -/
def putTmAt (w : World) (b o : Nat) (t : Tm) : World :=
  (((((w.setCell ⟨b, o, none⟩ (.int .i64 t.kind)).setCell ⟨b, o + 1, none⟩ (.int .i64 t.n)).setCell ⟨b, o + 2, none⟩ (.string ⟨t.name.toArray⟩)).setCell ⟨b, o + 3, none⟩ (.slice t.V t.vars.length t.vc)).setCell ⟨b, o + 4, none⟩ (.slice t.T t.types.length t.tc)).setCell ⟨b, o + 5, none⟩ (.slice t.A t.kids.length t.cap)
theorem putTmAt_grown (w : World) (b o : Nat) (t : Tm) : w.grownBy (putTmAt w b o t) (some b) :=
  grown_tr (grown_tr (grown_tr (grown_tr (grown_tr (grown_cell _ _ _ _) (grown_cell _ _ _ _)) (grown_cell _ _ _ _)) (grown_cell _ _ _ _)) (grown_cell _ _ _ _)) (grown_cell _ _ _ _)
theorem putTmAt_size (w : World) (b o : Nat) (t : Tm) : (putTmAt w b o t).heap.size = w.heap.size := by simp [putTmAt, World.setCell]
theorem set6 (us : List Tm) (n : Nat) (u : Tm) : ((((((rowM us (n + 1)).setIfInBounds (us.length * 6) (.int .i64 u.kind)).setIfInBounds (us.length * 6 + 1) (.int .i64 u.n)).setIfInBounds (us.length * 6 + 2) (.string ⟨u.name.toArray⟩)).setIfInBounds (us.length * 6 + 3) (.slice u.V u.vars.length u.vc)).setIfInBounds (us.length * 6 + 4) (.slice u.T u.types.length u.tc)).setIfInBounds (us.length * 6 + 5) (.slice u.A u.kids.length u.cap) = rowM (us ++ [u]) n := by
  unfold rowM
  have h1 : (us ++ List.replicate (n + 1) Tm.zero).flatMap tmC.f = us.flatMap tmC.f ++ (tmC.f Tm.zero ++ (List.replicate n Tm.zero).flatMap tmC.f) := by
    rw [List.flatMap_append, List.replicate_succ, List.flatMap_cons]
  have h2 : (us ++ [u] ++ List.replicate n Tm.zero).flatMap tmC.f = us.flatMap tmC.f ++ (tmC.f u ++ (List.replicate n Tm.zero).flatMap tmC.f) := by
    rw [List.flatMap_append, List.flatMap_append, List.flatMap_cons, List.flatMap_nil, List.append_nil, List.append_assoc]
  have hl : (us.flatMap tmC.f).length = us.length * 6 := flat_len _ _ tmC.hf _
  rw [h1, h2, ← hl]
  generalize us.flatMap tmC.f = a
  generalize (List.replicate n Tm.zero).flatMap tmC.f = b
  show ((((((a ++ (([.int .i64 0, .int .i64 0, .string ⟨#[]⟩, .slice none 0 0, .slice none 0 0, .slice none 0 0] : List Value) ++ b)).toArray.setIfInBounds _ _).setIfInBounds _ _).setIfInBounds _ _).setIfInBounds _ _).setIfInBounds _ _).setIfInBounds _ _ = (a ++ (([.int .i64 u.kind, .int .i64 u.n, encStr u.name, .slice u.V u.vars.length u.vc, .slice u.T u.types.length u.tc, .slice u.A u.kids.length u.cap] : List Value) ++ b)).toArray
  simp only [List.setIfInBounds_toArray]
  congr 1
  rw [List.set_append_right _ _ (Nat.le_refl _), List.set_append_right _ _ (by omega), List.set_append_right _ _ (by omega), List.set_append_right _ _ (by omega), List.set_append_right _ _ (by omega), List.set_append_right _ _ (by omega)]
  simp
theorem row_at6 (us : List Tm) (n : Nat) : (rowM us (n + 1))[us.length * 6]? = some (.int .i64 0) ∧ (rowM us (n + 1))[us.length * 6 + 1]? = some (.int .i64 0) ∧ (rowM us (n + 1))[us.length * 6 + 2]? = some (.string ⟨#[]⟩) ∧ (rowM us (n + 1))[us.length * 6 + 3]? = some (.slice none 0 0) ∧ (rowM us (n + 1))[us.length * 6 + 4]? = some (.slice none 0 0) ∧ (rowM us (n + 1))[us.length * 6 + 5]? = some (.slice none 0 0) := by
  unfold rowM
  have h1 : (us ++ List.replicate (n + 1) Tm.zero).flatMap tmC.f = us.flatMap tmC.f ++ (tmC.f Tm.zero ++ (List.replicate n Tm.zero).flatMap tmC.f) := by
    rw [List.flatMap_append, List.replicate_succ, List.flatMap_cons]
  have hl : (us.flatMap tmC.f).length = us.length * 6 := flat_len _ _ tmC.hf _
  rw [h1, ← hl]
  generalize us.flatMap tmC.f = a
  generalize (List.replicate n Tm.zero).flatMap tmC.f = b
  have e : tmC.f Tm.zero = [.int .i64 0, .int .i64 0, .string ⟨#[]⟩, .slice none 0 0, .slice none 0 0, .slice none 0 0] := rfl
  rw [e]
  simp only [List.getElem?_toArray]
  refine ⟨?_, ?_, ?_, ?_, ?_, ?_⟩ <;> rw [List.getElem?_append_right (by omega)] <;> simp
theorem rowM_done (us : List Tm) : rowM us 0 = (us.flatMap tmC.f).toArray := by unfold rowM; simp
theorem put6 {w : World} {b n : Nat} {us : List Tm} (u : Tm) (h : w.heap[b]? = some (.cells (rowM us (n + 1)) 31 (0, 0))) :
    (putTmAt w b (us.length * 6) u).heap[b]? = some (.cells (rowM (us ++ [u]) n) 31 (0, 0)) := by
  rw [← set6]
  exact blk_setCell (blk_setCell (blk_setCell (blk_setCell (blk_setCell (blk_setCell h _ _) _ _) _ _) _ _) _ _) _ _
def zero6 : Array Value := #[.int .i64 0, .int .i64 0, .string ⟨#[]⟩, .slice none 0 0, .slice none 0 0, .slice none 0 0]
theorem tm_info6 : (Tryz.prog.info? 31).map (fun i => (i.zero, i.size, i.bytes)) = some (some (.agg #[.int .i64 0, .int .i64 0, .string ⟨#[]⟩, .slice none 0 0, .slice none 0 0, .slice none 0 0]), 6, 104) := by kernel_rfl
theorem zerosM_eq (m : Nat) : madeCells zero6 (m * 6) = rowM [] m := by
  unfold madeCells rowM
  rw [List.nil_append]
  apply Array.toList_inj.1
  rw [Array.toList_map, Array.toList_range]
  induction m with
  | zero => rfl
  | succ m ih =>
    rw [List.replicate_succ', List.flatMap_append, show (m + 1) * 6 = m * 6 + 1 + 1 + 1 + 1 + 1 + 1 by omega, List.range_succ, List.range_succ, List.range_succ, List.range_succ, List.range_succ, List.range_succ, List.map_append, List.map_append, List.map_append, List.map_append, List.map_append, List.map_append, ih]
    simp only [List.append_assoc]
    congr 1
    have h0 : (m * 6) % 6 = 0 := by omega
    have h1 : (m * 6 + 1) % 6 = 1 := by omega
    have h2 : (m * 6 + 1 + 1) % 6 = 2 := by omega
    have h3 : (m * 6 + 1 + 1 + 1) % 6 = 3 := by omega
    have h4 : (m * 6 + 1 + 1 + 1 + 1) % 6 = 4 := by omega
    have h5 : (m * 6 + 1 + 1 + 1 + 1 + 1) % 6 = 5 := by omega
    simp only [List.map_cons, List.map_nil, show zero6.size = 6 from rfl, h0, h1, h2, h3, h4, h5, List.flatMap_cons, List.flatMap_nil]
    rfl
theorem make_zerosM (m : Nat) (hm : m ≤ 100000) (W : World) : (Instr.makeSlice 24 (.int .i64 m) (.int .i64 m)).run Tryz.prog W = .ok (.slice (some ⟨W.heap.size, 0, none⟩) m m) (W.alloc (.cells (rowM [] m) 31)) := by
  obtain ⟨i1, hj, hy0, hy1, hy2⟩ := info_parts tm_info6
  have hmk := run_make (P := Tryz.prog) W 24 31 i1 _ Tryz.underlying24 hj hy0 .i64 .i64 m m (by omega) (Int.le_refl _) (by rw [hy2]; omega) (by omega)
  rw [hy1, Int.toNat_natCast, show (Value.agg #[.int .i64 0, .int .i64 0, .string ⟨#[]⟩, .slice none 0 0, .slice none 0 0, .slice none 0 0]).cells = zero6 from rfl, zerosM_eq] at hmk
  exact hmk

end Go.Proofs.YtjacjpeeinnkcaaGreat
