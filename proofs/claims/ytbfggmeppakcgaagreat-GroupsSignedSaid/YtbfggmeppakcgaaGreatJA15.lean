/- Contracts: whether edges may be; where they lead from each vertex. -/
import Derived.Test.YtbfggmeppakcgaaGreatJA14
import Derived.WalkSpells
import Derived.WalkLawsBesides
import Derived.Deep.QuietTactic
import Derived.BigQuiet
import Derived.Deep.RegionLaw
import Derived.Laws.OwnMore
/- Contracts: whether edges may be; where they lead from each vertex. -/
namespace Go.Proofs.YtbfggmeppakcgaaGreat
open Go.RowKit

theorem all_drop {α : Type} (p : α → Bool) (l : List α) {k : Nat} (h : k < l.length) : (l.drop k).all p = (p (l[k]'h) && (l.drop (k + 1)).all p) := by
  rw [List.drop_eq_getElem_cons h]; rfl

set_option maxRecDepth 10000 in
set_option maxHeartbeats 2000000 in
theorem g_check (n : Int) (A : Option Addr) (cap : Nat) (es : List Edge) (w : World) (h : Edges w A es) (hlen : es.length ≤ 100000) :
    Calls Tryz.prog 22 #[.int .i64 n, .slice A es.length cap] w fun e w' => e = .returned (.int .i64 (if graphOk n es then 0 else 1)) ∧ Ext w w' := by
  have Hr := hide h
  clear h
  by_cases h0 : n < 0
  · have hR : graphOk n es = false := by unfold graphOk; simp; omega
    rw [hR]
    clear hR
    go_enter Tryz.func22, Tryz.ntmps22
    go_wp2
    go_ret
    exact ⟨rfl, (by repeat (first | exact Ext.refl _ | exact Ext.pre (by simp) | exact Ext.alloc (by assumption) _ | refine Ext.alloc ?_ _ |  refine Ext.more ?_ _ _ | refine Ext.drew ?_ | refine Ext.drewN ?_ _))⟩
  · by_cases h1 : 1000 < n
    · have hR : graphOk n es = false := by unfold graphOk; simp; omega
      rw [hR]
      clear hR
      go_enter Tryz.func22, Tryz.ntmps22
      go_wp2
      go_ret
      exact ⟨rfl, (by repeat (first | exact Ext.refl _ | exact Ext.pre (by simp) | exact Ext.alloc (by assumption) _ | refine Ext.alloc ?_ _ |  refine Ext.more ?_ _ _ | refine Ext.drew ?_ | refine Ext.drewN ?_ _))⟩
    · have hR : graphOk n es = es.all (edgeOk n) := by
        unfold graphOk
        have e1 : decide (0 ≤ n) = true := by simp; omega
        have e2 : decide (n ≤ 1000) = true := by simp; omega
        rw [e1, e2]; rfl
      rw [hR]
      have HA : Hid (∀ k, (h : k < es.length) → (es.drop k).all (edgeOk n) = (edgeOk n (es[k]'h) && (es.drop (k + 1)).all (edgeOk n))) := hide (fun k h => all_drop _ _ h)
      have HD : Hid ((es.drop 0).all (edgeOk n) = es.all (edgeOk n)) := hide rfl
      clear hR
      generalize es.all (edgeOk n) = R at *
      go_enter Tryz.func22, Tryz.ntmps22
      go_wp2
      go_loopw [15] (fun i wr => ∃ k : Nat, k ≤ es.length ∧ i = .int .i64 k ∧ Hid (Ext w wr) ∧ Hid ((es.drop k).all (edgeOk n) = R)) (fun i _ => es.length - (intOf i).toNat)
      case atStart => exact ⟨0, Nat.zero_le _, rfl, hide (by repeat (first | exact Ext.refl _ | exact Ext.pre (by simp) | exact Ext.alloc (by assumption) _ | refine Ext.alloc ?_ _ |  refine Ext.more ?_ _ _ | refine Ext.drew ?_ | refine Ext.drewN ?_ _)), HD⟩
      case round =>
        obtain ⟨k, hk, rfl, HX, HK⟩ := hrel
        by_cases hlt : k < es.length
        · obtain ⟨b, o, rfl, hb, c0, c1⟩ := Edges.at_ (RowOf.ext edgeC Hr.out HX.out) hlt
          have hlt' : (k : Int) < (es.length : Int) := by omega
          have Hs := hide (HA.out k hlt)
          have HE : Hid (edgeOk n (es[k]'hlt) = (decide (0 ≤ (es[k]'hlt).a) && decide (0 ≤ (es[k]'hlt).b) && (decide ((es[k]'hlt).a < n) && decide ((es[k]'hlt).b < n)))) := hide rfl
          generalize edgeOk n (es[k]'hlt) = E at *
          generalize (es[k]'hlt).a = ea at *
          generalize (es[k]'hlt).b = eb at *
          cases E
          · have hR : R = false := by rw [← HK.out, Hs.out]; rfl
            subst hR
            have hor : min ea eb < 0 ∨ n ≤ max ea eb := by
              have := HE.out
              simp at this
              omega
            by_cases hm : min ea eb < 0
            · go_wp2
              all_goals
                go_ret
                exact ⟨rfl, HX.out.trans (by repeat (first | exact Ext.refl _ | exact Ext.pre (by simp) | exact Ext.alloc (by assumption) _ | refine Ext.alloc ?_ _ |  refine Ext.more ?_ _ _ | refine Ext.drew ?_ | refine Ext.drewN ?_ _))⟩
            · have hm2 : n ≤ max ea eb := by omega
              have hm3 : max ea eb ≥ n := hm2
              clear hor
              go_wp2
              all_goals
                go_ret
                exact ⟨rfl, HX.out.trans (by repeat (first | exact Ext.refl _ | exact Ext.pre (by simp) | exact Ext.alloc (by assumption) _ | refine Ext.alloc ?_ _ |  refine Ext.more ?_ _ _ | refine Ext.drew ?_ | refine Ext.drewN ?_ _))⟩
          · have hok := HE.out
            simp only [eq_comm (a := true), Bool.and_eq_true, decide_eq_true_eq] at hok
            have hm : ¬ min ea eb < 0 := by omega
            have hm3 : ¬ max ea eb ≥ n := by omega
            have hm4 : ¬ n ≤ max ea eb := by omega
            clear hok
            go_wp2
            all_goals
              go_roundw
              case rel => exact ⟨k + 1, hlt, by go_num, hide (HX.out.trans (by repeat (first | exact Ext.refl _ | exact Ext.pre (by simp) | exact Ext.alloc (by assumption) _ | refine Ext.alloc ?_ _ |  refine Ext.more ?_ _ _ | refine Ext.drew ?_ | refine Ext.drewN ?_ _))), hide (by rw [← HK.out, Hs.out]; rfl)⟩
              case measure => simp [intOf]; omega
        · have hge : (es.length : Int) ≤ (k : Int) := by omega
          have hR : R = true := by rw [← HK.out, List.drop_eq_nil_of_le (by omega)]; rfl
          subst hR
          go_wp2
          go_ret
          exact ⟨rfl, HX.out⟩

theorem int_info : (Tryz.prog.info? 3).map (fun i => (i.zero, i.size, i.bytes)) = some (some (.int .i64 0), 1, 8) := by kernel_rfl
theorem ints_info : (Tryz.prog.info? 30).map (fun i => (i.zero, i.size, i.bytes)) = some (some (.slice none 0 0), 1, 24) := by kernel_rfl

theorem cell_box2 (w : World) (cs : Array Value) (t : TypeId) (o : Obj) (i : Nat) : ((w.alloc (.cells cs t)).alloc o).cell? ⟨w.heap.size, i, none⟩ = cs[i]? := by
  have h : ((w.alloc (.cells cs t)).alloc o).heap[w.heap.size]? = some (.cells cs t (0, 0)) := by
    show ((w.heap.push (.cells cs t)).push o)[w.heap.size]? = _
    rw [Array.getElem?_push]
    rw [if_neg (by simp), Array.getElem?_push]
    simp
  simp only [World.cell?, h]
  simp
theorem madeOne (v : Value) (n : Nat) (h : v.cells = #[v]) : madeCells v.cells (n * 1) = (List.replicate n v).toArray := by
  rw [h]
  unfold madeCells
  apply Array.ext
  · simp
  · intro i h1 h2
    simp [Nat.mod_one]
theorem Row.boxV {w : World} {b : Nat} {t : TypeId} {fr : Nat × Nat} (v : Value) (h : w.heap[b]? = some (.cells #[v] t fr)) : Row w (some ⟨b, 0, none⟩) 1 1 [v] := by
  refine ⟨rfl, fun _ => ⟨b, 0, rfl, lt_of_obj h, fun j u hu => ?_⟩⟩
  match j with
  | 0 => simp at hu; subst hu; simp [World.cell?, h]
  | j + 1 => simp at hu
theorem TosI.made (w : World) (n : Nat) : TosI 30 3 w.heap.size (w.alloc (.cells (List.replicate n (Value.slice none 0 0)).toArray 30)) w.heap.size (List.replicate n ⟨.slice none 0 0, []⟩) where
  blk := by
    have := heap_alloc_new w (.cells (List.replicate n (Value.slice none 0 0)).toArray 30)
    rw [this]
    simp
  ge := Nat.le_refl _
  own i h := by simp; exact World.ownsRow_nil _ _ _ _
  dis i j hi hj hij he := by simp [Value.ownBlock]
  nb i h := by simp [Value.ownBlock]

set_option maxRecDepth 10000 in
set_option maxHeartbeats 4000000 in
theorem g_next (n : Nat) (A : Option Addr) (cap : Nat) (es : List Edge) (w : World) (h : Edges w A es) (hn : n ≤ 1000) (hlen : es.length ≤ 100000) (hok : ∀ e ∈ es, edgeOk n e = true) :
    Calls Tryz.prog 23 #[.int .i64 n, .slice A es.length cap] w fun e w' => (∃ b ts, e = .returned (.slice (some ⟨b, 0, none⟩) n n) ∧ ts.length = n ∧ TosI 30 3 w.heap.size w' b ts ∧ ∀ v (h : v < ts.length), (ts[v]'h).l = nextL es v) ∧ Ext w w' := by
  obtain ⟨i0, hi, hz0, hz1, hz2⟩ := info_parts int_info
  obtain ⟨i1, hj, hy0, hy1, hy2⟩ := info_parts ints_info
  have Hr := hide h
  have Hok := hide hok
  clear h hok
  have hmk := run_make (P := Tryz.prog) w 29 30 i1 _ Tryz.underlying29 hj hy0 .i64 .i64 n n (by omega) (Int.le_refl _) (by rw [hy2]; omega) (by omega)
  have hmc : madeCells (Value.slice none 0 0).cells ((n : Int).toNat * i1.size) = (List.replicate n (Value.slice none 0 0)).toArray := by
    rw [hy1]
    exact madeOne _ _ rfl
  rw [hmc] at hmk
  simp only [Int.toNat_natCast] at hmk
  have T0 := hide (TosI.made w n)
  clear hmc
  have hn1 : (n : Int) ≤ 1000 := by omega
  generalize hZ : (List.replicate n (Value.slice none 0 0)).toArray = Z at *
  have HZ := hide hZ
  clear hZ
  go_enter Tryz.func23, Tryz.ntmps23
  go_wp2
  go_loopw [12] (fun i wr => ∃ (k : Nat) (ts : List SlV), k ≤ es.length ∧ i = .int .i64 k ∧ ts.length = n ∧ Hid (TosI 30 3 w.heap.size wr w.heap.size ts) ∧ Hid (∀ v (h : v < ts.length), (ts[v]'h).l = nextL (es.take k) v) ∧ Hid (Ext w wr)) (fun i _ => es.length - (intOf i).toNat)
  case atStart => exact ⟨0, _, Nat.zero_le _, rfl, by simp, T0, hide (by intro v h; simp [nextL]), hide (by repeat (first | exact Ext.refl _ | exact Ext.pre (by simp) | exact Ext.alloc (by assumption) _ | refine Ext.alloc ?_ _ |  refine Ext.more ?_ _ _ | refine Ext.drew ?_ | refine Ext.drewN ?_ _))⟩
  case round =>
    obtain ⟨k, ts, hk, rfl, hts, HT, HL, HX⟩ := hrel
    by_cases hlt : k < es.length
    · obtain ⟨be, o, rfl, hbe, c0, c1⟩ := Edges.at_ (RowOf.ext edgeC Hr.out HX.out) hlt
      have hlt' : (k : Int) < (es.length : Int) := by omega
      have hoke := Hok.out _ (List.getElem_mem hlt)
      have Htk : Hid (es.take (k + 1) = es.take k ++ [es[k]'hlt]) := hide (by rw [List.take_succ_eq_append_getElem hlt])
      unfold edgeOk at hoke
      simp only [Bool.and_eq_true, decide_eq_true_eq] at hoke
      obtain ⟨v, hv⟩ := Int.eq_ofNat_of_zero_le hoke.1.1
      have Hn : Hid (∀ u, nextL (es.take (k + 1)) u = nextL (es.take k) u ++ if (v : Int) == (u : Int) then [(es[k]'hlt).b] else []) := hide (fun u => by rw [Htk.out, nextL_snoc, hv])
      rw [hv] at c0 hoke
      clear Htk hv
      generalize (es[k]'hlt).b = eb at *
      have hvn : v < n := by omega
      have hvt : v < ts.length := by omega
      have hv1 : (v : Int) < (n : Int) := by omega
      have hv0 : (0 : Int) ≤ (v : Int) := by omega
      have hcv := HT.out.cell hvt
      have hbw := HT.out.lt
      have hll : (ts[v]'hvt).l.length ≤ 100000 := by rw [HL.out v hvt]; unfold nextL; rw [List.length_map]; have := List.length_filter_le (fun e : Edge => e.a == (v : Int)) (es.take k); have := List.length_take_le k es; omega
      have Hown := hide (HT.out.own v hvt)
      have HV : Hid ((ts[v]'hvt).val = (ts[v]'hvt).val) := hide rfl
      clear hoke
      generalize hval : (ts[v]'hvt).val = sv at *
      generalize hlv : (ts[v]'hvt).l = lv at *
      have Hval := hide hval
      have Hlv := hide hlv
      clear hval hlv HV
      go_wp2
      go_region_law (first
        | (refine step_append_rowB _ rfl (.tmp 23) (.tmp 26) 30 rfl w.heap.size 3 i0 _ 1 8 Tryz.underlying30 hi hz0 hz1 hz2 rfl (by decide) sv lv.length (lv.map (Value.int .i64)) rfl (own_extB Hown.out (by repeat (first | exact Ext.refl _ | exact Ext.pre (by simp) | exact Ext.alloc (by assumption) _ | refine Ext.alloc ?_ _ |  refine Ext.more ?_ _ _ | refine Ext.drew ?_ | refine Ext.drewN ?_ _))) (some ⟨_, 0, none⟩) 1 1 [.int .i64 eb] rfl (Row.boxV _ (at_newB _ _ _ (by simp))) (by intro u hu; simp at hu; subst hu; rfl) (by unfold maxLen; omega) (by omega) (Ext.size (HX.out.trans (by repeat (first | exact Ext.refl _ | exact Ext.pre (by simp) | exact Ext.alloc (by assumption) _ | refine Ext.alloc ?_ _ |  refine Ext.more ?_ _ _ | refine Ext.drew ?_ | refine Ext.drewN ?_ _)))) ?_
           intro v3 w4 hown3 hg3 hat3
           obtain ⟨A3, c3, rfl, _, _, _, _⟩ := Ints.own (l := lv ++ [eb]) (by simpa using hown3)
           have p3 := TosI.put (l' := lv ++ [eb]) (HT.out.ext (by repeat (first | exact Ext.refl _ | exact Ext.pre (by simp) | exact Ext.alloc (by assumption) _ | refine Ext.alloc ?_ _ |  refine Ext.more ?_ _ _ | refine Ext.drew ?_ | refine Ext.drewN ?_ _))) hvt Hval.out (by simpa using hown3) hg3 hat3
           rw [List.length_append, List.length_singleton] at p3
           have P3 := hide p3
           clear p3
           have X3 := hide (Ext.app (HX.out.trans (by repeat (first | exact Ext.refl _ | exact Ext.pre (by simp) | exact Ext.alloc (by assumption) _ | refine Ext.alloc ?_ _ |  refine Ext.more ?_ _ _ | refine Ext.drew ?_ | refine Ext.drewN ?_ _))) hg3 (own_extB Hown.out (by repeat (first | exact Ext.refl _ | exact Ext.pre (by simp) | exact Ext.alloc (by assumption) _ | refine Ext.alloc ?_ _ |  refine Ext.more ?_ _ _ | refine Ext.drew ?_ | refine Ext.drewN ?_ _))) (Nat.le_refl _))
           have B3 := TosI.after (HT.out.ext (by repeat (first | exact Ext.refl _ | exact Ext.pre (by simp) | exact Ext.alloc (by assumption) _ | refine Ext.alloc ?_ _ |  refine Ext.more ?_ _ _ | refine Ext.drew ?_ | refine Ext.drewN ?_ _))) hvt Hval.out hg3
           have hc3 : w4.cell? ⟨w.heap.size, v, none⟩ = some sv := by rw [← Hval.out]; simp [World.cell?, B3, hvt]
           have hf3 : w4.frozen? ⟨w.heap.size, v, none⟩ = false := by simp [World.frozen?, B3]
           have hd0 : w4.cell? ⟨wr.heap.size, 0, none⟩ = some (.int .i64 v) := (World.cell?_of_block (a := ⟨wr.heap.size, 0, none⟩) (hg3.block wr.heap.size (by simp; omega) (fun e => by have := (Hown.out.lt _ e.symm).2; omega))).trans (cell_box2 _ _ _ _ _)
           clear B3
           clear hown3 hg3 hat3))
      all_goals
        go_wp2
        go_roundw
        case rel =>
          refine ⟨k + 1, ts.set v ⟨_, lv ++ [eb]⟩, hlt, by go_num, by simp [hts], P3, hide (fun u hu => ?_), hide (Ext.setCell X3.out (Nat.le_refl _) _)⟩
          rw [Hn.out u]
          by_cases e : u = v
          · subst e
            simp only [List.getElem_set_self, beq_self_eq_true, ↓reduceIte]
            rw [← Hlv.out, HL.out u hvt]
          · rw [List.getElem_set_ne (fun h => e h.symm), HL.out u (by simpa using hu)]
            have : ((v : Int) == (u : Int)) = false := by simp; omega
            rw [this]; simp
        case measure => simp [intOf]; omega
    · have hge : (es.length : Int) ≤ (k : Int) := by omega
      have hkt : es.take k = es := List.take_of_length_le (by omega)
      rw [hkt] at HL
      go_wp2
      go_ret
      exact ⟨⟨_, ts, rfl, hts, HT.out, HL.out⟩, HX.out⟩

end Go.Proofs.YtbfggmeppakcgaaGreat

/- What a table of rows leads to. -/
namespace Go.Proofs.YtbfggmeppakcgaaGreat
open Go.RowKit

def succOf (ts : List SlV) (v : Nat) : List Nat := ((ts.getD v ⟨.slice none 0 0, []⟩).l).map Int.toNat
/-- All that is led to are vertices. -/
def AllIn (ts : List SlV) : Prop := ∀ s ∈ ts, ∀ y ∈ s.l, 0 ≤ y ∧ y < (ts.length : Int)

end Go.Proofs.YtbfggmeppakcgaaGreat

/- What an edge list leads to. -/
namespace Go.Proofs.YtbfggmeppakcgaaGreat
open Go.RowKit

def nextN (es : List Edge) (v : Nat) : List Nat := (nextL es v).map Int.toNat
theorem succ_next {n : Nat} {es : List Edge} {ts : List SlV} (hok : ∀ e ∈ es, edgeOk n e = true) (hts : ts.length = n) (hl : ∀ v (h : v < ts.length), (ts[v]'h).l = nextL es v) : succOf ts = nextN es := by
  funext v
  unfold succOf nextN
  congr 1
  by_cases h : v < ts.length
  · simp [h, hl v h]
  · have hnil : nextL es v = [] := by
      unfold nextL
      simp only [List.map_eq_nil_iff, List.filter_eq_nil_iff]
      intro e he hv
      have := hok e he
      unfold edgeOk at this
      simp at this hv
      omega
    simp [h, hnil]
theorem all_in {n : Nat} {es : List Edge} {ts : List SlV} (hok : ∀ e ∈ es, edgeOk n e = true) (hts : ts.length = n) (hl : ∀ v (h : v < ts.length), (ts[v]'h).l = nextL es v) : AllIn ts := by
  intro s hs y hy
  obtain ⟨v, hv, rfl⟩ := List.getElem_of_mem hs
  rw [hl v hv] at hy
  unfold nextL at hy
  obtain ⟨e, he, rfl⟩ := List.mem_map.1 hy
  have := hok e (List.mem_filter.1 he).1
  unfold edgeOk at this
  simp at this
  rw [hts]
  omega
theorem markCells_none (n : Nat) : markCells n (fun _ => false) = Array.replicate n (.bool false) := by
  unfold markCells
  rw [List.map_const']
  simp
theorem zero_marks : Tryz.zeroCells60 = Array.replicate 1000 (.bool false) := by kernel_rfl
end Go.Proofs.YtbfggmeppakcgaaGreat
