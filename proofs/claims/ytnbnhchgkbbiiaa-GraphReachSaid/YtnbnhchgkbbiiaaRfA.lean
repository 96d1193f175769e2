/- Contracts on the reference of graphs: whether edges may be; what is reached from a vertex. -/
import Derived.Test.YtnbnhchgkbbiiaaGrD
import Derived.Test.YtnbnhchgkbbiiaaMark
import Derived.Test.YtnbnhchgkbbiiaaWlk
namespace Go.Proofs.Ytnbnhchgkbbiiaa
open Go.RowKit

set_option maxRecDepth 10000 in
set_option maxHeartbeats 4000000 in
theorem r_check (n : Int) (A : Option Addr) (cap : Nat) (es : List Edge) (w : World) (h : Edges w A es) (hlen : es.length ≤ 100000) :
    Calls Try.prog 17 #[.int .i64 n, .slice A es.length cap] w fun e w' => e = .returned (.int .i64 (if graphOk n es then 0 else 1)) ∧ Ext w w' := by
  have Hr := hide h
  clear h
  by_cases h0 : n < 0
  · have hR : graphOk n es = false := by unfold graphOk; simp; omega
    rw [hR]
    clear hR
    go_enter Try.func17, Try.ntmps17
    go_wp2
    go_ret
    exact ⟨rfl, (by repeat (first | exact Ext.refl _ | exact Ext.pre (by simp) | exact Ext.alloc (by assumption) _ | refine Ext.alloc ?_ _ |  refine Ext.more ?_ _ _ | refine Ext.drew ?_ | refine Ext.drewN ?_ _))⟩
  · by_cases h1 : 1000 < n
    · have hR : graphOk n es = false := by unfold graphOk; simp; omega
      have h2 : n > 1000 := h1
      rw [hR]
      clear hR
      go_enter Try.func17, Try.ntmps17
      go_wp2
      go_ret
      exact ⟨rfl, (by repeat (first | exact Ext.refl _ | exact Ext.pre (by simp) | exact Ext.alloc (by assumption) _ | refine Ext.alloc ?_ _ |  refine Ext.more ?_ _ _ | refine Ext.drew ?_ | refine Ext.drewN ?_ _))⟩
    · have hR : graphOk n es = es.all (edgeOk n) := by
        unfold graphOk
        have e1 : decide (0 ≤ n) = true := by simp; omega
        have e2 : decide (n ≤ 1000) = true := by simp; omega
        rw [e1, e2]; rfl
      rw [hR]
      have HA : Hid (∀ k, (h : k < es.length) → (es.drop k).all (edgeOk n) = (edgeOk n (es[k]'h) && (es.drop (k + 1)).all (edgeOk n))) := hide (fun k h => all_drop _ _ h)
      have HD : Hid ((es.drop 0).all (edgeOk n) = es.all (edgeOk n)) := hide rfl
      clear hR
      generalize es.all (edgeOk n) = R at *
      have h2 : ¬ n > 1000 := h1
      go_enter Try.func17, Try.ntmps17
      go_wp2
      go_loopw [5] (fun i wr => ∃ k : Nat, k ≤ es.length ∧ i = .int .i64 k ∧ Hid (Ext w wr) ∧ Hid ((es.drop k).all (edgeOk n) = R)) (fun i _ => es.length - (intOf i).toNat)
      case atStart => exact ⟨0, Nat.zero_le _, rfl, hide (by repeat (first | exact Ext.refl _ | exact Ext.pre (by simp) | exact Ext.alloc (by assumption) _ | refine Ext.alloc ?_ _ |  refine Ext.more ?_ _ _ | refine Ext.drew ?_ | refine Ext.drewN ?_ _)), HD⟩
      case round =>
        obtain ⟨k, hk, rfl, HX, HK⟩ := hrel
        by_cases hlt : k < es.length
        · obtain ⟨b, o, rfl, hb, c0, c1⟩ := Edges.at_ (RowOf.ext edgeC Hr.out HX.out) hlt
          have hlt' : (k : Int) < (es.length : Int) := by omega
          have Hs := hide (HA.out k hlt)
          have HE : Hid (edgeOk n (es[k]'hlt) = (decide (0 ≤ (es[k]'hlt).a) && decide (0 ≤ (es[k]'hlt).b) && (decide ((es[k]'hlt).a < n) && decide ((es[k]'hlt).b < n)))) := hide rfl
          generalize edgeOk n (es[k]'hlt) = E at *
          generalize (es[k]'hlt).a = ea at *
          generalize (es[k]'hlt).b = eb at *
          cases E
          · have hR : R = false := by rw [← HK.out, Hs.out]; rfl
            subst hR
            have hor : ea < 0 ∨ n ≤ ea ∨ eb < 0 ∨ n ≤ eb := by
              have := HE.out
              simp at this
              omega
            clear HK HD HA
            by_cases q1 : ea < 0
            · go_wp2
              go_ret
              exact ⟨rfl, HX.out.trans (by repeat (first | exact Ext.refl _ | exact Ext.pre (by simp) | exact Ext.alloc (by assumption) _ | refine Ext.alloc ?_ _ |  refine Ext.more ?_ _ _ | refine Ext.drew ?_ | refine Ext.drewN ?_ _))⟩
            · by_cases q2 : ea ≥ n
              · go_wp2
                go_ret
                exact ⟨rfl, HX.out.trans (by repeat (first | exact Ext.refl _ | exact Ext.pre (by simp) | exact Ext.alloc (by assumption) _ | refine Ext.alloc ?_ _ |  refine Ext.more ?_ _ _ | refine Ext.drew ?_ | refine Ext.drewN ?_ _))⟩
              · by_cases q3 : eb < 0
                · go_wp2
                  go_ret
                  exact ⟨rfl, HX.out.trans (by repeat (first | exact Ext.refl _ | exact Ext.pre (by simp) | exact Ext.alloc (by assumption) _ | refine Ext.alloc ?_ _ |  refine Ext.more ?_ _ _ | refine Ext.drew ?_ | refine Ext.drewN ?_ _))⟩
                · have q4 : eb ≥ n := by omega
                  clear hor
                  go_wp2
                  go_ret
                  exact ⟨rfl, HX.out.trans (by repeat (first | exact Ext.refl _ | exact Ext.pre (by simp) | exact Ext.alloc (by assumption) _ | refine Ext.alloc ?_ _ |  refine Ext.more ?_ _ _ | refine Ext.drew ?_ | refine Ext.drewN ?_ _))⟩
          · have hok := HE.out
            simp only [eq_comm (a := true), Bool.and_eq_true, decide_eq_true_eq] at hok
            have q1 : ¬ ea < 0 := by omega
            have q2 : ¬ ea ≥ n := by omega
            have q3 : ¬ eb < 0 := by omega
            have q4 : ¬ eb ≥ n := by omega
            clear hok
            go_wp2
            go_roundw
            case rel => exact ⟨k + 1, hlt, by go_num, hide (HX.out.trans (by repeat (first | exact Ext.refl _ | exact Ext.pre (by simp) | exact Ext.alloc (by assumption) _ | refine Ext.alloc ?_ _ |  refine Ext.more ?_ _ _ | refine Ext.drew ?_ | refine Ext.drewN ?_ _))), hide (by rw [← HK.out, Hs.out]; rfl)⟩
            case measure => simp [intOf]; omega
        · have hge : (es.length : Int) ≤ (k : Int) := by omega
          have hR : R = true := by rw [← HK.out, List.drop_eq_nil_of_le (by omega)]; rfl
          clear HK HD HA
          subst hR
          go_wp2
          go_ret
          exact ⟨rfl, HX.out⟩

/-- A row of n tests, in a block of its own. -/
def BoolB (ty : TypeId) (w : World) (b n : Nat) (M : Nat → Bool) : Prop := w.heap[b]? = some (.cells (cellsOf n fun j => .bool (M j)) ty (0, 0))
section
variable {ty : TypeId} {w w' : World} {b n : Nat} {M : Nat → Bool}
theorem BoolB.cell (h : BoolB ty w b n M) {j : Nat} (hj : j < n) : w.cell? ⟨b, j, none⟩ = some (.bool (M j)) := by
  unfold BoolB at h
  have := cellsOf_get n (fun j => Value.bool (M j)) hj
  generalize cellsOf n (fun j => Value.bool (M j)) = cs at *
  simp [World.cell?, h, this]
theorem BoolB.free (h : BoolB ty w b n M) (i : Nat) : w.frozen? ⟨b, i, none⟩ = false := by
  unfold BoolB at h
  generalize cellsOf n (fun j => Value.bool (M j)) = cs at *
  simp [World.frozen?, h]
theorem BoolB.set (h : BoolB ty w b n M) (j : Nat) : BoolB ty (w.setCell ⟨b, j, none⟩ (.bool true)) b n (mark M j) := by
  unfold BoolB at *
  have h1 := blk_setCell h j (.bool true)
  rw [h1, cellsOf_set]
  intro i _
  unfold mark
  by_cases e : i = j
  · subst e; simp
  · have : (i == j) = false := by simpa using e
    simp [e, this]
theorem BoolB.ext (h : BoolB ty w b n M) (e : Ext w w') : BoolB ty w' b n M := (e.heap (lt_of_obj h)).trans h
theorem BoolB.lt (h : BoolB ty w b n M) : b < w.heap.size := lt_of_obj h
end
theorem bool_info : (Try.prog.info? 4).map (fun i => (i.zero, i.size, i.bytes)) = some (some (.bool false), 1, 1) := by kernel_rfl
theorem bools_info : (Try.prog.info? 77).map (fun i => (i.zero, i.size, i.bytes)) = some (some (.slice none 0 0), 1, 24) := by kernel_rfl
theorem zero_bools (n : Nat) : (List.replicate n (Value.bool false)).toArray = cellsOf n fun _ => .bool false := by
  unfold cellsOf
  simp [List.map_const']

end Go.Proofs.Ytnbnhchgkbbiiaa
