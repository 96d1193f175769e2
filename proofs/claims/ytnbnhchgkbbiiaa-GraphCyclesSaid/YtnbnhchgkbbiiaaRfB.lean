/- Contract on the reference of graphs: what is reached from a vertex, marked. -/
import Derived.Test.YtnbnhchgkbbiiaaRfA
namespace Go.Proofs.Ytnbnhchgkbbiiaa
open Go.RowKit

def isNo : Value → Bool | .bool false => true | _ => false
/-- How many are not so, in a block. -/
def noes (w : World) (b : Nat) : Nat := match w.heap[b]? with | some (.cells cs _ _) => (cs.toList.filter isNo).length | _ => 0
def boolN : Value → Nat | .bool true => 1 | _ => 0
theorem BoolB.noes {ty : TypeId} {w : World} {b n : Nat} {M : Nat → Bool} (h : BoolB ty w b n M) : noes w b = undone n M := by
  unfold BoolB at h
  unfold Go.Proofs.Ytnbnhchgkbbiiaa.noes
  rw [h]
  unfold cellsOf undone
  simp only
  rw [List.filter_map, List.length_map]
  congr 2
  funext x
  cases hx : M x <;> simp [isNo, hx]
def pairsN (es : List Edge) : List (Nat × Nat) := es.map fun e => (e.a.toNat, e.b.toNat)
theorem mem_next {es : List Edge} {n : Nat} (hok : ∀ e ∈ es, edgeOk n e = true) {a b : Nat} : b ∈ nextN es a ↔ (a, b) ∈ pairsN es := by
  unfold nextN nextL pairsN
  simp only [List.mem_map, List.mem_filter, beq_iff_eq]
  constructor
  · rintro ⟨x, ⟨e, ⟨he, ha⟩, rfl⟩, hb⟩
    exact ⟨e, he, by rw [ha, hb]; rfl⟩
  · rintro ⟨e, he, h⟩
    injection h with h1 h2
    have := hok e he
    unfold edgeOk at this
    simp at this
    exact ⟨e.b, ⟨e, ⟨he, by omega⟩, rfl⟩, h2⟩

set_option maxRecDepth 10000 in
set_option maxHeartbeats 4000000 in
theorem r_marks (n v : Nat) (A : Option Addr) (cap : Nat) (es : List Edge) (w : World) (h : Edges w A es) (hn : n ≤ 1000) (hlen : es.length ≤ 100000) (hok : ∀ e ∈ es, edgeOk n e = true) (hv : v < n) :
    Calls Try.prog 43 #[.int .i64 n, .slice A es.length cap, .int .i64 v] w fun e w' => (∃ b M, e = .returned (.slice (some ⟨b, 0, none⟩) n n) ∧ w.heap.size ≤ b ∧ BoolB 4 w' b n M ∧ ∀ j, M j = true ↔ SR (nextN es) v j) ∧ Ext w w' := by
  obtain ⟨i0, hi, hz0, hz1, hz2⟩ := info_parts bool_info
  have hmk := run_make (P := Try.prog) w 77 4 i0 _ Try.underlying77 hi hz0 .i64 .i64 n n (by omega) (Int.le_refl _) (by rw [hz2]; omega) (by omega)
  have hmc : madeCells (Value.bool false).cells ((n : Int).toNat * i0.size) = (List.replicate n (Value.bool false)).toArray := by
    rw [hz1]
    exact madeOne _ _ rfl
  rw [hmc] at hmk
  simp only [Int.toNat_natCast] at hmk
  clear hmc
  have Hr := hide h
  have Hok := hide hok
  have Hps := hide (fun a b (hab : b ∈ nextN es a) => (mem_next hok).1 hab)
  have Hpl : Hid ((pairsN es).length = es.length) := hide (by simp [pairsN])
  have hn1 : (n : Int) ≤ 1000 := by omega
  have HB0 : Hid (BoolB 4 (w.alloc (.cells (List.replicate n (Value.bool false)).toArray 4)) w.heap.size n (fun _ => false)) := hide (by
    unfold BoolB
    rw [← zero_bools]
    exact at_newB _ _ _ rfl)
  generalize hZ : (List.replicate n (Value.bool false)).toArray = Z at *
  clear h hok hZ
  go_enter Try.func43, Try.ntmps43
  go_wp2
  go_loopw [8] (fun u wr => ∃ (o : Nat → Bool) (mo : Bool), u = .bool mo ∧ Hid (Ext w wr) ∧ Hid (BoolB 4 wr w.heap.size n o) ∧ Hid (∀ j, o j = true → SR (nextN es) v j) ∧ Hid (mo = false → ∃ o0, MarkPass (nextN es) n v (pairsN es) o0 o false)) (fun u wr => 2 * noes wr w.heap.size + boolN u)
  case atStart => exact ⟨_, true, rfl, hide (by repeat (first | exact Ext.refl _ | exact Ext.pre (by simp) | exact Ext.alloc (by assumption) _ | refine Ext.alloc ?_ _ |  refine Ext.more ?_ _ _ | refine Ext.drew ?_ | refine Ext.drewN ?_ _)), HB0, hide (by intro j h; cases h), hide (by intro h; cases h)⟩
  case round =>
    obtain ⟨o0, mo, rfl, HX0, HBo, Hso, Hdo⟩ := hrel
    rename World => wA
    cases mo
    · obtain ⟨o1, ho1⟩ := Hdo.out rfl
      have HAll := hide (fun j => ho1.all Hps.out j)
      have hle : w.heap.size ≤ w.heap.size := Nat.le_refl _
      go_wp2
      go_ret
      exact ⟨⟨w.heap.size, rfl, hle, o0, HBo.out, HAll.out⟩, HX0.out⟩
    · have Hno := hide HBo.out.noes
      go_wp2
      go_loopw [8, 9] (fun u i wr => ∃ (k : Nat) (o : Nat → Bool) (mo : Bool), k ≤ es.length ∧ i = .int .i64 k ∧ u = .bool mo ∧ Hid (Ext w wr) ∧ Hid (BoolB 4 wr w.heap.size n o) ∧ Hid (MarkPass (nextN es) n v ((pairsN es).take k) o0 o mo)) (fun _ i _ => es.length - (intOf i).toNat)
      case atStart => exact ⟨0, o0, false, Nat.zero_le _, rfl, rfl, hide (HX0.out.trans (by repeat (first | exact Ext.refl _ | exact Ext.pre (by simp) | exact Ext.alloc (by assumption) _ | refine Ext.alloc ?_ _ |  refine Ext.more ?_ _ _ | refine Ext.drew ?_ | refine Ext.drewN ?_ _))), hide (HBo.out.ext (by repeat (first | exact Ext.refl _ | exact Ext.pre (by simp) | exact Ext.alloc (by assumption) _ | refine Ext.alloc ?_ _ |  refine Ext.more ?_ _ _ | refine Ext.drew ?_ | refine Ext.drewN ?_ _))), hide (MarkPass.start Hso.out)⟩
      case round =>
        obtain ⟨k, o, mo, hk, rfl, rfl, HX, HB, HP⟩ := hrel
        by_cases hlt : k < es.length
        · obtain ⟨b, oo, rfl, hb, c0, c1⟩ := Edges.at_ (RowOf.ext edgeC Hr.out HX.out) hlt
          have hlt' : (k : Int) < (es.length : Int) := by omega
          have hoke := Hok.out _ (List.getElem_mem hlt)
          have hkp : k < (pairsN es).length := by rw [Hpl.out]; exact hlt
          have Htk : Hid ((pairsN es).take (k + 1) = (pairsN es).take k ++ [(pairsN es)[k]'hkp]) := hide (List.take_succ_eq_append_getElem hkp)
          have Hmm : Hid ((pairsN es)[k]'hkp ∈ pairsN es) := hide (List.getElem_mem hkp)
          have Hpe : Hid ((pairsN es)[k]'hkp = ((es[k]'hlt).a.toNat, (es[k]'hlt).b.toNat)) := hide (by simp [pairsN])
          unfold edgeOk at hoke
          simp only [Bool.and_eq_true, decide_eq_true_eq] at hoke
          obtain ⟨x, hx⟩ := Int.eq_ofNat_of_zero_le hoke.1.1
          obtain ⟨y, hy⟩ := Int.eq_ofNat_of_zero_le hoke.1.2
          rw [hx, hy] at Hpe
          rw [hx] at c0 hoke
          rw [hy] at c1 hoke
          simp only [Int.toNat_natCast] at Hpe
          clear hx hy
          have hxn : x < n := by omega
          have hyn : y < n := by omega
          have hx1 : (x : Int) < (n : Int) := by omega
          have hy1 : (y : Int) < (n : Int) := by omega
          have hx0 : (0 : Int) ≤ (x : Int) := by omega
          have hy0 : (0 : Int) ≤ (y : Int) := by omega
          clear hoke
          generalize (pairsN es)[k]'hkp = p at *
          have Hsy : Hid (y ∈ nextN es x) := hide ((mem_next Hok.out).2 (by have := Hmm.out; rwa [Hpe.out] at this))
          have qx := HB.out.cell hxn
          have qy := HB.out.cell hyn
          have qf := HB.out.free
          have hbl := HB.out.lt
          have Hsk : Hid (((x = v ∨ o x = true) → o y = true) → MarkPass (nextN es) n v ((pairsN es).take (k + 1)) o0 o mo) := hide (fun hh => by rw [Htk.out]; exact HP.out.skip (by rw [Hpe.out]; exact hh))
          have Hht : Hid ((x = v ∨ o x = true) → o y = false → MarkPass (nextN es) n v ((pairsN es).take (k + 1)) o0 (mark o y) true) := hide (fun h1 h2 => by rw [Htk.out, Hpe.out]; have := HP.out.hit (p := p) (by rw [Hpe.out]; exact h1) (by rw [Hpe.out]; exact Hsy.out) (by rw [Hpe.out]; exact hyn) (by rw [Hpe.out]; exact h2); rwa [Hpe.out] at this)
          clear Htk Hmm Hpe
          cases hoy : o y
          · rw [hoy] at qy
            by_cases hxv : x = v
            · have HP2 := hide (Hht.out (.inl hxv) hoy)
              subst hxv
              clear hoy
              go_wp2
              go_roundw
              case rel => exact ⟨k + 1, _, true, hlt, by go_num, rfl, hide (Ext.alloc (Ext.setCell HX.out (p := ⟨w.heap.size, y, none⟩) (Nat.le_refl _) _) _), hide ((HB.out.set y).ext (by repeat (first | exact Ext.refl _ | exact Ext.pre (by simp) | exact Ext.alloc (by assumption) _ | refine Ext.alloc ?_ _ |  refine Ext.more ?_ _ _ | refine Ext.drew ?_ | refine Ext.drewN ?_ _))), HP2⟩
              case measure => simp [intOf]; omega
            · have hxv2 : ¬ (x : Int) = (v : Int) := by omega
              cases hox : o x
              · rw [hox] at qx
                have HP2 := hide (Hsk.out (by rintro (h1 | h1); exact absurd h1 hxv; rw [hox] at h1; cases h1))
                clear hoy hox
                go_wp2
                go_roundw
                case rel => exact ⟨k + 1, o, mo, hlt, by go_num, rfl, hide (HX.out.trans (by repeat (first | exact Ext.refl _ | exact Ext.pre (by simp) | exact Ext.alloc (by assumption) _ | refine Ext.alloc ?_ _ |  refine Ext.more ?_ _ _ | refine Ext.drew ?_ | refine Ext.drewN ?_ _))), hide (HB.out.ext (by repeat (first | exact Ext.refl _ | exact Ext.pre (by simp) | exact Ext.alloc (by assumption) _ | refine Ext.alloc ?_ _ |  refine Ext.more ?_ _ _ | refine Ext.drew ?_ | refine Ext.drewN ?_ _))), HP2⟩
                case measure => simp [intOf]; omega
              · rw [hox] at qx
                have HP2 := hide (Hht.out (.inr hox) hoy)
                clear hoy hox
                go_wp2
                go_roundw
                case rel => exact ⟨k + 1, _, true, hlt, by go_num, rfl, hide (Ext.alloc (Ext.setCell HX.out (p := ⟨w.heap.size, y, none⟩) (Nat.le_refl _) _) _), hide ((HB.out.set y).ext (by repeat (first | exact Ext.refl _ | exact Ext.pre (by simp) | exact Ext.alloc (by assumption) _ | refine Ext.alloc ?_ _ |  refine Ext.more ?_ _ _ | refine Ext.drew ?_ | refine Ext.drewN ?_ _))), HP2⟩
                case measure => simp [intOf]; omega
          · rw [hoy] at qy
            have HP2 := hide (Hsk.out (fun _ => hoy))
            clear hoy
            by_cases hxv : x = v
            · subst hxv
              go_wp2
              go_roundw
              case rel => exact ⟨k + 1, o, mo, hlt, by go_num, rfl, hide (HX.out.trans (by repeat (first | exact Ext.refl _ | exact Ext.pre (by simp) | exact Ext.alloc (by assumption) _ | refine Ext.alloc ?_ _ |  refine Ext.more ?_ _ _ | refine Ext.drew ?_ | refine Ext.drewN ?_ _))), hide (HB.out.ext (by repeat (first | exact Ext.refl _ | exact Ext.pre (by simp) | exact Ext.alloc (by assumption) _ | refine Ext.alloc ?_ _ |  refine Ext.more ?_ _ _ | refine Ext.drew ?_ | refine Ext.drewN ?_ _))), HP2⟩
              case measure => simp [intOf]; omega
            · have hxv2 : ¬ (x : Int) = (v : Int) := by omega
              cases hox : o x
              · rw [hox] at qx
                clear hox
                go_wp2
                go_roundw
                case rel => exact ⟨k + 1, o, mo, hlt, by go_num, rfl, hide (HX.out.trans (by repeat (first | exact Ext.refl _ | exact Ext.pre (by simp) | exact Ext.alloc (by assumption) _ | refine Ext.alloc ?_ _ |  refine Ext.more ?_ _ _ | refine Ext.drew ?_ | refine Ext.drewN ?_ _))), hide (HB.out.ext (by repeat (first | exact Ext.refl _ | exact Ext.pre (by simp) | exact Ext.alloc (by assumption) _ | refine Ext.alloc ?_ _ |  refine Ext.more ?_ _ _ | refine Ext.drew ?_ | refine Ext.drewN ?_ _))), HP2⟩
                case measure => simp [intOf]; omega
              · rw [hox] at qx
                clear hox
                go_wp2
                go_roundw
                case rel => exact ⟨k + 1, o, mo, hlt, by go_num, rfl, hide (HX.out.trans (by repeat (first | exact Ext.refl _ | exact Ext.pre (by simp) | exact Ext.alloc (by assumption) _ | refine Ext.alloc ?_ _ |  refine Ext.more ?_ _ _ | refine Ext.drew ?_ | refine Ext.drewN ?_ _))), hide (HB.out.ext (by repeat (first | exact Ext.refl _ | exact Ext.pre (by simp) | exact Ext.alloc (by assumption) _ | refine Ext.alloc ?_ _ |  refine Ext.more ?_ _ _ | refine Ext.drew ?_ | refine Ext.drewN ?_ _))), HP2⟩
                case measure => simp [intOf]; omega
        · have hge : (es.length : Int) ≤ (k : Int) := by omega
          have hkk : (pairsN es).take k = pairsN es := List.take_of_length_le (by rw [Hpl.out]; omega)
          rw [hkk] at HP
          have Hno2 := hide HB.out.noes
          clear hkk
          go_wp2
          go_roundw
          case rel => exact ⟨o, mo, rfl, HX, HB, hide HP.out.sound, hide (fun e => by subst e; exact ⟨o0, HP.out⟩)⟩
          case measure =>
            rw [Hno.out, Hno2.out]
            cases mo
            · have := (HP.out.same rfl).1
              subst this
              simp [boolN]
            · have := HP.out.less rfl
              simp [boolN]
              omega

end Go.Proofs.Ytnbnhchgkbbiiaa
