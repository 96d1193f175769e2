/- Types in boxes; contracts: whether types are not too great. -/
import Derived.Test.YtmjiljhcjfnfpaaGreatJS3
import Derived.Test.YtmjiljhcjfnfpaaGreatProg
import Derived.WalkSpells
import Derived.WalkLawsBesides
import Derived.Deep.QuietTactic
import Derived.BigQuiet
/- Types in boxes; contracts: whether types are not too great. -/
namespace Go.Proofs.YtmjiljhcjfnfpaaGreat
open Go.RowKit

/-- What a cell held it holds. -/
theorem Ext.cell {w w' : World} (e : Ext w w') {a : Addr} {v : Value} (h : w.cell? a = some v) : w'.cell? a = some v := by
  have hb : a.block < w.heap.size := by
    apply Classical.byContradiction
    intro hn
    have : w.heap[a.block]? = none := Array.getElem?_eq_none (by omega)
    simp [World.cell?, this] at h
  exact (World.cell?_of_block (e.heap hb)).trans h

/-- A type in a box. -/
def TBox (w : World) (b : Nat) (t : Ty) : Prop := w.heap[b]? = some (.cells #[encStr t.con, .int .i64 t.var, .slice t.A t.args.length t.cap] 25 (0, 0))
section
variable {w w' : World} {b : Nat} {t : Ty}
theorem TBox.new (w : World) (t : Ty) : TBox (w.alloc (.cells #[encStr t.con, .int .i64 t.var, .slice t.A t.args.length t.cap] 25)) w.heap.size t := at_newB _ _ _ rfl
theorem TBox.lt (h : TBox w b t) : b < w.heap.size := lt_of_obj h
theorem TBox.ext (h : TBox w b t) (e : Ext w w') : TBox w' b t := (e.heap h.lt).trans h
theorem TBox.c0 (h : TBox w b t) : w.cell? ⟨b, 0, none⟩ = some (encStr t.con) := by unfold TBox at h; simp [World.cell?, h]
theorem TBox.c1 (h : TBox w b t) : w.cell? ⟨b, 1, none⟩ = some (.int .i64 t.var) := by unfold TBox at h; simp [World.cell?, h]
theorem TBox.c2 (h : TBox w b t) : w.cell? ⟨b, 2, none⟩ = some (.slice t.A t.args.length t.cap) := by unfold TBox at h; simp [World.cell?, h]
theorem TBox.free (h : TBox w b t) (i : Nat) : w.frozen? ⟨b, i, none⟩ = false := by unfold TBox at h; simp [World.frozen?, h]
end

theorem dmaxT_take {l : List Ty} {k : Nat} (h : k < l.length) : ((l.take (k + 1)).map Ty.depth).foldr max 0 = max (((l.take k).map Ty.depth).foldr max 0) (l[k]'h).depth := by
  have ms : ∀ (l : List Nat) (x : Nat), (l ++ [x]).foldr max 0 = max (l.foldr max 0) x := by
    intro l x
    induction l with
    | nil => simp
    | cons y l ih => simp only [List.cons_append, List.foldr_cons, ih]; omega
  rw [List.take_succ_eq_append_getElem h, List.map_append, List.map_singleton, ms]

/-- What is left of so many is told aright, unless it is below 0. -/
def LeftOk (s d : Nat) (L D v : Int) : Prop := (v ≤ L - 1 ∨ v ≤ -1) ∧ (-1 ≤ v ∨ L - 1 ≤ v) ∧ (0 ≤ v → v = L - s ∧ (d : Int) ≤ D)

set_option maxRecDepth 10000 in
set_option maxHeartbeats 2000000 in
theorem l_count16 (t : Ty) : ∀ (L D : Int) (w : World), TyIn w t → -1000000 ≤ L → L ≤ 1000000 → -1000000 ≤ D → D ≤ 1000000 →
    Calls Tryz.prog 42 #[tyV t, .int .i64 L, .int .i64 D] w fun e w' => (∃ v : Int, e = .returned (.int .i64 v) ∧ LeftOk t.size t.depth L D v) ∧ Ext w w' := by
  induction t using Ty.ind with
  | h t ih =>
  intro L D w h h0 hL hD0 hD
  have IH := hide ih
  have Hk := hide h.all
  have hle := h.le
  have hmx := h.max
  have HB0 := hide (TBox.new w t)
  have X0 : Hid (Ext w (w.alloc (.cells #[encStr t.con, .int .i64 t.var, .slice t.A t.args.length t.cap] 25))) := hide ((Ext.refl w).alloc _)
  have HS : Hid (t.size = tsizes t.args + 1) := hide (Ty.size_eq t)
  have HD : Hid (t.depth = (t.args.map Ty.depth).foldr max 0 + 1) := hide (Ty.depth_eq t)
  have HSt := hide (fun k (hk : k < t.args.length) => tsizes_take t.args hk)
  have HDt := hide (fun k (hk : k < t.args.length) => dmaxT_take (l := t.args) hk)
  clear ih h
  unfold tyV
  by_cases hd : D < 1
  · go_enter Tryz.func42, Tryz.ntmps42
    go_wp2
    go_ret
    exact ⟨⟨-1, rfl, .inr (by omega), .inl (by omega), fun h => by omega⟩, X0.out⟩
  go_enter Tryz.func42, Tryz.ntmps42
  go_wp2
  generalize (w.alloc (.cells #[encStr t.con, .int .i64 t.var, .slice t.A t.args.length t.cap] 25)) = w0 at *
  go_loopw [1, 7] (fun v i wr => ∃ (k : Nat) (V : Int), k ≤ t.args.length ∧ i = .int .i64 k ∧ v = .int .i64 V ∧ (V ≤ L - 1 ∨ V ≤ -1) ∧ (-1 ≤ V ∨ L - 1 ≤ V) ∧ Hid (0 ≤ V → V = L - 1 - tsizes (t.args.take k) ∧ ((((t.args.take k).map Ty.depth).foldr max 0 : Nat) : Int) + 1 ≤ D) ∧ Hid (Ext w0 wr)) (fun _ i _ => t.args.length - (intOf i).toNat)
  case atStart => exact ⟨0, L - 1, Nat.zero_le _, rfl, rfl, by omega, by omega, hide (fun _ => by simp [tsizes]; omega), hide (Ext.refl _)⟩
  case round =>
    obtain ⟨k, V, hk, rfl, rfl, hV1, hV2, HV, HX⟩ := hrel
    have HB := hide (HB0.out.ext HX.out)
    have hc2 := HB.out.c2
    by_cases hlt : k < t.args.length
    · have hlt' : (k : Int) < (t.args.length : Int) := by omega
      have hk0 : (0 : Int) ≤ (k : Int) := by omega
      by_cases hv0 : 0 ≤ V
      · obtain ⟨b, o, hA, hb, q0, q1, q2⟩ := (Hk.out.ext (X0.out.trans HX.out)).at_ hlt
        have HC := hide (IH.out _ (List.getElem_mem hlt) V (D - 1) wr ((Hk.out.args _ (List.getElem_mem hlt)).ext (X0.out.trans HX.out)) (by omega) (by omega) (by omega) (by omega))
        have Hst := hide (HSt.out k hlt)
        have Hdt := hide (HDt.out k hlt)
        rw [hA] at hc2; clear hA
        generalize t.args[k]'hlt = c at *
        generalize tsizes (t.args.take k) = s at *
        generalize ((t.args.take k).map Ty.depth).foldr max 0 = d at *
        go_wp2_with fail
        refine HC.out.mono ?_
        rintro e w3 ⟨⟨v, rfl, hv⟩, hx3⟩
        have X3 := hide (HX.out.trans hx3)
        have Hv := hide hv
        clear hx3 hv
        go_wp2
        go_roundw
        case rel =>
          obtain ⟨a1, a2, a3⟩ := Hv.out
          have a4 := HV.out
          exact ⟨k + 1, v, hlt, by go_num, rfl, by omega, by omega, hide (fun hv => by rw [Hst.out, Hdt.out]; obtain ⟨b1, b2⟩ := a3 hv; obtain ⟨b3, b4⟩ := a4 hv0; omega), X3⟩
        case measure => simp [intOf]; omega
      · go_wp2
        go_ret
        exact ⟨⟨V, rfl, hV1, hV2, fun h => absurd h (by omega)⟩, X0.out.trans HX.out⟩
    · have hge : ¬ (k : Int) < (t.args.length : Int) := by omega
      have hS : tsizes (t.args.take k) = tsizes t.args := by rw [List.take_of_length_le (by omega)]
      have hT : t.args.take k = t.args := List.take_of_length_le (by omega)
      have HF : Hid (LeftOk t.size t.depth L D V) := hide ⟨hV1, hV2, fun h => by have := HV.out h; rw [HS.out, HD.out]; rw [hT] at this; omega⟩
      clear hS hT HV
      go_wp2
      go_ret
      exact ⟨⟨V, rfl, HF.out⟩, X0.out.trans HX.out⟩

set_option maxRecDepth 10000 in
set_option maxHeartbeats 1000000 in
theorem l_few16 (A : Option Addr) (cap : Nat) (l : List Ty) (w : World) (h : TysIn w A l) (hle : l.length ≤ 100000) :
    Calls Tryz.prog 16 #[.slice A l.length cap] w fun e w' => (∃ r : Int, e = .returned (.int .i64 r) ∧ (r = 0 ∨ (r = 1 ∧ tsizes l ≤ 20000 ∧ ∀ t ∈ l, t.depth ≤ 300))) ∧ Ext w w' := by
  have HL := hide h
  have HSt := hide (fun k (hk : k < l.length) => tsizes_take l hk)
  clear h
  go_enter Tryz.func16, Tryz.ntmps16
  go_wp2
  go_loopw [3, 4] (fun v i wr => ∃ (k : Nat) (V : Int), k ≤ l.length ∧ i = .int .i64 k ∧ v = .int .i64 V ∧ V ≤ 20000 ∧ -1 - (k : Int) ≤ V ∧ Hid (0 ≤ V → V = 20000 - tsizes (l.take k) ∧ ∀ t ∈ l.take k, t.depth ≤ 300) ∧ Hid (Ext w wr)) (fun _ i _ => l.length - (intOf i).toNat)
  case atStart => exact ⟨0, 20000, Nat.zero_le _, rfl, rfl, by omega, by omega, hide (fun _ => by simp [tsizes]), hide (Ext.refl _)⟩
  case round =>
    obtain ⟨k, V, hk, rfl, rfl, hV1, hV2, HV, HX⟩ := hrel
    by_cases hlt : k < l.length
    · have hlt' : (k : Int) < (l.length : Int) := by omega
      have hk0 : (0 : Int) ≤ (k : Int) := by omega
      obtain ⟨b, o, rfl, hb, q0, q1, q2⟩ := (HL.out.ext HX.out).at_ hlt
      have HC := hide (l_count16 (l[k]'hlt) V 300 wr ((HL.out.args _ (List.getElem_mem hlt)).ext HX.out) (by omega) (by omega) (by omega) (by omega))
      have Hst := hide (HSt.out k hlt)
      have Htk : Hid (l.take (k + 1) = l.take k ++ [l[k]'hlt]) := hide (List.take_succ_eq_append_getElem hlt)
      generalize l[k]'hlt = c at *
      go_wp2_with fail
      refine HC.out.mono ?_
      rintro e w3 ⟨⟨v, rfl, hv⟩, hx3⟩
      have X3 := hide (HX.out.trans hx3)
      have Hv := hide hv
      clear hx3 hv
      go_wp2
      go_roundw
      case rel =>
        obtain ⟨a1, a2, a3⟩ := Hv.out
        have a4 := HV.out
        exact ⟨k + 1, v, hlt, by go_num, rfl, by omega, by omega, hide (fun hv => by
          obtain ⟨b1, b2⟩ := a3 hv
          obtain ⟨b3, b4⟩ := a4 (by omega)
          rw [Hst.out]
          refine ⟨by omega, fun t ht => ?_⟩
          rw [Htk.out, List.mem_append, List.mem_singleton] at ht
          rcases ht with ht | rfl
          · exact b4 t ht
          · omega), X3⟩
      case measure => simp [intOf]; omega
    · have hge : ¬ (k : Int) < (l.length : Int) := by omega
      have HF : Hid (0 ≤ V → tsizes l ≤ 20000 ∧ ∀ t ∈ l, t.depth ≤ 300) := hide (fun h => by
        have := HV.out h
        rw [List.take_of_length_le (by omega)] at this
        exact ⟨by omega, this.2⟩)
      clear HV
      by_cases hv : V < 0
      · go_wp2
        go_ret
        exact ⟨⟨0, rfl, .inl rfl⟩, HX.out⟩
      · go_wp2
        go_ret
        exact ⟨⟨1, rfl, .inr ⟨rfl, HF.out (by omega)⟩⟩, HX.out⟩

end Go.Proofs.YtmjiljhcjfnfpaaGreat
