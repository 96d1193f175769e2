/- Contracts: a type's head; whether two types are the same; how great, and how deep; of the program, and of the reference. -/
import Derived.Test.YtnomibjbjplieaaGreatJC7
import Derived.Deep.RegionHeld3
import Derived.Laws.StructEq
/- Contracts: a type's head; whether two types are the same; how great, and how deep; of the program, and of the reference. -/
namespace Go.Proofs.YtnomibjbjplieaaGreat
open Go.RowKit

def headV (t : Ty) : Value := .agg #[encStr t.con, .int .i64 t.var, .int .i64 t.args.length]
set_option maxHeartbeats 1000000 in
theorem t_of (t : Ty) (w : World) : Calls Tryz.prog 114 #[tyV t] w fun e w' => e = .returned (headV t) ∧ Ext w w' := by
  unfold tyV at *
  go_enter Tryz.func114, Tryz.ntmps114
  go_wp2
  refine bodyPost_ret (v := headV t) ?_ rfl ⟨rfl, (by repeat (first | exact Ext.refl _ | exact Ext.pre (by simp) | exact Ext.alloc (by assumption) _ | refine Ext.alloc ?_ _ |  refine Ext.more ?_ _ _ | refine Ext.drew ?_ | refine Ext.drewN ?_ _))⟩
  simp [results, Tryz.f114, headV, go_sem]

/-- Have two heads the same parts? -/
def headB (a b : Ty) : Bool := decide (a.con = b.con) && decide (a.var = b.var) && decide (a.args.length = b.args.length)
theorem run_head_eql (w : World) (s s' : Str) (v v' : Int) (n n' : Nat) : (binOp .eql 165 (.agg #[encStr s, .int .i64 v, .int .i64 n]) (.agg #[encStr s', .int .i64 v', .int .i64 n'])).run Tryz.prog w = .ok (.bool (decide (s = s') && decide (v = v') && decide (n = n'))) w := by
  rw [run_eql_struct]
  simp only [encStr]
  cases h1 : decide (s = s') <;> cases h2 : decide (v = v') <;> cases h3 : decide (n = n') <;> simp only [decide_eq_true_eq, decide_eq_false_iff_not] at h1 h2 h3 <;> simp [go_sem, h1, h2, h3, Int.natCast_inj, Result.andThen]
theorem run_head_neq (w : World) (s s' : Str) (v v' : Int) (n n' : Nat) : (binOp .neq 165 (.agg #[encStr s, .int .i64 v, .int .i64 n]) (.agg #[encStr s', .int .i64 v', .int .i64 n'])).run Tryz.prog w = .ok (.bool (!(decide (s = s') && decide (v = v') && decide (n = n')))) w := by
  have h := run_head_eql w s s' v v' n n'
  rw [run_eql_struct] at h
  rw [run_neq_struct]
  generalize (Op.equalIn 10000 _ _ _).run Tryz.prog w = r at *
  cases r with
  | ok b w2 => simp only [Result.andThen] at h ⊢; injection h with h1 h2; injection h1 with h1; rw [h1, h2]
  | halt x w2 => simp [Result.andThen] at h


end Go.Proofs.YtnomibjbjplieaaGreat

/- Contracts on the reference: how great, and how deep, a type is. (A program of ours has printed a part.) -/
namespace Go.Proofs.YtnomibjbjplieaaGreat
open Go.RowKit

set_option maxRecDepth 10000 in
set_option maxHeartbeats 2000000 in
theorem r_size16 (t : Ty) : ∀ (w : World), TyIn w t → t.size ≤ 1000000 →
    Calls Tryz.prog 95 #[tyV t] w fun e w' => e = .returned (.int .i64 (t.size : Int)) ∧ Ext w w' := by
  induction t using Ty.ind with
  | h t ih =>
  intro w h hsz
  have IH := hide ih
  have Hk := hide h.all
  have hle := h.le
  have hmx := h.max
  have HB0 := hide (TBox.new w t)
  have X0 : Hid (Ext w (w.alloc (.cells #[encStr t.con, .int .i64 t.var, .slice t.A t.args.length t.cap] 32))) := hide ((Ext.refl w).alloc _)
  have HS : Hid (t.size = tsizes t.args + 1) := hide (Ty.size_eq t)
  have HSt := hide (fun k (hk : k < t.args.length) => tsizes_take t.args hk)
  have HSl := hide (fun k => tsizes_le t.args k)
  have HSz := hide (fun k (hk : k ∈ t.args) => Ty.size_arg hk)
  clear ih h
  unfold tyV at *
  go_enter Tryz.func95, Tryz.ntmps95
  go_wp2
  generalize (w.alloc (.cells #[encStr t.con, .int .i64 t.var, .slice t.A t.args.length t.cap] 32)) = w0 at *
  go_loopw [3, 4] (fun v i wr => ∃ k : Nat, k ≤ t.args.length ∧ i = .int .i64 k ∧ v = .int .i64 ((tsizes (t.args.take k) + 1 : Nat) : Int) ∧ Hid (Ext w0 wr)) (fun _ i _ => t.args.length - (intOf i).toNat)
  case atStart => exact ⟨0, Nat.zero_le _, rfl, rfl, hide (Ext.refl _)⟩
  case round =>
    obtain ⟨k, hk, rfl, rfl, HX⟩ := hrel
    have HB := hide (HB0.out.ext HX.out)
    have hc2 := HB.out.c2
    by_cases hlt : k < t.args.length
    · have hlt' : (k : Int) < (t.args.length : Int) := by omega
      have hk0 : (0 : Int) ≤ (k : Int) := by omega
      obtain ⟨b, o, hA, hb, q0, q1, q2⟩ := (Hk.out.ext (X0.out.trans HX.out)).at_ hlt
      have hkm := List.getElem_mem hlt
      have Hst := hide (HSt.out k hlt)
      have hs1 := HSl.out (k + 1)
      rw [Hst.out] at hs1
      have hS := HS.out
      have hcs := HSz.out _ hkm
      have HC := hide (IH.out _ hkm wr ((Hk.out.args _ hkm).ext (X0.out.trans HX.out)) (by omega))
      rw [hA] at hc2; clear hA hkm
      generalize t.args[k]'hlt = c at *
      generalize tsizes (t.args.take k) = s at *
      go_wp2_with fail
      refine HC.out.mono ?_
      rintro e w3 ⟨rfl, hx3⟩
      have X3 := hide (HX.out.trans hx3)
      clear hx3
      go_wp2
      go_roundw
      case rel => exact ⟨k + 1, hlt, by go_num, by rw [Hst.out]; exact congrArg (Value.int .i64) (by omega), X3⟩
      case measure => simp [intOf]; omega
    · have hge : ¬ (k : Int) < (t.args.length : Int) := by omega
      have hR : tsizes (t.args.take k) + 1 = t.size := by rw [HS.out, List.take_of_length_le (by omega)]
      rw [hR]
      clear hR
      go_wp2
      go_ret
      exact ⟨rfl, X0.out.trans HX.out⟩

set_option maxRecDepth 10000 in
set_option maxHeartbeats 2000000 in
theorem r_depth16 (t : Ty) : ∀ (w : World), TyIn w t → t.size ≤ 1000000 →
    Calls Tryz.prog 96 #[tyV t] w fun e w' => e = .returned (.int .i64 (t.depth : Int)) ∧ Ext w w' := by
  induction t using Ty.ind with
  | h t ih =>
  intro w h hsz
  have IH := hide ih
  have Hk := hide h.all
  have hle := h.le
  have hmx := h.max
  have HB0 := hide (TBox.new w t)
  have X0 : Hid (Ext w (w.alloc (.cells #[encStr t.con, .int .i64 t.var, .slice t.A t.args.length t.cap] 32))) := hide ((Ext.refl w).alloc _)
  have HD : Hid (t.depth = (t.args.map Ty.depth).foldr max 0 + 1) := hide (Ty.depth_eq t)
  have HDt := hide (fun k (hk : k < t.args.length) => dmaxT_take (l := t.args) hk)
  have HDs := hide (fun k (hk : k ∈ t.args) => Nat.le_trans (tdepth_le k) (Nat.le_of_lt (Ty.size_arg hk)))
  have HSz := hide (fun k (hk : k ∈ t.args) => Ty.size_arg hk)
  clear ih h
  unfold tyV at *
  go_enter Tryz.func96, Tryz.ntmps96
  go_wp2
  generalize (w.alloc (.cells #[encStr t.con, .int .i64 t.var, .slice t.A t.args.length t.cap] 32)) = w0 at *
  go_loopw [3, 4] (fun v i wr => ∃ k M : Nat, k ≤ t.args.length ∧ i = .int .i64 k ∧ v = .int .i64 M ∧ M ≤ 1000000 ∧ Hid (((t.args.take k).map Ty.depth).foldr max 0 = M) ∧ Hid (Ext w0 wr)) (fun _ i _ => t.args.length - (intOf i).toNat)
  case atStart => exact ⟨0, 0, Nat.zero_le _, rfl, rfl, Nat.zero_le _, hide rfl, hide (Ext.refl _)⟩
  case round =>
    obtain ⟨k, M, hk, rfl, rfl, hM, HM, HX⟩ := hrel
    have HB := hide (HB0.out.ext HX.out)
    have hc2 := HB.out.c2
    by_cases hlt : k < t.args.length
    · have hlt' : (k : Int) < (t.args.length : Int) := by omega
      have hk0 : (0 : Int) ≤ (k : Int) := by omega
      obtain ⟨b, o, hA, hb, q0, q1, q2⟩ := (Hk.out.ext (X0.out.trans HX.out)).at_ hlt
      have hkm := List.getElem_mem hlt
      have Hdt := hide (HDt.out k hlt)
      rw [HM.out] at Hdt
      have hdk := HDs.out _ hkm
      have hcs := HSz.out _ hkm
      have HC := hide (IH.out _ hkm wr ((Hk.out.args _ hkm).ext (X0.out.trans HX.out)) (by omega))
      rw [hA] at hc2; clear hA hkm
      generalize t.args[k]'hlt = c at *
      have hdc : c.depth ≤ 1000000 := by omega
      clear hdk hcs
      generalize c.depth = d at *
      by_cases hgt : (d : Int) > (M : Int)
      · go_wp2_with fail
        refine HC.out.mono ?_
        rintro e w3 ⟨rfl, hx3⟩
        have X3 := hide (HX.out.trans hx3)
        clear hx3
        go_wp2
        go_roundw
        case rel => exact ⟨k + 1, d, hlt, by go_num, by first | rfl | exact congrArg (Value.int .i64) (by omega), hdc, hide (by rw [Hdt.out]; omega), X3⟩
        case measure => simp [intOf]; omega
      · go_wp2_with fail
        refine HC.out.mono ?_
        rintro e w3 ⟨rfl, hx3⟩
        have X3 := hide (HX.out.trans hx3)
        clear hx3
        go_wp2
        go_roundw
        case rel => exact ⟨k + 1, M, hlt, by go_num, by first | rfl | exact congrArg (Value.int .i64) (by omega), hM, hide (by rw [Hdt.out]; omega), X3⟩
        case measure => simp [intOf]; omega
    · have hge : ¬ (k : Int) < (t.args.length : Int) := by omega
      have hM0 : (0 : Int) ≤ (M : Int) := by omega
      have HR : Hid (t.depth = M + 1) := hide (by
        have := HM.out
        rw [List.take_of_length_le (by omega)] at this
        rw [HD.out, this])
      go_wp2
      go_ret
      exact ⟨by rw [HR.out]; rfl, X0.out.trans HX.out⟩

end Go.Proofs.YtnomibjbjplieaaGreat
