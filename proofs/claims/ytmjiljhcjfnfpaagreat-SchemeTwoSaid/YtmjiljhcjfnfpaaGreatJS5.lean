/- Contracts: a type's head; whether two types are the same; how great, and how deep; of the program, and of the reference. -/
import Derived.Test.YtmjiljhcjfnfpaaGreatJS4
import Derived.Deep.RegionHeld3
import Derived.Laws.StructEq
/- Contracts: a type's head; whether two types are the same; how great, and how deep; of the program, and of the reference. -/
namespace Go.Proofs.YtmjiljhcjfnfpaaGreat
open Go.RowKit

def headV (t : Ty) : Value := .agg #[encStr t.con, .int .i64 t.var, .int .i64 t.args.length]
set_option maxHeartbeats 1000000 in
theorem t_of (t : Ty) (w : World) : Calls Tryz.prog 48 #[tyV t] w fun e w' => e = .returned (headV t) ∧ Ext w w' := by
  unfold tyV at *
  go_enter Tryz.func48, Tryz.ntmps48
  go_wp2
  refine bodyPost_ret (v := headV t) ?_ rfl ⟨rfl, (by repeat (first | exact Ext.refl _ | exact Ext.pre (by simp) | exact Ext.alloc (by assumption) _ | refine Ext.alloc ?_ _ |  refine Ext.more ?_ _ _ | refine Ext.drew ?_ | refine Ext.drewN ?_ _))⟩
  simp [results, Tryz.f48, headV, go_sem]

/-- Have two heads the same parts? -/
def headB (a b : Ty) : Bool := decide (a.con = b.con) && decide (a.var = b.var) && decide (a.args.length = b.args.length)
theorem run_head_eql (w : World) (s s' : Str) (v v' : Int) (n n' : Nat) : (binOp .eql 78 (.agg #[encStr s, .int .i64 v, .int .i64 n]) (.agg #[encStr s', .int .i64 v', .int .i64 n'])).run Tryz.prog w = .ok (.bool (decide (s = s') && decide (v = v') && decide (n = n'))) w := by
  rw [run_eql_struct]
  simp only [encStr]
  cases h1 : decide (s = s') <;> cases h2 : decide (v = v') <;> cases h3 : decide (n = n') <;> simp only [decide_eq_true_eq, decide_eq_false_iff_not] at h1 h2 h3 <;> simp [go_sem, h1, h2, h3, Int.natCast_inj, Result.andThen]
theorem run_head_neq (w : World) (s s' : Str) (v v' : Int) (n n' : Nat) : (binOp .neq 78 (.agg #[encStr s, .int .i64 v, .int .i64 n]) (.agg #[encStr s', .int .i64 v', .int .i64 n'])).run Tryz.prog w = .ok (.bool (!(decide (s = s') && decide (v = v') && decide (n = n')))) w := by
  have h := run_head_eql w s s' v v' n n'
  rw [run_eql_struct] at h
  rw [run_neq_struct]
  generalize (Op.equalIn 10000 _ _ _).run Tryz.prog w = r at *
  cases r with
  | ok b w2 => simp only [Result.andThen] at h ⊢; injection h with h1 h2; injection h1 with h1; rw [h1, h2]
  | halt x w2 => simp [Result.andThen] at h

set_option maxRecDepth 10000 in
set_option maxHeartbeats 2000000 in
theorem t_same (a : Ty) : ∀ (b : Ty) (w : World), TyIn w a → TyIn w b → Calls Tryz.prog 22 #[tyV a, tyV b] w fun e w' => e = .returned (.bool (sameB a b)) ∧ Ext w w' := by
  induction a using Ty.ind with
  | h a ih =>
  intro b w ha hb
  have IH := hide ih
  have HKa := hide ha.all
  have HKb := hide hb.all
  have hla := ha.le
  have hma := ha.max
  have hlb := hb.le
  have hmb := hb.max
  obtain ⟨W, hW⟩ : ∃ W, W = (w.alloc (.cells #[encStr a.con, .int .i64 a.var, .slice a.A a.args.length a.cap] 25)).alloc (.cells #[encStr b.con, .int .i64 b.var, .slice b.A b.args.length b.cap] 25) := ⟨_, rfl⟩
  have X0 : Hid (Ext w W) := hide (by rw [hW]; exact ((Ext.refl _).alloc _).alloc _)
  have B1 : Hid (TBox W w.heap.size a) := hide (by rw [hW]; exact (TBox.new w a).ext ((Ext.refl _).alloc _))
  have B2 : Hid (TBox W (w.heap.size + 1) b) := hide (by rw [hW]; have := TBox.new (w.alloc (.cells #[encStr a.con, .int .i64 a.var, .slice a.A a.args.length a.cap] 25)) b; rwa [World.size_alloc] at this)
  have Ho1 := hide (fun w' => hide (t_of a w'))
  have Ho2 := hide (fun w' => hide (t_of b w'))
  have HP := hide (sameB_parts a b)
  clear ih ha hb
  unfold headV at Ho1 Ho2
  unfold tyV at *
  have c0 := B1.out.c0
  have c1 := B1.out.c1
  have c2 := B1.out.c2
  have d0 := B2.out.c0
  have d1 := B2.out.c1
  have d2 := B2.out.c2
  have hne : ∀ w' : World, (binOp .neq 78 (.agg #[encStr a.con, .int .i64 a.var, .int .i64 a.args.length]) (.agg #[encStr b.con, .int .i64 b.var, .int .i64 b.args.length])).run Tryz.prog w' = .ok (.bool (!headB a b)) w' := fun w' => run_head_neq w' _ _ _ _ _ _
  have hgd : ∀ w' : World, (eqGuard .neq 78 (.tmp 7) (.tmp 9) (.agg #[encStr a.con, .int .i64 a.var, .int .i64 a.args.length]) (.agg #[encStr b.con, .int .i64 b.var, .int .i64 b.args.length])).run Tryz.prog w' = .ok () w' := fun w' => run_eqGuard_agg w' _ _ _ _ _ _ (by kernel_rfl)
  cases hh : headB a b
  · have hR : sameB a b = false := by rw [HP.out]; unfold headB at hh; rw [hh]; rfl
    rw [hR]
    clear hR
    rw [hh] at hne
    go_enter Tryz.func22, Tryz.ntmps22
    go_wp2
    rw [← hW]
    clear hW
    go_region_held3 (fun w' => w'.cell? ⟨w.heap.size, 0, none⟩ = some (encStr a.con) ∧ w'.cell? ⟨w.heap.size, 1, none⟩ = some (.int .i64 a.var) ∧ w'.cell? ⟨w.heap.size, 2, none⟩ = some (.slice a.A a.args.length a.cap) ∧ w'.cell? ⟨w.heap.size + 1, 0, none⟩ = some (encStr b.con) ∧ w'.cell? ⟨w.heap.size + 1, 1, none⟩ = some (.int .i64 b.var) ∧ w'.cell? ⟨w.heap.size + 1, 2, none⟩ = some (.slice b.A b.args.length b.cap)) (first | assumption | go_keep) (first
      | (go_at_call 48
         with_reducible refine Calls.mono (Ho1.out _).out ?_
         rintro e w2 ⟨rfl, hx2⟩
         have X2 := hide (((Ext.refl W).drew).trans hx2)
         have e1 := B1.out.ext X2.out
         have e2 := B2.out.ext X2.out
         have k2 := And.intro e1.c0 (And.intro e1.c1 (And.intro e1.c2 (And.intro e2.c0 (And.intro e2.c1 e2.c2))))
         clear hx2 e1 e2)
      | (go_at_call 48
         with_reducible refine Calls.mono (Ho2.out _).out ?_
         rintro e w3 ⟨rfl, hx3⟩
         have X3 := hide (X2.out.trans hx3)
         have e1 := B1.out.ext X3.out
         have e2 := B2.out.ext X3.out
         have k3 := And.intro e1.c0 (And.intro e1.c1 (And.intro e1.c2 (And.intro e2.c0 (And.intro e2.c1 e2.c2))))
         clear hx3 e1 e2))
    clear k2 k3
    go_wp2
    go_ret
    exact ⟨rfl, X0.out.trans X3.out⟩
  · have HR : Hid (sameB a b = (a.args.zip b.args).all fun p => sameB p.1 p.2) := hide (by rw [HP.out]; have := hh; unfold headB at this; rw [this]; rfl)
    have HL : Hid (a.args.length = b.args.length) := hide (by unfold headB at hh; simp only [Bool.and_eq_true, decide_eq_true_eq] at hh; exact hh.2)
    generalize sameB a b = R at *
    rw [hh] at hne
    go_enter Tryz.func22, Tryz.ntmps22
    go_wp2
    rw [← hW]
    clear hW
    go_region_held3 (fun w' => w'.cell? ⟨w.heap.size, 0, none⟩ = some (encStr a.con) ∧ w'.cell? ⟨w.heap.size, 1, none⟩ = some (.int .i64 a.var) ∧ w'.cell? ⟨w.heap.size, 2, none⟩ = some (.slice a.A a.args.length a.cap) ∧ w'.cell? ⟨w.heap.size + 1, 0, none⟩ = some (encStr b.con) ∧ w'.cell? ⟨w.heap.size + 1, 1, none⟩ = some (.int .i64 b.var) ∧ w'.cell? ⟨w.heap.size + 1, 2, none⟩ = some (.slice b.A b.args.length b.cap)) (first | assumption | go_keep) (first
      | (go_at_call 48
         with_reducible refine Calls.mono (Ho1.out _).out ?_
         rintro e w2 ⟨rfl, hx2⟩
         have X2 := hide (((Ext.refl W).drew).trans hx2)
         have e1 := B1.out.ext X2.out
         have e2 := B2.out.ext X2.out
         have k2 := And.intro e1.c0 (And.intro e1.c1 (And.intro e1.c2 (And.intro e2.c0 (And.intro e2.c1 e2.c2))))
         clear hx2 e1 e2)
      | (go_at_call 48
         with_reducible refine Calls.mono (Ho2.out _).out ?_
         rintro e w3 ⟨rfl, hx3⟩
         have X3 := hide (X2.out.trans hx3)
         have e1 := B1.out.ext X3.out
         have e2 := B2.out.ext X3.out
         have k3 := And.intro e1.c0 (And.intro e1.c1 (And.intro e1.c2 (And.intro e2.c0 (And.intro e2.c1 e2.c2))))
         clear hx3 e1 e2))
    clear k2 k3
    have O1 : Hid (∀ p ∈ (a.args.zip b.args).take 0, sameB p.1 p.2 = true) := hide (by simp)
    have X3' := hide (Ext.refl w3)
    go_wp2
    go_loopw [14] (fun i wr => ∃ k : Nat, k ≤ a.args.length ∧ i = .int .i64 k ∧ Hid (∀ p ∈ (a.args.zip b.args).take k, sameB p.1 p.2 = true) ∧ Hid (Ext w3 wr)) (fun i _ => a.args.length - (intOf i).toNat)
    case atStart => exact ⟨0, Nat.zero_le _, rfl, O1, X3'⟩
    case round =>
      obtain ⟨k, hk, rfl, HA, HX⟩ := hrel
      by_cases hlt : k < a.args.length
      · have hltb : k < b.args.length := by rw [← HL.out]; exact hlt
        have hlt' : (k : Int) < (a.args.length : Int) := by omega
        have hltb' : (k : Int) < (b.args.length : Int) := by omega
        have hk0 : (0 : Int) ≤ (k : Int) := by omega
        have XR := hide (X3.out.trans HX.out)
        obtain ⟨p, o, hAa, hp, q0, q1, q2⟩ := (HKa.out.ext (X0.out.trans XR.out)).at_ hlt
        obtain ⟨p', o', hAb, hp', r0, r1, r2⟩ := (HKb.out.ext (X0.out.trans XR.out)).at_ hltb
        have HC := hide (fun w' (e : Ext wr w') => hide (IH.out _ (List.getElem_mem hlt) (b.args[k]'hltb) w' ((HKa.out.args _ (List.getElem_mem hlt)).ext (X0.out.trans (XR.out.trans e))) ((HKb.out.args _ (List.getElem_mem hltb)).ext (X0.out.trans (XR.out.trans e)))))
        have Htk : Hid ((a.args.zip b.args).take (k + 1) = (a.args.zip b.args).take k ++ [(a.args[k]'hlt, b.args[k]'hltb)]) := hide (by
          rw [List.take_succ_eq_append_getElem (by rw [List.length_zip]; omega), List.getElem_zip])
        have Hmem : Hid ((a.args[k]'hlt, b.args[k]'hltb) ∈ a.args.zip b.args) := hide (by rw [List.mem_iff_getElem]; exact ⟨k, by rw [List.length_zip]; omega, List.getElem_zip⟩)
        have C1 := B1.out.ext XR.out
        have C2 := B2.out.ext XR.out
        have c0 := C1.c0
        have c1 := C1.c1
        have c2 := C1.c2
        have d0 := C2.c0
        have d1 := C2.c1
        have d2 := C2.c2
        rw [hAa] at c2
        rw [hAb] at d2
        clear C1 C2 hAa hAb
        have HSa := hide (fun w' (e : Ext wr w') => And.intro (e.cell c2) (And.intro (e.cell d2) (And.intro (e.cell q0) (And.intro (e.cell q1) (And.intro (e.cell q2) (And.intro (e.cell r0) (And.intro (e.cell r1) (e.cell r2))))))))
        generalize a.args[k]'hlt = x at *
        generalize b.args[k]'hltb = y at *
        go_wp2
        go_region_held3 (fun w' => w'.cell? ⟨w.heap.size, 2, none⟩ = some (.slice (some ⟨p, o, none⟩) a.args.length a.cap) ∧ w'.cell? ⟨w.heap.size + 1, 2, none⟩ = some (.slice (some ⟨p', o', none⟩) b.args.length b.cap) ∧ w'.cell? ⟨p, o + k * 3, none⟩ = some (.string ⟨x.con.toArray⟩) ∧ w'.cell? ⟨p, o + k * 3 + 1, none⟩ = some (.int .i64 x.var) ∧ w'.cell? ⟨p, o + k * 3 + 2, none⟩ = some (.slice x.A x.args.length x.cap) ∧ w'.cell? ⟨p', o' + k * 3, none⟩ = some (.string ⟨y.con.toArray⟩) ∧ w'.cell? ⟨p', o' + k * 3 + 1, none⟩ = some (.int .i64 y.var) ∧ w'.cell? ⟨p', o' + k * 3 + 2, none⟩ = some (.slice y.A y.args.length y.cap)) (first | assumption | go_keep) (first
          | (go_at_call 22
             refine Calls.mono (HC.out _ ((Ext.refl _).drew)).out ?_
             rintro e w5 ⟨rfl, hx5⟩
             have X5 := hide (HX.out.trans (((Ext.refl wr).drew).trans hx5))
             have k5 := HSa.out _ (((Ext.refl wr).drew).trans hx5)
             clear hx5))
        clear k5
        cases hs : sameB x y
        · have hR : R = false := by
            rw [HR.out, ← Bool.not_eq_true, List.all_eq_true]
            intro h
            have := h _ Hmem.out
            rw [hs] at this
            cases this
          clear HR HP
          subst hR
          go_wp2
          go_ret
          exact ⟨rfl, X0.out.trans (X3.out.trans X5.out)⟩
        · go_wp2
          go_roundw
          case rel =>
            refine ⟨k + 1, hlt, by go_num, hide (fun p hp => ?_), X5⟩
            rw [Htk.out, List.mem_append, List.mem_singleton] at hp
            rcases hp with hp | rfl
            · exact HA.out p hp
            · exact hs
          case measure => simp [intOf]; omega
      · have hge : ¬ (k : Int) < (a.args.length : Int) := by omega
        have hR : R = true := by
          rw [HR.out, List.all_eq_true]
          intro p hp
          exact HA.out p (by rw [List.take_of_length_le (by rw [List.length_zip]; omega)]; exact hp)
        clear HR HP
        subst hR
        go_wp2
        go_ret
        exact ⟨rfl, X0.out.trans (X3.out.trans HX.out)⟩

end Go.Proofs.YtmjiljhcjfnfpaaGreat

/- Contracts on the reference: how great, and how deep, a type is. (A program of ours has printed a part.) -/
namespace Go.Proofs.YtmjiljhcjfnfpaaGreat
open Go.RowKit

set_option maxRecDepth 10000 in
set_option maxHeartbeats 2000000 in
theorem r_size16 (t : Ty) : ∀ (w : World), TyIn w t → t.size ≤ 1000000 →
    Calls Tryz.prog 77 #[tyV t] w fun e w' => e = .returned (.int .i64 (t.size : Int)) ∧ Ext w w' := by
  induction t using Ty.ind with
  | h t ih =>
  intro w h hsz
  have IH := hide ih
  have Hk := hide h.all
  have hle := h.le
  have hmx := h.max
  have HB0 := hide (TBox.new w t)
  have X0 : Hid (Ext w (w.alloc (.cells #[encStr t.con, .int .i64 t.var, .slice t.A t.args.length t.cap] 25))) := hide ((Ext.refl w).alloc _)
  have HS : Hid (t.size = tsizes t.args + 1) := hide (Ty.size_eq t)
  have HSt := hide (fun k (hk : k < t.args.length) => tsizes_take t.args hk)
  have HSl := hide (fun k => tsizes_le t.args k)
  have HSz := hide (fun k (hk : k ∈ t.args) => Ty.size_arg hk)
  clear ih h
  unfold tyV at *
  go_enter Tryz.func77, Tryz.ntmps77
  go_wp2
  generalize (w.alloc (.cells #[encStr t.con, .int .i64 t.var, .slice t.A t.args.length t.cap] 25)) = w0 at *
  go_loopw [3, 4] (fun v i wr => ∃ k : Nat, k ≤ t.args.length ∧ i = .int .i64 k ∧ v = .int .i64 ((tsizes (t.args.take k) + 1 : Nat) : Int) ∧ Hid (Ext w0 wr)) (fun _ i _ => t.args.length - (intOf i).toNat)
  case atStart => exact ⟨0, Nat.zero_le _, rfl, rfl, hide (Ext.refl _)⟩
  case round =>
    obtain ⟨k, hk, rfl, rfl, HX⟩ := hrel
    have HB := hide (HB0.out.ext HX.out)
    have hc2 := HB.out.c2
    by_cases hlt : k < t.args.length
    · have hlt' : (k : Int) < (t.args.length : Int) := by omega
      have hk0 : (0 : Int) ≤ (k : Int) := by omega
      obtain ⟨b, o, hA, hb, q0, q1, q2⟩ := (Hk.out.ext (X0.out.trans HX.out)).at_ hlt
      have hkm := List.getElem_mem hlt
      have Hst := hide (HSt.out k hlt)
      have hs1 := HSl.out (k + 1)
      rw [Hst.out] at hs1
      have hS := HS.out
      have hcs := HSz.out _ hkm
      have HC := hide (IH.out _ hkm wr ((Hk.out.args _ hkm).ext (X0.out.trans HX.out)) (by omega))
      rw [hA] at hc2; clear hA hkm
      generalize t.args[k]'hlt = c at *
      generalize tsizes (t.args.take k) = s at *
      go_wp2_with fail
      refine HC.out.mono ?_
      rintro e w3 ⟨rfl, hx3⟩
      have X3 := hide (HX.out.trans hx3)
      clear hx3
      go_wp2
      go_roundw
      case rel => exact ⟨k + 1, hlt, by go_num, by rw [Hst.out]; exact congrArg (Value.int .i64) (by omega), X3⟩
      case measure => simp [intOf]; omega
    · have hge : ¬ (k : Int) < (t.args.length : Int) := by omega
      have hR : tsizes (t.args.take k) + 1 = t.size := by rw [HS.out, List.take_of_length_le (by omega)]
      rw [hR]
      clear hR
      go_wp2
      go_ret
      exact ⟨rfl, X0.out.trans HX.out⟩

set_option maxRecDepth 10000 in
set_option maxHeartbeats 2000000 in
theorem r_depth16 (t : Ty) : ∀ (w : World), TyIn w t → t.size ≤ 1000000 →
    Calls Tryz.prog 78 #[tyV t] w fun e w' => e = .returned (.int .i64 (t.depth : Int)) ∧ Ext w w' := by
  induction t using Ty.ind with
  | h t ih =>
  intro w h hsz
  have IH := hide ih
  have Hk := hide h.all
  have hle := h.le
  have hmx := h.max
  have HB0 := hide (TBox.new w t)
  have X0 : Hid (Ext w (w.alloc (.cells #[encStr t.con, .int .i64 t.var, .slice t.A t.args.length t.cap] 25))) := hide ((Ext.refl w).alloc _)
  have HD : Hid (t.depth = (t.args.map Ty.depth).foldr max 0 + 1) := hide (Ty.depth_eq t)
  have HDt := hide (fun k (hk : k < t.args.length) => dmaxT_take (l := t.args) hk)
  have HDs := hide (fun k (hk : k ∈ t.args) => Nat.le_trans (tdepth_le k) (Nat.le_of_lt (Ty.size_arg hk)))
  have HSz := hide (fun k (hk : k ∈ t.args) => Ty.size_arg hk)
  clear ih h
  unfold tyV at *
  go_enter Tryz.func78, Tryz.ntmps78
  go_wp2
  generalize (w.alloc (.cells #[encStr t.con, .int .i64 t.var, .slice t.A t.args.length t.cap] 25)) = w0 at *
  go_loopw [3, 4] (fun v i wr => ∃ k M : Nat, k ≤ t.args.length ∧ i = .int .i64 k ∧ v = .int .i64 M ∧ M ≤ 1000000 ∧ Hid (((t.args.take k).map Ty.depth).foldr max 0 = M) ∧ Hid (Ext w0 wr)) (fun _ i _ => t.args.length - (intOf i).toNat)
  case atStart => exact ⟨0, 0, Nat.zero_le _, rfl, rfl, Nat.zero_le _, hide rfl, hide (Ext.refl _)⟩
  case round =>
    obtain ⟨k, M, hk, rfl, rfl, hM, HM, HX⟩ := hrel
    have HB := hide (HB0.out.ext HX.out)
    have hc2 := HB.out.c2
    by_cases hlt : k < t.args.length
    · have hlt' : (k : Int) < (t.args.length : Int) := by omega
      have hk0 : (0 : Int) ≤ (k : Int) := by omega
      obtain ⟨b, o, hA, hb, q0, q1, q2⟩ := (Hk.out.ext (X0.out.trans HX.out)).at_ hlt
      have hkm := List.getElem_mem hlt
      have Hdt := hide (HDt.out k hlt)
      rw [HM.out] at Hdt
      have hdk := HDs.out _ hkm
      have hcs := HSz.out _ hkm
      have HC := hide (IH.out _ hkm wr ((Hk.out.args _ hkm).ext (X0.out.trans HX.out)) (by omega))
      rw [hA] at hc2; clear hA hkm
      generalize t.args[k]'hlt = c at *
      have hdc : c.depth ≤ 1000000 := by omega
      clear hdk hcs
      generalize c.depth = d at *
      by_cases hgt : (d : Int) > (M : Int)
      · go_wp2_with fail
        refine HC.out.mono ?_
        rintro e w3 ⟨rfl, hx3⟩
        have X3 := hide (HX.out.trans hx3)
        clear hx3
        go_wp2
        go_roundw
        case rel => exact ⟨k + 1, d, hlt, by go_num, by first | rfl | exact congrArg (Value.int .i64) (by omega), hdc, hide (by rw [Hdt.out]; omega), X3⟩
        case measure => simp [intOf]; omega
      · go_wp2_with fail
        refine HC.out.mono ?_
        rintro e w3 ⟨rfl, hx3⟩
        have X3 := hide (HX.out.trans hx3)
        clear hx3
        go_wp2
        go_roundw
        case rel => exact ⟨k + 1, M, hlt, by go_num, by first | rfl | exact congrArg (Value.int .i64) (by omega), hM, hide (by rw [Hdt.out]; omega), X3⟩
        case measure => simp [intOf]; omega
    · have hge : ¬ (k : Int) < (t.args.length : Int) := by omega
      have hM0 : (0 : Int) ≤ (M : Int) := by omega
      have HR : Hid (t.depth = M + 1) := hide (by
        have := HM.out
        rw [List.take_of_length_le (by omega)] at this
        rw [HD.out, this])
      go_wp2
      go_ret
      exact ⟨by rw [HR.out]; rfl, X0.out.trans HX.out⟩

end Go.Proofs.YtmjiljhcjfnfpaaGreat
