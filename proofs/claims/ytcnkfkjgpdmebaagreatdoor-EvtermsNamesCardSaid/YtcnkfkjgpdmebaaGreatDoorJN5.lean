/- Contracts: a type's head; whether two types are the same; how great, and how deep; of the program, and of the reference. -/
import Derived.Test.YtcnkfkjgpdmebaaGreatDoorJN4
import Derived.Deep.RegionHeld3
import Derived.Laws.StructEq
/- Contracts: a type's head; whether two types are the same; how great, and how deep; of the program, and of the reference. -/
namespace Go.Proofs.YtcnkfkjgpdmebaaGreatDoor
open Go.RowKit

def headV (t : Ty) : Value := .agg #[encStr t.con, .int .i64 t.var, .int .i64 t.args.length]
set_option maxHeartbeats 1000000 in
theorem t_of (t : Ty) (w : World) : Calls Tryz.prog 171 #[tyV t] w fun e w' => e = .returned (headV t) ∧ Ext w w' := by
  unfold tyV at *
  go_enter Tryz.func171, Tryz.ntmps171
  go_wp2
  refine bodyPost_ret (v := headV t) ?_ rfl ⟨rfl, (by repeat (first | exact Ext.refl _ | exact Ext.pre (by simp) | exact Ext.alloc (by assumption) _ | refine Ext.alloc ?_ _ |  refine Ext.more ?_ _ _ | refine Ext.drew ?_ | refine Ext.drewN ?_ _))⟩
  simp [results, Tryz.f171, headV, go_sem]

/-- Have two heads the same parts? -/
def headB (a b : Ty) : Bool := decide (a.con = b.con) && decide (a.var = b.var) && decide (a.args.length = b.args.length)
theorem run_head_eql (w : World) (s s' : Str) (v v' : Int) (n n' : Nat) : (binOp .eql 248 (.agg #[encStr s, .int .i64 v, .int .i64 n]) (.agg #[encStr s', .int .i64 v', .int .i64 n'])).run Tryz.prog w = .ok (.bool (decide (s = s') && decide (v = v') && decide (n = n'))) w := by
  rw [run_eql_struct]
  simp only [encStr]
  cases h1 : decide (s = s') <;> cases h2 : decide (v = v') <;> cases h3 : decide (n = n') <;> simp only [decide_eq_true_eq, decide_eq_false_iff_not] at h1 h2 h3 <;> simp [go_sem, h1, h2, h3, Int.natCast_inj, Result.andThen]
theorem run_head_neq (w : World) (s s' : Str) (v v' : Int) (n n' : Nat) : (binOp .neq 248 (.agg #[encStr s, .int .i64 v, .int .i64 n]) (.agg #[encStr s', .int .i64 v', .int .i64 n'])).run Tryz.prog w = .ok (.bool (!(decide (s = s') && decide (v = v') && decide (n = n')))) w := by
  have h := run_head_eql w s s' v v' n n'
  rw [run_eql_struct] at h
  rw [run_neq_struct]
  generalize (Op.equalIn 10000 _ _ _).run Tryz.prog w = r at *
  cases r with
  | ok b w2 => simp only [Result.andThen] at h ⊢; injection h with h1 h2; injection h1 with h1; rw [h1, h2]
  | halt x w2 => simp [Result.andThen] at h

set_option maxRecDepth 10000 in
set_option maxHeartbeats 2000000 in
theorem t_same (a : Ty) : ∀ (b : Ty) (w : World), TyIn w a → TyIn w b → Calls Tryz.prog 176 #[tyV a, tyV b] w fun e w' => e = .returned (.bool (sameB a b)) ∧ Ext w w' := by
  induction a using Ty.ind with
  | h a ih =>
  intro b w ha hb
  have IH := hide ih
  have HKa := hide ha.all
  have HKb := hide hb.all
  have hla := ha.le
  have hma := ha.max
  have hlb := hb.le
  have hmb := hb.max
  obtain ⟨W, hW⟩ : ∃ W, W = (w.alloc (.cells #[encStr a.con, .int .i64 a.var, .slice a.A a.args.length a.cap] 53)).alloc (.cells #[encStr b.con, .int .i64 b.var, .slice b.A b.args.length b.cap] 53) := ⟨_, rfl⟩
  have X0 : Hid (Ext w W) := hide (by rw [hW]; exact ((Ext.refl _).alloc _).alloc _)
  have B1 : Hid (TBox W w.heap.size a) := hide (by rw [hW]; exact (TBox.new w a).ext ((Ext.refl _).alloc _))
  have B2 : Hid (TBox W (w.heap.size + 1) b) := hide (by rw [hW]; have := TBox.new (w.alloc (.cells #[encStr a.con, .int .i64 a.var, .slice a.A a.args.length a.cap] 53)) b; rwa [World.size_alloc] at this)
  have Ho1 := hide (fun w' => hide (t_of a w'))
  have Ho2 := hide (fun w' => hide (t_of b w'))
  have HP := hide (sameB_parts a b)
  clear ih ha hb
  unfold headV at Ho1 Ho2
  unfold tyV at *
  have c0 := B1.out.c0
  have c1 := B1.out.c1
  have c2 := B1.out.c2
  have d0 := B2.out.c0
  have d1 := B2.out.c1
  have d2 := B2.out.c2
  have hne : ∀ w' : World, (binOp .neq 248 (.agg #[encStr a.con, .int .i64 a.var, .int .i64 a.args.length]) (.agg #[encStr b.con, .int .i64 b.var, .int .i64 b.args.length])).run Tryz.prog w' = .ok (.bool (!headB a b)) w' := fun w' => run_head_neq w' _ _ _ _ _ _
  have hgd : ∀ w' : World, (eqGuard .neq 248 (.tmp 7) (.tmp 9) (.agg #[encStr a.con, .int .i64 a.var, .int .i64 a.args.length]) (.agg #[encStr b.con, .int .i64 b.var, .int .i64 b.args.length])).run Tryz.prog w' = .ok () w' := fun w' => run_eqGuard_agg w' _ _ _ _ _ _ (by kernel_rfl)
  cases hh : headB a b
  · have hR : sameB a b = false := by rw [HP.out]; unfold headB at hh; rw [hh]; rfl
    rw [hR]
    clear hR
    rw [hh] at hne
    go_enter Tryz.func176, Tryz.ntmps176
    go_wp2
    rw [← hW]
    clear hW
    go_region_held3 (fun w' => w'.cell? ⟨w.heap.size, 0, none⟩ = some (encStr a.con) ∧ w'.cell? ⟨w.heap.size, 1, none⟩ = some (.int .i64 a.var) ∧ w'.cell? ⟨w.heap.size, 2, none⟩ = some (.slice a.A a.args.length a.cap) ∧ w'.cell? ⟨w.heap.size + 1, 0, none⟩ = some (encStr b.con) ∧ w'.cell? ⟨w.heap.size + 1, 1, none⟩ = some (.int .i64 b.var) ∧ w'.cell? ⟨w.heap.size + 1, 2, none⟩ = some (.slice b.A b.args.length b.cap)) (first | assumption | go_keep) (first
      | (go_at_call 171
         with_reducible refine Calls.mono (Ho1.out _).out ?_
         rintro e w2 ⟨rfl, hx2⟩
         have X2 := hide (((Ext.refl W).drew).trans hx2)
         have e1 := B1.out.ext X2.out
         have e2 := B2.out.ext X2.out
         have k2 := And.intro e1.c0 (And.intro e1.c1 (And.intro e1.c2 (And.intro e2.c0 (And.intro e2.c1 e2.c2))))
         clear hx2 e1 e2)
      | (go_at_call 171
         with_reducible refine Calls.mono (Ho2.out _).out ?_
         rintro e w3 ⟨rfl, hx3⟩
         have X3 := hide (X2.out.trans hx3)
         have e1 := B1.out.ext X3.out
         have e2 := B2.out.ext X3.out
         have k3 := And.intro e1.c0 (And.intro e1.c1 (And.intro e1.c2 (And.intro e2.c0 (And.intro e2.c1 e2.c2))))
         clear hx3 e1 e2))
    clear k2 k3
    go_wp2
    go_ret
    exact ⟨rfl, X0.out.trans X3.out⟩
  · have HR : Hid (sameB a b = (a.args.zip b.args).all fun p => sameB p.1 p.2) := hide (by rw [HP.out]; have := hh; unfold headB at this; rw [this]; rfl)
    have HL : Hid (a.args.length = b.args.length) := hide (by unfold headB at hh; simp only [Bool.and_eq_true, decide_eq_true_eq] at hh; exact hh.2)
    generalize sameB a b = R at *
    rw [hh] at hne
    go_enter Tryz.func176, Tryz.ntmps176
    go_wp2
    rw [← hW]
    clear hW
    go_region_held3 (fun w' => w'.cell? ⟨w.heap.size, 0, none⟩ = some (encStr a.con) ∧ w'.cell? ⟨w.heap.size, 1, none⟩ = some (.int .i64 a.var) ∧ w'.cell? ⟨w.heap.size, 2, none⟩ = some (.slice a.A a.args.length a.cap) ∧ w'.cell? ⟨w.heap.size + 1, 0, none⟩ = some (encStr b.con) ∧ w'.cell? ⟨w.heap.size + 1, 1, none⟩ = some (.int .i64 b.var) ∧ w'.cell? ⟨w.heap.size + 1, 2, none⟩ = some (.slice b.A b.args.length b.cap)) (first | assumption | go_keep) (first
      | (go_at_call 171
         with_reducible refine Calls.mono (Ho1.out _).out ?_
         rintro e w2 ⟨rfl, hx2⟩
         have X2 := hide (((Ext.refl W).drew).trans hx2)
         have e1 := B1.out.ext X2.out
         have e2 := B2.out.ext X2.out
         have k2 := And.intro e1.c0 (And.intro e1.c1 (And.intro e1.c2 (And.intro e2.c0 (And.intro e2.c1 e2.c2))))
         clear hx2 e1 e2)
      | (go_at_call 171
         with_reducible refine Calls.mono (Ho2.out _).out ?_
         rintro e w3 ⟨rfl, hx3⟩
         have X3 := hide (X2.out.trans hx3)
         have e1 := B1.out.ext X3.out
         have e2 := B2.out.ext X3.out
         have k3 := And.intro e1.c0 (And.intro e1.c1 (And.intro e1.c2 (And.intro e2.c0 (And.intro e2.c1 e2.c2))))
         clear hx3 e1 e2))
    clear k2 k3
    have O1 : Hid (∀ p ∈ (a.args.zip b.args).take 0, sameB p.1 p.2 = true) := hide (by simp)
    have X3' := hide (Ext.refl w3)
    go_wp2
    go_loopw [14] (fun i wr => ∃ k : Nat, k ≤ a.args.length ∧ i = .int .i64 k ∧ Hid (∀ p ∈ (a.args.zip b.args).take k, sameB p.1 p.2 = true) ∧ Hid (Ext w3 wr)) (fun i _ => a.args.length - (intOf i).toNat)
    case atStart => exact ⟨0, Nat.zero_le _, rfl, O1, X3'⟩
    case round =>
      obtain ⟨k, hk, rfl, HA, HX⟩ := hrel
      by_cases hlt : k < a.args.length
      · have hltb : k < b.args.length := by rw [← HL.out]; exact hlt
        have hlt' : (k : Int) < (a.args.length : Int) := by omega
        have hltb' : (k : Int) < (b.args.length : Int) := by omega
        have hk0 : (0 : Int) ≤ (k : Int) := by omega
        have XR := hide (X3.out.trans HX.out)
        obtain ⟨p, o, hAa, hp, q0, q1, q2⟩ := (HKa.out.ext (X0.out.trans XR.out)).at_ hlt
        obtain ⟨p', o', hAb, hp', r0, r1, r2⟩ := (HKb.out.ext (X0.out.trans XR.out)).at_ hltb
        have HC := hide (fun w' (e : Ext wr w') => hide (IH.out _ (List.getElem_mem hlt) (b.args[k]'hltb) w' ((HKa.out.args _ (List.getElem_mem hlt)).ext (X0.out.trans (XR.out.trans e))) ((HKb.out.args _ (List.getElem_mem hltb)).ext (X0.out.trans (XR.out.trans e)))))
        have Htk : Hid ((a.args.zip b.args).take (k + 1) = (a.args.zip b.args).take k ++ [(a.args[k]'hlt, b.args[k]'hltb)]) := hide (by
          rw [List.take_succ_eq_append_getElem (by rw [List.length_zip]; omega), List.getElem_zip])
        have Hmem : Hid ((a.args[k]'hlt, b.args[k]'hltb) ∈ a.args.zip b.args) := hide (by rw [List.mem_iff_getElem]; exact ⟨k, by rw [List.length_zip]; omega, List.getElem_zip⟩)
        have C1 := B1.out.ext XR.out
        have C2 := B2.out.ext XR.out
        have c0 := C1.c0
        have c1 := C1.c1
        have c2 := C1.c2
        have d0 := C2.c0
        have d1 := C2.c1
        have d2 := C2.c2
        rw [hAa] at c2
        rw [hAb] at d2
        clear C1 C2 hAa hAb
        have HSa := hide (fun w' (e : Ext wr w') => And.intro (e.cell c2) (And.intro (e.cell d2) (And.intro (e.cell q0) (And.intro (e.cell q1) (And.intro (e.cell q2) (And.intro (e.cell r0) (And.intro (e.cell r1) (e.cell r2))))))))
        generalize a.args[k]'hlt = x at *
        generalize b.args[k]'hltb = y at *
        go_wp2
        go_region_held3 (fun w' => w'.cell? ⟨w.heap.size, 2, none⟩ = some (.slice (some ⟨p, o, none⟩) a.args.length a.cap) ∧ w'.cell? ⟨w.heap.size + 1, 2, none⟩ = some (.slice (some ⟨p', o', none⟩) b.args.length b.cap) ∧ w'.cell? ⟨p, o + k * 3, none⟩ = some (.string ⟨x.con.toArray⟩) ∧ w'.cell? ⟨p, o + k * 3 + 1, none⟩ = some (.int .i64 x.var) ∧ w'.cell? ⟨p, o + k * 3 + 2, none⟩ = some (.slice x.A x.args.length x.cap) ∧ w'.cell? ⟨p', o' + k * 3, none⟩ = some (.string ⟨y.con.toArray⟩) ∧ w'.cell? ⟨p', o' + k * 3 + 1, none⟩ = some (.int .i64 y.var) ∧ w'.cell? ⟨p', o' + k * 3 + 2, none⟩ = some (.slice y.A y.args.length y.cap)) (first | assumption | go_keep) (first
          | (go_at_call 176
             refine Calls.mono (HC.out _ ((Ext.refl _).drew)).out ?_
             rintro e w5 ⟨rfl, hx5⟩
             have X5 := hide (HX.out.trans (((Ext.refl wr).drew).trans hx5))
             have k5 := HSa.out _ (((Ext.refl wr).drew).trans hx5)
             clear hx5))
        clear k5
        cases hs : sameB x y
        · have hR : R = false := by
            rw [HR.out, ← Bool.not_eq_true, List.all_eq_true]
            intro h
            have := h _ Hmem.out
            rw [hs] at this
            cases this
          clear HR HP
          subst hR
          go_wp2
          go_ret
          exact ⟨rfl, X0.out.trans (X3.out.trans X5.out)⟩
        · go_wp2
          go_roundw
          case rel =>
            refine ⟨k + 1, hlt, by go_num, hide (fun p hp => ?_), X5⟩
            rw [Htk.out, List.mem_append, List.mem_singleton] at hp
            rcases hp with hp | rfl
            · exact HA.out p hp
            · exact hs
          case measure => simp [intOf]; omega
      · have hge : ¬ (k : Int) < (a.args.length : Int) := by omega
        have hR : R = true := by
          rw [HR.out, List.all_eq_true]
          intro p hp
          exact HA.out p (by rw [List.take_of_length_le (by rw [List.length_zip]; omega)]; exact hp)
        clear HR HP
        subst hR
        go_wp2
        go_ret
        exact ⟨rfl, X0.out.trans (X3.out.trans HX.out)⟩

end Go.Proofs.YtcnkfkjgpdmebaaGreatDoor

/- Contracts on the reference: how great, and how deep, a type is. (A program of ours has printed a part.) -/
namespace Go.Proofs.YtcnkfkjgpdmebaaGreatDoor
open Go.RowKit

end Go.Proofs.YtcnkfkjgpdmebaaGreatDoor
