/- Contracts: types, and terms, that are the same; of the reference. -/
import Derived.Test.YtjacjpeeinnkcaaGreatJB37
import Derived.Deep.QuietTactic
import Derived.BigQuiet
import Derived.Deep.DeepCutAuto
import Derived.RegionTactic
/- Contracts: types, and terms, that are the same; of the reference. -/
namespace Go.Proofs.YtjacjpeeinnkcaaGreat
open Go.RowKit

set_option maxRecDepth 10000 in
set_option maxHeartbeats 4000000 in
theorem r_all16T (A B : Option Addr) (ca cb : Nat) (l m : List Ty) (w : World) (hl : TysIn w A l) (hm : TysIn w B m) (h : l.map Ty.pure = m.map Ty.pure) (hn : l.length ≤ 9223372036854775807) :
    Calls Tryz.prog 41 #[.slice A l.length ca, .slice B m.length cb] w fun e w' => e = .returned (.bool true) ∧ Ext w w' := by
  have hlen : l.length = m.length := by simpa using congrArg List.length h
  have HP : Hid (∀ i (h1 : i < l.length) (h2 : i < m.length), sameB (l[i]'h1) (m[i]'h2) = true) := hide (fun i h1 h2 => by
    rw [sameB_iff]
    have : (l.map Ty.pure)[i]? = (m.map Ty.pure)[i]? := by rw [h]
    rw [List.getElem?_map, List.getElem?_map, List.getElem?_eq_getElem h1, List.getElem?_eq_getElem h2] at this
    simpa using this)
  have HL := hide hl
  have HM := hide hm
  have HLn := hide hlen
  rw [← hlen]
  clear hl hm h hlen
  go_enter Tryz.func41, Tryz.ntmps41
  go_wp2
  go_loopw [5] (fun i wr => ∃ k : Nat, k ≤ l.length ∧ i = .int .i64 k ∧ Hid (Ext w wr)) (fun i _ => l.length - (intOf i).toNat)
  case atStart => exact ⟨0, Nat.zero_le _, rfl, hide (by repeat (first | exact Ext.refl _ | exact Ext.pre (by simp) | exact Ext.alloc (by assumption) _ | refine Ext.alloc ?_ _ |  refine Ext.more ?_ _ _ | refine Ext.drew ?_ | refine Ext.drewN ?_ _))⟩
  case round =>
    obtain ⟨k, hk, rfl, HX⟩ := hrel
    by_cases hlt : k < l.length
    · have hltb : k < m.length := by rw [← HLn.out]; exact hlt
      have hlt' : (k : Int) < (l.length : Int) := by omega
      have hk0 : (0 : Int) ≤ (k : Int) := by omega
      obtain ⟨p, o, hA, hp, q0, q1, q2⟩ := (HL.out.ext HX.out).at_ hlt
      obtain ⟨p', o', hB, hp', r0, r1, r2⟩ := (HM.out.ext HX.out).at_ hltb
      have HC := hide (fun w' (e : Ext w w') => hide (r_same16 (l[k]'hlt) (m[k]'hltb) w' ((HL.out.args _ (List.getElem_mem hlt)).ext e) ((HM.out.args _ (List.getElem_mem hltb)).ext e)))
      rw [HP.out k hlt hltb] at HC
      have HSa := hide (fun w' (e : Ext wr w') => And.intro (e.cell q0) (And.intro (e.cell q1) (And.intro (e.cell q2) (And.intro (e.cell r0) (And.intro (e.cell r1) (e.cell r2))))))
      generalize l[k]'hlt = x at *
      generalize m[k]'hltb = y at *
      rw [hA, hB]
      clear hA hB
      unfold tyV at HC
      go_wp2
      go_region_held3 (fun w' => w'.cell? ⟨p, o + k * 3, none⟩ = some (.string ⟨x.con.toArray⟩) ∧ w'.cell? ⟨p, o + k * 3 + 1, none⟩ = some (.int .i64 x.var) ∧ w'.cell? ⟨p, o + k * 3 + 2, none⟩ = some (.slice x.A x.args.length x.cap) ∧ w'.cell? ⟨p', o' + k * 3, none⟩ = some (.string ⟨y.con.toArray⟩) ∧ w'.cell? ⟨p', o' + k * 3 + 1, none⟩ = some (.int .i64 y.var) ∧ w'.cell? ⟨p', o' + k * 3 + 2, none⟩ = some (.slice y.A y.args.length y.cap)) (first | assumption | go_keep) (first
        | (go_at_call 85
           refine Calls.mono (HC.out _ (HX.out.trans ((Ext.refl _).drew))).out ?_
           rintro e w5 ⟨rfl, hx5⟩
           have X5 := hide (HX.out.trans (((Ext.refl wr).drew).trans hx5))
           have k5 := HSa.out _ (((Ext.refl wr).drew).trans hx5)
           clear hx5))
      clear k5
      go_wp2
      go_roundw
      case rel => exact ⟨k + 1, hlt, by go_num, X5⟩
      case measure => simp [intOf]; omega
    · have hge : ¬ (k : Int) < (l.length : Int) := by omega
      go_wp2
      go_ret
      exact ⟨rfl, HX.out⟩

set_option maxRecDepth 10000 in
set_option maxHeartbeats 8000000 in
theorem r_same32 (a : Tm) : ∀ (b : Tm) (w : World), TmIn w a → TmIn w b → a.pure = b.pure → Calls Tryz.prog 12 #[tmV a, tmV b] w fun e w' => e = .returned (.bool true) ∧ Ext w w' := by
  induction a using Tm.ind with
  | h a ih =>
  intro b w ha hb hp
  have HKa := hide ha.all
  have HKb := hide hb.all
  have HDa := hide ha.hd
  have HDb := hide hb.hd
  have IH := hide ih
  clear ih ha hb
  cases a with
  | mk k n s V vc vs T tc ts A cap l =>
  cases b with
  | mk k' n' s' V' vc' vs' T' tc' ts' A' cap' l' =>
  rw [Tm.pure_eq, Tm.pure_eq] at hp
  simp only [Tm.kind, Tm.n, Tm.name, Tm.vars, Tm.types, Tm.kids, Tm.Pure.mk.injEq] at hp
  obtain ⟨rfl, rfl, rfl, rfl, ht, hk⟩ := hp
  have hlt : ts.length = ts'.length := by simpa using congrArg List.length ht
  have hlk : l.length = l'.length := by simpa using congrArg List.length hk
  have HPk : Hid (∀ i (h1 : i < l.length) (h2 : i < l'.length), (l[i]'h1).pure = (l'[i]'h2).pure) := hide (fun i h1 h2 => by
    have : (l.map Tm.pure)[i]? = (l'.map Tm.pure)[i]? := by rw [hk]
    rw [List.getElem?_map, List.getElem?_map, List.getElem?_eq_getElem h1, List.getElem?_eq_getElem h2] at this
    simpa using this)
  obtain ⟨W, hW⟩ : ∃ W, W = (w.alloc (.cells #[.int .i64 (Tm.mk k n s V vc vs T tc ts A cap l).kind, .int .i64 (Tm.mk k n s V vc vs T tc ts A cap l).n, encStr (Tm.mk k n s V vc vs T tc ts A cap l).name, .slice (Tm.mk k n s V vc vs T tc ts A cap l).V (Tm.mk k n s V vc vs T tc ts A cap l).vars.length (Tm.mk k n s V vc vs T tc ts A cap l).vc, .slice (Tm.mk k n s V vc vs T tc ts A cap l).T (Tm.mk k n s V vc vs T tc ts A cap l).types.length (Tm.mk k n s V vc vs T tc ts A cap l).tc, .slice (Tm.mk k n s V vc vs T tc ts A cap l).A (Tm.mk k n s V vc vs T tc ts A cap l).kids.length (Tm.mk k n s V vc vs T tc ts A cap l).cap] 31)).alloc (.cells #[.int .i64 (Tm.mk k n s V' vc' vs T' tc' ts' A' cap' l').kind, .int .i64 (Tm.mk k n s V' vc' vs T' tc' ts' A' cap' l').n, encStr (Tm.mk k n s V' vc' vs T' tc' ts' A' cap' l').name, .slice (Tm.mk k n s V' vc' vs T' tc' ts' A' cap' l').V (Tm.mk k n s V' vc' vs T' tc' ts' A' cap' l').vars.length (Tm.mk k n s V' vc' vs T' tc' ts' A' cap' l').vc, .slice (Tm.mk k n s V' vc' vs T' tc' ts' A' cap' l').T (Tm.mk k n s V' vc' vs T' tc' ts' A' cap' l').types.length (Tm.mk k n s V' vc' vs T' tc' ts' A' cap' l').tc, .slice (Tm.mk k n s V' vc' vs T' tc' ts' A' cap' l').A (Tm.mk k n s V' vc' vs T' tc' ts' A' cap' l').kids.length (Tm.mk k n s V' vc' vs T' tc' ts' A' cap' l').cap] 31) := ⟨_, rfl⟩
  have X0 : Hid (Ext w W) := hide (by rw [hW]; exact ((Ext.refl _).alloc _).alloc _)
  have B1 : Hid (TmBox W w.heap.size (Tm.mk k n s V vc vs T tc ts A cap l)) := hide (by rw [hW]; exact (TmBox.new w _).ext ((Ext.refl _).alloc _))
  have B2 : Hid (TmBox W (w.heap.size + 1) (Tm.mk k n s V' vc' vs T' tc' ts' A' cap' l')) := hide (by rw [hW]; have := TmBox.new (w.alloc (.cells #[.int .i64 (Tm.mk k n s V vc vs T tc ts A cap l).kind, .int .i64 (Tm.mk k n s V vc vs T tc ts A cap l).n, encStr (Tm.mk k n s V vc vs T tc ts A cap l).name, .slice (Tm.mk k n s V vc vs T tc ts A cap l).V (Tm.mk k n s V vc vs T tc ts A cap l).vars.length (Tm.mk k n s V vc vs T tc ts A cap l).vc, .slice (Tm.mk k n s V vc vs T tc ts A cap l).T (Tm.mk k n s V vc vs T tc ts A cap l).types.length (Tm.mk k n s V vc vs T tc ts A cap l).tc, .slice (Tm.mk k n s V vc vs T tc ts A cap l).A (Tm.mk k n s V vc vs T tc ts A cap l).kids.length (Tm.mk k n s V vc vs T tc ts A cap l).cap] 31)) (Tm.mk k n s V' vc' vs T' tc' ts' A' cap' l'); rwa [World.size_alloc] at this)
  have HAl := hide (r_all16T T T' tc tc' ts ts' W (HDa.out.types.ext X0.out) (HDb.out.types.ext X0.out) ht (Nat.le_trans HDa.out.tle HDa.out.tmax))
  have HLk := hide hlk
  have HLt := hide hlt
  rw [← hlt] at HAl
  have HW := hide hW.symm
  have hvm := Nat.le_trans HDa.out.vle HDa.out.vmax
  have htm := Nat.le_trans HDa.out.tle HDa.out.tmax
  have hkm := Nat.le_trans HDa.out.le HDa.out.max
  simp only [Tm.vars, Tm.types, Tm.kids] at hvm htm hkm
  have hC1 : ∀ w', Ext W w' → _ := fun w' e => (B1.out.ext e).cells
  have hC2 : ∀ w', Ext W w' → _ := fun w' e => (B2.out.ext e).cells
  simp only [Tm.kind, Tm.n, Tm.name, Tm.V, Tm.vc, Tm.vars, Tm.T, Tm.tc, Tm.types, Tm.A, Tm.cap, Tm.kids] at hC1 hC2 HW
  rw [← hlt, ← hlk] at hC2 HW
  have HC1 := hide hC1
  have HC2 := hide hC2
  clear hC1 hC2 hW hk ht hlt hlk
  unfold tmV
  simp only [Tm.kind, Tm.n, Tm.name, Tm.V, Tm.vc, Tm.vars, Tm.T, Tm.tc, Tm.types, Tm.A, Tm.cap, Tm.kids]
  rw [← HLt.out, ← HLk.out]
  obtain ⟨a0, a1, a2, a3, a4, a5⟩ := HC1.out _ (Ext.refl W)
  obtain ⟨b0, b1, b2, b3, b4, b5⟩ := HC2.out _ (Ext.refl W)
  go_enter Tryz.func12, Tryz.ntmps12
  go_upto_region 1 with fail
  rw [HW.out]
  go_wp2_with fail
  refine HAl.out.mono ?_
  rintro e w2 ⟨rfl, hx⟩
  have X2 := hide hx
  clear hx a0 a1 a2 a3 a4 a5 b0 b1 b2 b3 b4 b5
  go_wp2
  go_loopw [5] (fun i wr => ∃ j : Nat, j ≤ vs.length ∧ i = .int .i64 j ∧ Hid (Ext W wr)) (fun i _ => vs.length - (intOf i).toNat)
  case atStart => exact ⟨0, Nat.zero_le _, rfl, X2⟩
  case round =>
    obtain ⟨j, hj, rfl, HX⟩ := hrel
    obtain ⟨-, -, -, a3, -, -⟩ := HC1.out _ HX.out
    obtain ⟨-, -, -, b3, -, -⟩ := HC2.out _ HX.out
    by_cases hlt : j < vs.length
    · have EX := X0.out.trans HX.out
      obtain ⟨b, o, hA, hb, hc⟩ := Ints.at_ (RowOf.ext intC HDa.out.vars EX) hlt
      obtain ⟨b', o', hB, hb', hc'⟩ := Ints.at_ (RowOf.ext intC HDb.out.vars EX) hlt
      have hlt' : (j : Int) < (vs.length : Int) := by omega
      have hj0 : (0 : Int) ≤ (j : Int) := by omega
      simp only [Tm.vars, Tm.V] at hA hB hc hc'
      generalize vs[j]'hlt = y at *
      rw [hA] at a3
      rw [hB] at b3
      clear hA hB EX
      go_wp2
      go_quiet (fail)
      go_wp2
      go_roundw
      case rel => exact ⟨j + 1, hlt, by go_num, hide (HX.out.trans (by repeat (first | exact Ext.refl _ | exact Ext.pre (by simp) | exact Ext.alloc (by assumption) _ | refine Ext.alloc ?_ _ |  refine Ext.more ?_ _ _ | refine Ext.drew ?_ | refine Ext.drewN ?_ _)))⟩
      case measure => simp [intOf]; omega
    · have hge : ¬ (j : Int) < (vs.length : Int) := by omega
      rename World => wA
      go_wp2
      go_loopw [6] (fun i wr => ∃ j : Nat, j ≤ l.length ∧ i = .int .i64 j ∧ Hid (Ext W wr)) (fun i _ => l.length - (intOf i).toNat)
      case atStart => exact ⟨0, Nat.zero_le _, rfl, HX⟩
      case round =>
        obtain ⟨i, hi, rfl, HX⟩ := hrel
        obtain ⟨-, -, -, -, -, a5⟩ := HC1.out _ HX.out
        obtain ⟨-, -, -, -, -, b5⟩ := HC2.out _ HX.out
        by_cases hlt : i < l.length
        · have hltb : i < l'.length := by rw [← HLk.out]; exact hlt
          have hlt' : (i : Int) < (l.length : Int) := by omega
          have hi0 : (0 : Int) ≤ (i : Int) := by omega
          obtain ⟨p, o, hA, hp, q0, q1, q2, q3, q4, q5⟩ := (HKa.out.ext (X0.out.trans HX.out)).at_ hlt
          obtain ⟨p', o', hB, hp', r0, r1, r2, r3, r4, r5⟩ := (HKb.out.ext (X0.out.trans HX.out)).at_ hltb
          have HC := hide (fun w' (e : Ext w w') => hide (IH.out (l[i]'hlt) (List.getElem_mem hlt) (l'[i]'hltb) w' ((HKa.out.kids _ (List.getElem_mem hlt)).ext e) ((HKb.out.kids _ (List.getElem_mem hltb)).ext e) (HPk.out i hlt hltb)))
          simp only [Tm.kids, Tm.A] at hA hB q0 q1 q2 q3 q4 q5 r0 r1 r2 r3 r4 r5
          generalize l[i]'hlt = x at *
          generalize l'[i]'hltb = y at *
          rw [hA] at a5
          rw [hB] at b5
          clear hA hB
          have HSa := hide (fun w' (e : Ext wr w') => And.intro (e.cell a5) (And.intro (e.cell b5) (And.intro (e.cell q0) (And.intro (e.cell q1) (And.intro (e.cell q2) (And.intro (e.cell q3) (And.intro (e.cell q4) (And.intro (e.cell q5) (And.intro (e.cell r0) (And.intro (e.cell r1) (And.intro (e.cell r2) (And.intro (e.cell r3) (And.intro (e.cell r4) (e.cell r5))))))))))))))
          unfold tmV at HC
          go_wp2
          go_region_held3 (fun w' => w'.cell? ⟨w.heap.size, 5, none⟩ = some (.slice (some ⟨p, o, none⟩) l.length cap) ∧ w'.cell? ⟨w.heap.size + 1, 5, none⟩ = some (.slice (some ⟨p', o', none⟩) l.length cap') ∧ w'.cell? ⟨p, o + i * 6, none⟩ = some (.int .i64 x.kind) ∧ w'.cell? ⟨p, o + i * 6 + 1, none⟩ = some (.int .i64 x.n) ∧ w'.cell? ⟨p, o + i * 6 + 2, none⟩ = some (.string ⟨x.name.toArray⟩) ∧ w'.cell? ⟨p, o + i * 6 + 3, none⟩ = some (.slice x.V x.vars.length x.vc) ∧ w'.cell? ⟨p, o + i * 6 + 4, none⟩ = some (.slice x.T x.types.length x.tc) ∧ w'.cell? ⟨p, o + i * 6 + 5, none⟩ = some (.slice x.A x.kids.length x.cap)
            ∧ w'.cell? ⟨p', o' + i * 6, none⟩ = some (.int .i64 y.kind) ∧ w'.cell? ⟨p', o' + i * 6 + 1, none⟩ = some (.int .i64 y.n) ∧ w'.cell? ⟨p', o' + i * 6 + 2, none⟩ = some (.string ⟨y.name.toArray⟩) ∧ w'.cell? ⟨p', o' + i * 6 + 3, none⟩ = some (.slice y.V y.vars.length y.vc) ∧ w'.cell? ⟨p', o' + i * 6 + 4, none⟩ = some (.slice y.T y.types.length y.tc) ∧ w'.cell? ⟨p', o' + i * 6 + 5, none⟩ = some (.slice y.A y.kids.length y.cap)) (first | assumption | exact HSa.out _ ((Ext.refl _).drew) | go_keep) (first
            | (go_at_call 12
               refine Calls.mono (HC.out _ ((X0.out.trans HX.out).trans ((Ext.refl _).drew))).out ?_
               rintro e w5 ⟨rfl, hx5⟩
               have X5 := hide (HX.out.trans (((Ext.refl wr).drew).trans hx5))
               have k5 := HSa.out _ (((Ext.refl wr).drew).trans hx5)
               clear hx5))
          clear k5
          go_wp2
          go_roundw
          case rel => exact ⟨i + 1, hlt, by go_num, X5⟩
          case measure => simp [intOf]; omega
        · have hge : ¬ (i : Int) < (l.length : Int) := by omega
          go_wp2
          go_ret
          exact ⟨rfl, X0.out.trans HX.out⟩

end Go.Proofs.YtjacjpeeinnkcaaGreat

/- Contracts: terms that are the same, and such that are not; of the program. -/
namespace Go.Proofs.YtjacjpeeinnkcaaGreat
open Go.RowKit

set_option maxRecDepth 10000 in
set_option maxHeartbeats 2000000 in
theorem eq_ints (A B : Option Addr) (ca cb : Nat) (l : List Int) (w : World) (hl : Ints w A l) (hm : Ints w B l) (hn : l.length ≤ 9223372036854775807) :
    Calls Tryz.prog 106 #[.slice A l.length ca, .slice B l.length cb] w fun e w' => e = .returned (.bool true) ∧ Ext w w' := by
  have HL := hide hl
  have HM := hide hm
  clear hl hm
  go_enter Tryz.func106, Tryz.ntmps106
  go_wp2
  go_loopw [13] (fun i wr => ∃ k : Nat, k ≤ l.length ∧ i = .int .i64 k ∧ Hid (Ext w wr)) (fun i _ => l.length - (intOf i).toNat)
  case atStart => exact ⟨0, Nat.zero_le _, rfl, hide (by repeat (first | exact Ext.refl _ | exact Ext.pre (by simp) | exact Ext.alloc (by assumption) _ | refine Ext.alloc ?_ _ |  refine Ext.more ?_ _ _ | refine Ext.drew ?_ | refine Ext.drewN ?_ _))⟩
  case round =>
    obtain ⟨k, hk, rfl, HX⟩ := hrel
    by_cases hlt : k < l.length
    · have hlt' : (k : Int) < (l.length : Int) := by omega
      have hk0 : (0 : Int) ≤ (k : Int) := by omega
      obtain ⟨b, o, hA, hb, q0⟩ := Ints.at_ (Row.ext HL.out HX.out) hlt
      obtain ⟨b', o', hB, hb', r0⟩ := Ints.at_ (Row.ext HM.out HX.out) hlt
      generalize l[k]'hlt = x at *
      rw [hA, hB]
      clear hA hB
      go_wp2
      go_quiet (fail)
      all_goals
        go_wp2
        go_roundw
        case rel => exact ⟨k + 1, hlt, by go_num, hide (HX.out.trans (by repeat (first | exact Ext.refl _ | exact Ext.pre (by simp) | exact Ext.alloc (by assumption) _ | refine Ext.alloc ?_ _ |  refine Ext.more ?_ _ _ | refine Ext.drew ?_ | refine Ext.drewN ?_ _)))⟩
        case measure => simp [intOf]; omega
    · have hge : ¬ (k : Int) < (l.length : Int) := by omega
      go_wp2
      go_ret
      exact ⟨rfl, HX.out⟩

set_option maxRecDepth 10000 in
set_option maxHeartbeats 4000000 in
theorem eq_ft (A B : Option Addr) (ca cb : Nat) (l m : List Ty) (w : World) (hl : TysIn w A l) (hm : TysIn w B m) (h : l.map Ty.pure = m.map Ty.pure) (hn : l.length ≤ 9223372036854775807) :
    Calls Tryz.prog 107 #[.slice A l.length ca, .slice B m.length cb, .func (.func 108) #[] #[]] w fun e w' => e = .returned (.bool true) ∧ Ext w w' := by
  have hlen : l.length = m.length := by simpa using congrArg List.length h
  have HP : Hid (∀ i (h1 : i < l.length) (h2 : i < m.length), sameB (l[i]'h1) (m[i]'h2) = true) := hide (fun i h1 h2 => by
    rw [sameB_iff]
    have : (l.map Ty.pure)[i]? = (m.map Ty.pure)[i]? := by rw [h]
    rw [List.getElem?_map, List.getElem?_map, List.getElem?_eq_getElem h1, List.getElem?_eq_getElem h2] at this
    simpa using this)
  have HL := hide hl
  have HM := hide hm
  have HLn := hide hlen
  rw [← hlen]
  clear hl hm h hlen
  go_enter Tryz.func107, Tryz.ntmps107
  go_wp2
  go_loopw [17] (fun i wr => ∃ k : Nat, k ≤ l.length ∧ i = .int .i64 k ∧ Hid (Ext w wr)) (fun i _ => l.length - (intOf i).toNat)
  case atStart => exact ⟨0, Nat.zero_le _, rfl, hide (by repeat (first | exact Ext.refl _ | exact Ext.pre (by simp) | exact Ext.alloc (by assumption) _ | refine Ext.alloc ?_ _ |  refine Ext.more ?_ _ _ | refine Ext.drew ?_ | refine Ext.drewN ?_ _))⟩
  case round =>
    obtain ⟨k, hk, rfl, HX⟩ := hrel
    by_cases hlt : k < l.length
    · have hltb : k < m.length := by rw [← HLn.out]; exact hlt
      have hlt' : (k : Int) < (l.length : Int) := by omega
      have hk0 : (0 : Int) ≤ (k : Int) := by omega
      obtain ⟨p, o, hA, hp, q0, q1, q2⟩ := (HL.out.ext HX.out).at_ hlt
      obtain ⟨p', o', hB, hp', r0, r1, r2⟩ := (HM.out.ext HX.out).at_ hltb
      have HC := hide (fun w' (e : Ext w w') => hide (t_same (l[k]'hlt) (m[k]'hltb) w' ((HL.out.args _ (List.getElem_mem hlt)).ext e) ((HM.out.args _ (List.getElem_mem hltb)).ext e)))
      rw [HP.out k hlt hltb] at HC
      generalize l[k]'hlt = x at *
      generalize m[k]'hltb = y at *
      rw [hA, hB]
      clear hA hB
      unfold tyV at HC
      go_wp2_with fail
      refine (HC.out _ ((HX.out.alloc _).alloc _)).out.mono ?_
      rintro e w5 ⟨rfl, hx5⟩
      have X5 := hide (((HX.out.alloc _).alloc _).trans hx5)
      clear hx5
      go_wp2
      go_roundw
      case rel => exact ⟨k + 1, hlt, by go_num, X5⟩
      case measure => simp [intOf]; omega
    · have hge : ¬ (k : Int) < (l.length : Int) := by omega
      go_wp2
      go_ret
      exact ⟨rfl, HX.out⟩

set_option maxRecDepth 10000 in
set_option maxHeartbeats 4000000 in
theorem eq_fm (A B : Option Addr) (ca cb : Nat) (l m : List Tm) (w : World) (hl : TmsIn w A l) (hm : TmsIn w B m) (h : l.map Tm.pure = m.map Tm.pure) (hf : ∀ x ∈ l, ∀ (y : Tm) (w : World), TmIn w x → TmIn w y → x.pure = y.pure → Calls Tryz.prog 52 #[tmV x, tmV y] w fun e w' => e = .returned (.bool true) ∧ Ext w w') (hn : l.length ≤ 9223372036854775807) :
    Calls Tryz.prog 109 #[.slice A l.length ca, .slice B m.length cb, .func (.func 52) #[] #[]] w fun e w' => e = .returned (.bool true) ∧ Ext w w' := by
  have hlen : l.length = m.length := by simpa using congrArg List.length h
  have HP : Hid (∀ i (h1 : i < l.length) (h2 : i < m.length), (l[i]'h1).pure = (m[i]'h2).pure) := hide (fun i h1 h2 => by
    have : (l.map Tm.pure)[i]? = (m.map Tm.pure)[i]? := by rw [h]
    rw [List.getElem?_map, List.getElem?_map, List.getElem?_eq_getElem h1, List.getElem?_eq_getElem h2] at this
    simpa using this)
  have HL := hide hl
  have HM := hide hm
  have HLn := hide hlen
  have HFf := hide hf
  rw [← hlen]
  clear hl hm h hlen hf
  go_enter Tryz.func109, Tryz.ntmps109
  go_wp2
  go_loopw [17] (fun i wr => ∃ k : Nat, k ≤ l.length ∧ i = .int .i64 k ∧ Hid (Ext w wr)) (fun i _ => l.length - (intOf i).toNat)
  case atStart => exact ⟨0, Nat.zero_le _, rfl, hide (by repeat (first | exact Ext.refl _ | exact Ext.pre (by simp) | exact Ext.alloc (by assumption) _ | refine Ext.alloc ?_ _ |  refine Ext.more ?_ _ _ | refine Ext.drew ?_ | refine Ext.drewN ?_ _))⟩
  case round =>
    obtain ⟨k, hk, rfl, HX⟩ := hrel
    by_cases hlt : k < l.length
    · have hltb : k < m.length := by rw [← HLn.out]; exact hlt
      have hlt' : (k : Int) < (l.length : Int) := by omega
      have hk0 : (0 : Int) ≤ (k : Int) := by omega
      obtain ⟨p, o, hA, hp, q0, q1, q2, q3, q4, q5⟩ := (HL.out.ext HX.out).at_ hlt
      obtain ⟨p', o', hB, hp', r0, r1, r2, r3, r4, r5⟩ := (HM.out.ext HX.out).at_ hltb
      have HC := hide (fun w' (e : Ext w w') => hide (HFf.out _ (List.getElem_mem hlt) (m[k]'hltb) w' ((HL.out.kids _ (List.getElem_mem hlt)).ext e) ((HM.out.kids _ (List.getElem_mem hltb)).ext e) (HP.out k hlt hltb)))
      generalize l[k]'hlt = x at *
      generalize m[k]'hltb = y at *
      rw [hA, hB]
      clear hA hB
      unfold tmV at HC
      go_wp2_with fail
      refine (HC.out _ ((HX.out.alloc _).alloc _)).out.mono ?_
      rintro e w5 ⟨rfl, hx5⟩
      have X5 := hide (((HX.out.alloc _).alloc _).trans hx5)
      clear hx5
      go_wp2
      go_roundw
      case rel => exact ⟨k + 1, hlt, by go_num, X5⟩
      case measure => simp [intOf]; omega
    · have hge : ¬ (k : Int) < (l.length : Int) := by omega
      go_wp2
      go_ret
      exact ⟨rfl, HX.out⟩

set_option maxRecDepth 10000 in
set_option maxHeartbeats 4000000 in
theorem m_same_eq (a : Tm) : ∀ (b : Tm) (w : World), TmIn w a → TmIn w b → a.pure = b.pure → Calls Tryz.prog 52 #[tmV a, tmV b] w fun e w' => e = .returned (.bool true) ∧ Ext w w' := by
  induction a using Tm.ind with
  | h a ih =>
  intro b w ha hb h
  rw [Tm.pure_eq a, Tm.pure_eq b] at h
  injection h with h1 h2 h3 h4 h5 h6
  have HV := hide (fun w' (e : Ext w w') => hide (eq_ints a.V b.V a.vc b.vc a.vars w' (Row.ext ha.hd.vars e) (by rw [h4]; exact Row.ext hb.hd.vars e) (Nat.le_trans ha.hd.vle ha.hd.vmax)))
  have HT := hide (fun w' (e : Ext w w') => hide (eq_ft a.T b.T a.tc b.tc a.types b.types w' (ha.hd.types.ext e) (hb.hd.types.ext e) h5 (Nat.le_trans ha.hd.tle ha.hd.tmax)))
  have HK := hide (fun w' (e : Ext w w') => hide (eq_fm a.A b.A a.cap b.cap a.kids b.kids w' (ha.all.ext e) (hb.all.ext e) h6 ih (Nat.le_trans ha.hd.le ha.hd.max)))
  have g1 : (a.kind == b.kind) = true := by rw [h1]; simp
  have g2 : (a.n == b.n) = true := by rw [h2]; simp
  have g3 : (a.name == b.name) = true := by rw [h3]; simp
  rw [h4] at HV
  have H4 := hide h4
  obtain ⟨W, hW⟩ : ∃ W, W = (w.alloc (.cells #[.int .i64 a.kind, .int .i64 a.n, encStr a.name, .slice a.V a.vars.length a.vc, .slice a.T a.types.length a.tc, .slice a.A a.kids.length a.cap] 31)).alloc (.cells #[.int .i64 b.kind, .int .i64 b.n, encStr b.name, .slice b.V b.vars.length b.vc, .slice b.T b.types.length b.tc, .slice b.A b.kids.length b.cap] 31) := ⟨_, rfl⟩
  have HW := hide hW.symm
  have X0 : Hid (Ext w W) := hide (by rw [hW]; exact ((Ext.refl _).alloc _).alloc _)
  have B1 : Hid (TmBox W w.heap.size a) := hide (by rw [hW]; exact (TmBox.new w a).ext ((Ext.refl _).alloc _))
  have B2 : Hid (TmBox W (w.heap.size + 1) b) := hide (by rw [hW]; exact at_newB _ _ _ (by simp))
  clear h1 h2 h3 h4 h5 h6 ih ha hb hW
  unfold tmV
  obtain ⟨c0, c1, c2, c3, c4, c5⟩ := B1.out.cells
  obtain ⟨d0, d1, d2, d3, d4, d5⟩ := B2.out.cells
  rw [H4.out] at c3
  go_enter Tryz.func52, Tryz.ntmps52
  go_upto_region 1 with fail
  rw [HW.out]
  go_wp2_with fail
  refine (HV.out _ X0.out).out.mono ?_
  rintro e w2 ⟨rfl, hx⟩
  have X2 := hide hx
  obtain ⟨-, -, -, -, c4, c5⟩ := (B1.out.ext X2.out).cells
  obtain ⟨-, -, -, -, d4, d5⟩ := (B2.out.ext X2.out).cells
  clear hx
  go_wp2_with fail
  refine (HT.out _ (X0.out.trans X2.out)).out.mono ?_
  rintro e w3 ⟨rfl, hx⟩
  have X3 := hide (X2.out.trans hx)
  obtain ⟨-, -, -, -, -, c5⟩ := (B1.out.ext X3.out).cells
  obtain ⟨-, -, -, -, -, d5⟩ := (B2.out.ext X3.out).cells
  clear hx
  go_wp2_with fail
  refine (HK.out _ (X0.out.trans X3.out)).out.mono ?_
  rintro e w4 ⟨rfl, hx⟩
  go_wp2
  go_ret
  exact ⟨rfl, X0.out.trans (X3.out.trans hx)⟩

set_option maxRecDepth 10000 in
set_option maxHeartbeats 4000000 in
theorem m_same_ne (a b : Tm) (w : World) (h : (a.kind == b.kind) = false) : Calls Tryz.prog 52 #[tmV a, tmV b] w fun e w' => e = .returned (.bool false) ∧ Ext w w' := by
  obtain ⟨W, hW⟩ : ∃ W, W = (w.alloc (.cells #[.int .i64 a.kind, .int .i64 a.n, encStr a.name, .slice a.V a.vars.length a.vc, .slice a.T a.types.length a.tc, .slice a.A a.kids.length a.cap] 31)).alloc (.cells #[.int .i64 b.kind, .int .i64 b.n, encStr b.name, .slice b.V b.vars.length b.vc, .slice b.T b.types.length b.tc, .slice b.A b.kids.length b.cap] 31) := ⟨_, rfl⟩
  have HW := hide hW.symm
  have X0 : Hid (Ext w W) := hide (by rw [hW]; exact ((Ext.refl _).alloc _).alloc _)
  have B1 : Hid (TmBox W w.heap.size a) := hide (by rw [hW]; exact (TmBox.new w a).ext ((Ext.refl _).alloc _))
  have B2 : Hid (TmBox W (w.heap.size + 1) b) := hide (by rw [hW]; exact at_newB _ _ _ (by simp))
  clear hW
  unfold tmV
  obtain ⟨c0, c1, c2, c3, c4, c5⟩ := B1.out.cells
  obtain ⟨d0, d1, d2, d3, d4, d5⟩ := B2.out.cells
  go_enter Tryz.func52, Tryz.ntmps52
  go_upto_region 1 with fail
  rw [HW.out]
  go_wp2
  go_ret
  exact ⟨rfl, X0.out⟩

end Go.Proofs.YtjacjpeeinnkcaaGreat

/- Contracts: lambdas around a term, of the program, and of the reference. -/
namespace Go.Proofs.YtjacjpeeinnkcaaGreat
open Go.RowKit

/-- A lambda is written into a box, its type and its kid into new blocks. -/
theorem lam_step {W wr Wn V : World} {B g k : Nat} {s : Str} {x : Ty} {u : Tm} {v0 v1 v2 v3 v4 v5 : Value} (hX : Ext W wr) (hB : TmBox wr B u) (hZ : wr.heap[B + 1]? = some (.cells #[v0, v1, v2, v3, v4, v5] 31 (0, 0))) (hu : TmIn wr u) (hau : AwayM B u) (hx : TyIn wr x) (hax : awayB B x = true) (hs : s.length ≤ 9223372036854775807) (hWB : W.heap.size ≤ B)
    (hV : V = putTm wr B (lamT s x u g k)) (hE : Ext V Wn) (hg : TBox Wn g x) (hk : TmBox Wn k u) :
    Ext W Wn ∧ TmBox Wn B (lamT s x u g k) ∧ Wn.heap[B + 1]? = some (.cells #[v0, v1, v2, v3, v4, v5] 31 (0, 0)) ∧ TmIn Wn (lamT s x u g k) := by
  have gr := putTm_grown wr B (lamT s x u g k)
  rw [← hV] at gr
  have hb : TmBox V B (lamT s x u g k) := by rw [hV]; exact putTm_box _ hB
  have hz : V.heap[B + 1]? = _ := (gr.block (B + 1) (lt_of_obj hZ) (fun e => by injection e with e; omega)).trans hZ
  exact ⟨(hX.grown gr (fun c e => by injection e with e; omega)).trans hE, hb.ext hE, (hE.heap (lt_of_obj hz)).trans hz,
    lamT_in hs ((hx.grown gr (fun c e => by injection e with e; subst e; exact hax)).ext hE) ((hu.grown gr (fun c e => by injection e with e; subst e; exact hau)).ext hE) hg hk⟩

theorem lam_form (wr : World) (B : Nat) (s : Str) (x : Ty) (u : Tm) (g h : Nat) : ((((((wr.setCell ⟨B, 0, none⟩ (.int .i64 3)).setCell ⟨B, 1, none⟩ (.int .i64 0)).setCell ⟨B, 2, none⟩ (.string ⟨s.toArray⟩)).setCell ⟨B, 3, none⟩ (.slice none 0 0)).setCell ⟨B, 4, none⟩ (.slice (some ⟨g, 0, none⟩) 1 1)).setCell ⟨B, 5, none⟩ (.slice (some ⟨h, 0, none⟩) 1 1)) = putTm wr B (lamT s x u g h) := by
  unfold putTm lamT Tm.kind Tm.n Tm.name Tm.V Tm.vars Tm.vc Tm.T Tm.types Tm.tc Tm.A Tm.kids Tm.cap
  rfl

theorem lam_stepA {W wr : World} {B : Nat} {s : Str} {x : Ty} {u : Tm} {v0 v1 v2 v3 v4 v5 : Value} (hX : Ext W wr) (hB : TmBox wr B u) (hZ : wr.heap[B + 1]? = some (.cells #[v0, v1, v2, v3, v4, v5] 31 (0, 0))) (hu : TmIn wr u) (hau : AwayM B u) (hx : TyIn wr x) (hax : awayB B x = true) (hs : s.length ≤ 9223372036854775807) (hWB : W.heap.size ≤ B) :
    Ext W (((((((((wr.setCell ⟨B, 0, none⟩ (.int .i64 3)).setCell ⟨B, 1, none⟩ (.int .i64 0)).setCell ⟨B, 2, none⟩ (.string ⟨s.toArray⟩)).setCell ⟨B, 3, none⟩ (.slice none 0 0)).setCell ⟨B, 4, none⟩ (.slice (some ⟨wr.heap.size, 0, none⟩) 1 1)).setCell ⟨B, 5, none⟩ (.slice (some ⟨wr.heap.size + 1, 0, none⟩) 1 1)).alloc (.cells #[.string ⟨x.con.toArray⟩, .int .i64 x.var, .slice x.A x.args.length x.cap] 55)).alloc (.cells #[.int .i64 u.kind, .int .i64 u.n, .string ⟨u.name.toArray⟩, .slice u.V u.vars.length u.vc, .slice u.T u.types.length u.tc, .slice u.A u.kids.length u.cap] 31)).drew) ∧ TmBox (((((((((wr.setCell ⟨B, 0, none⟩ (.int .i64 3)).setCell ⟨B, 1, none⟩ (.int .i64 0)).setCell ⟨B, 2, none⟩ (.string ⟨s.toArray⟩)).setCell ⟨B, 3, none⟩ (.slice none 0 0)).setCell ⟨B, 4, none⟩ (.slice (some ⟨wr.heap.size, 0, none⟩) 1 1)).setCell ⟨B, 5, none⟩ (.slice (some ⟨wr.heap.size + 1, 0, none⟩) 1 1)).alloc (.cells #[.string ⟨x.con.toArray⟩, .int .i64 x.var, .slice x.A x.args.length x.cap] 55)).alloc (.cells #[.int .i64 u.kind, .int .i64 u.n, .string ⟨u.name.toArray⟩, .slice u.V u.vars.length u.vc, .slice u.T u.types.length u.tc, .slice u.A u.kids.length u.cap] 31)).drew) B (lamT s x u (wr.heap.size) (wr.heap.size + 1)) ∧ (((((((((wr.setCell ⟨B, 0, none⟩ (.int .i64 3)).setCell ⟨B, 1, none⟩ (.int .i64 0)).setCell ⟨B, 2, none⟩ (.string ⟨s.toArray⟩)).setCell ⟨B, 3, none⟩ (.slice none 0 0)).setCell ⟨B, 4, none⟩ (.slice (some ⟨wr.heap.size, 0, none⟩) 1 1)).setCell ⟨B, 5, none⟩ (.slice (some ⟨wr.heap.size + 1, 0, none⟩) 1 1)).alloc (.cells #[.string ⟨x.con.toArray⟩, .int .i64 x.var, .slice x.A x.args.length x.cap] 55)).alloc (.cells #[.int .i64 u.kind, .int .i64 u.n, .string ⟨u.name.toArray⟩, .slice u.V u.vars.length u.vc, .slice u.T u.types.length u.tc, .slice u.A u.kids.length u.cap] 31)).drew).heap[B + 1]? = some (.cells #[v0, v1, v2, v3, v4, v5] 31 (0, 0)) ∧ TmIn (((((((((wr.setCell ⟨B, 0, none⟩ (.int .i64 3)).setCell ⟨B, 1, none⟩ (.int .i64 0)).setCell ⟨B, 2, none⟩ (.string ⟨s.toArray⟩)).setCell ⟨B, 3, none⟩ (.slice none 0 0)).setCell ⟨B, 4, none⟩ (.slice (some ⟨wr.heap.size, 0, none⟩) 1 1)).setCell ⟨B, 5, none⟩ (.slice (some ⟨wr.heap.size + 1, 0, none⟩) 1 1)).alloc (.cells #[.string ⟨x.con.toArray⟩, .int .i64 x.var, .slice x.A x.args.length x.cap] 55)).alloc (.cells #[.int .i64 u.kind, .int .i64 u.n, .string ⟨u.name.toArray⟩, .slice u.V u.vars.length u.vc, .slice u.T u.types.length u.tc, .slice u.A u.kids.length u.cap] 31)).drew) (lamT s x u (wr.heap.size) (wr.heap.size + 1)) := by
  have hV := lam_form wr B s x u (wr.heap.size) (wr.heap.size + 1)
  generalize ((((((wr.setCell ⟨B, 0, none⟩ (.int .i64 3)).setCell ⟨B, 1, none⟩ (.int .i64 0)).setCell ⟨B, 2, none⟩ (.string ⟨s.toArray⟩)).setCell ⟨B, 3, none⟩ (.slice none 0 0)).setCell ⟨B, 4, none⟩ (.slice (some ⟨wr.heap.size, 0, none⟩) 1 1)).setCell ⟨B, 5, none⟩ (.slice (some ⟨wr.heap.size + 1, 0, none⟩) 1 1)) = V at *
  have hsz : V.heap.size = wr.heap.size := by rw [hV, putTm_size]
  exact lam_step hX hB hZ hu hau hx hax hs hWB hV (((Ext.refl V).alloc _).alloc _).drew (((((Ext.refl (V.alloc (.cells #[.string ⟨x.con.toArray⟩, .int .i64 x.var, .slice x.A x.args.length x.cap] 55))).alloc _).drew).heap (by simp [hsz])).trans (at_newB V _ _ hsz.symm)) (at_newB _ _ _ (by simp [hsz]))
theorem lam_stepB {W wr : World} {B : Nat} {s : Str} {x : Ty} {u : Tm} {v0 v1 v2 v3 v4 v5 : Value} (hX : Ext W wr) (hB : TmBox wr B u) (hZ : wr.heap[B + 1]? = some (.cells #[v0, v1, v2, v3, v4, v5] 31 (0, 0))) (hu : TmIn wr u) (hau : AwayM B u) (hx : TyIn wr x) (hax : awayB B x = true) (hs : s.length ≤ 9223372036854775807) (hWB : W.heap.size ≤ B) :
    Ext W (((((((((wr.setCell ⟨B, 0, none⟩ (.int .i64 3)).setCell ⟨B, 1, none⟩ (.int .i64 0)).setCell ⟨B, 2, none⟩ (.string ⟨s.toArray⟩)).setCell ⟨B, 3, none⟩ (.slice none 0 0)).setCell ⟨B, 4, none⟩ (.slice (some ⟨wr.heap.size + 1, 0, none⟩) 1 1)).setCell ⟨B, 5, none⟩ (.slice (some ⟨wr.heap.size, 0, none⟩) 1 1)).alloc (.cells #[.int .i64 u.kind, .int .i64 u.n, .string ⟨u.name.toArray⟩, .slice u.V u.vars.length u.vc, .slice u.T u.types.length u.tc, .slice u.A u.kids.length u.cap] 31)).alloc (.cells #[.string ⟨x.con.toArray⟩, .int .i64 x.var, .slice x.A x.args.length x.cap] 55)).drew) ∧ TmBox (((((((((wr.setCell ⟨B, 0, none⟩ (.int .i64 3)).setCell ⟨B, 1, none⟩ (.int .i64 0)).setCell ⟨B, 2, none⟩ (.string ⟨s.toArray⟩)).setCell ⟨B, 3, none⟩ (.slice none 0 0)).setCell ⟨B, 4, none⟩ (.slice (some ⟨wr.heap.size + 1, 0, none⟩) 1 1)).setCell ⟨B, 5, none⟩ (.slice (some ⟨wr.heap.size, 0, none⟩) 1 1)).alloc (.cells #[.int .i64 u.kind, .int .i64 u.n, .string ⟨u.name.toArray⟩, .slice u.V u.vars.length u.vc, .slice u.T u.types.length u.tc, .slice u.A u.kids.length u.cap] 31)).alloc (.cells #[.string ⟨x.con.toArray⟩, .int .i64 x.var, .slice x.A x.args.length x.cap] 55)).drew) B (lamT s x u (wr.heap.size + 1) (wr.heap.size)) ∧ (((((((((wr.setCell ⟨B, 0, none⟩ (.int .i64 3)).setCell ⟨B, 1, none⟩ (.int .i64 0)).setCell ⟨B, 2, none⟩ (.string ⟨s.toArray⟩)).setCell ⟨B, 3, none⟩ (.slice none 0 0)).setCell ⟨B, 4, none⟩ (.slice (some ⟨wr.heap.size + 1, 0, none⟩) 1 1)).setCell ⟨B, 5, none⟩ (.slice (some ⟨wr.heap.size, 0, none⟩) 1 1)).alloc (.cells #[.int .i64 u.kind, .int .i64 u.n, .string ⟨u.name.toArray⟩, .slice u.V u.vars.length u.vc, .slice u.T u.types.length u.tc, .slice u.A u.kids.length u.cap] 31)).alloc (.cells #[.string ⟨x.con.toArray⟩, .int .i64 x.var, .slice x.A x.args.length x.cap] 55)).drew).heap[B + 1]? = some (.cells #[v0, v1, v2, v3, v4, v5] 31 (0, 0)) ∧ TmIn (((((((((wr.setCell ⟨B, 0, none⟩ (.int .i64 3)).setCell ⟨B, 1, none⟩ (.int .i64 0)).setCell ⟨B, 2, none⟩ (.string ⟨s.toArray⟩)).setCell ⟨B, 3, none⟩ (.slice none 0 0)).setCell ⟨B, 4, none⟩ (.slice (some ⟨wr.heap.size + 1, 0, none⟩) 1 1)).setCell ⟨B, 5, none⟩ (.slice (some ⟨wr.heap.size, 0, none⟩) 1 1)).alloc (.cells #[.int .i64 u.kind, .int .i64 u.n, .string ⟨u.name.toArray⟩, .slice u.V u.vars.length u.vc, .slice u.T u.types.length u.tc, .slice u.A u.kids.length u.cap] 31)).alloc (.cells #[.string ⟨x.con.toArray⟩, .int .i64 x.var, .slice x.A x.args.length x.cap] 55)).drew) (lamT s x u (wr.heap.size + 1) (wr.heap.size)) := by
  have hV := lam_form wr B s x u (wr.heap.size + 1) (wr.heap.size)
  generalize ((((((wr.setCell ⟨B, 0, none⟩ (.int .i64 3)).setCell ⟨B, 1, none⟩ (.int .i64 0)).setCell ⟨B, 2, none⟩ (.string ⟨s.toArray⟩)).setCell ⟨B, 3, none⟩ (.slice none 0 0)).setCell ⟨B, 4, none⟩ (.slice (some ⟨wr.heap.size + 1, 0, none⟩) 1 1)).setCell ⟨B, 5, none⟩ (.slice (some ⟨wr.heap.size, 0, none⟩) 1 1)) = V at *
  have hsz : V.heap.size = wr.heap.size := by rw [hV, putTm_size]
  exact lam_step hX hB hZ hu hau hx hax hs hWB hV (((Ext.refl V).alloc _).alloc _).drew (at_newB _ _ _ (by simp [hsz])) (((((Ext.refl (V.alloc (.cells #[.int .i64 u.kind, .int .i64 u.n, .string ⟨u.name.toArray⟩, .slice u.V u.vars.length u.vc, .slice u.T u.types.length u.tc, .slice u.A u.kids.length u.cap] 31))).alloc _).drew).heap (by simp [hsz])).trans (at_newB V _ _ hsz.symm))

set_option maxRecDepth 10000 in
set_option maxHeartbeats 4000000 in
theorem m_lams (N : Option Addr) (nc : Nat) (names : List Str) (T : Option Addr) (tc : Nat) (types : List Ty) (t : Tm) (w : World) (hN : Strs w N names) (hT : TysIn w T types) (ht : TmIn w t) (hs : ∀ x ∈ names, x.length ≤ 9223372036854775807) (h1 : names.length ≤ 1000000) (h2 : types.length ≤ 1000000) :
    Calls Tryz.prog 13 #[.slice N names.length nc, .slice T types.length tc, tmV t] w fun e w' => (∃ u, e = .returned (tmV u) ∧ TmIn w' u ∧ u.pure = lamsP (names.zip types) t.pure ∧ ∀ c, c < w.heap.size → AwayM c t → (∀ x ∈ types, awayB c x = true) → AwayM c u) ∧ Ext w w' := by
  obtain ⟨W, hW⟩ : ∃ W, W = (w.alloc (.cells #[.int .i64 t.kind, .int .i64 t.n, encStr t.name, .slice t.V t.vars.length t.vc, .slice t.T t.types.length t.tc, .slice t.A t.kids.length t.cap] 31)).alloc (.cells #[.int .i64 0, .int .i64 0, .string ⟨#[]⟩, .slice none 0 0, .slice none 0 0, .slice none 0 0] 31) := ⟨_, rfl⟩
  have HW := hide hW.symm
  have X0 : Hid (Ext w W) := hide (by rw [hW]; exact ((Ext.refl _).alloc _).alloc _)
  have hWs : W.heap.size = w.heap.size + 2 := by rw [hW]; simp
  have B1 : Hid (TmBox W w.heap.size t) := hide (by rw [hW]; exact (TmBox.new w t).ext ((Ext.refl _).alloc _))
  have B2 : Hid (W.heap[w.heap.size + 1]? = some (.cells #[.int .i64 0, .int .i64 0, .string ⟨#[]⟩, .slice none 0 0, .slice none 0 0, .slice none 0 0] 31 (0, 0))) := hide (by rw [hW]; exact at_newB _ _ _ (by simp))
  have HN := hide hN
  have HT := hide hT
  have Ht := hide ht
  have Hs := hide hs
  have HA0 : Hid (∀ c, c < w.heap.size + 2 → (c < w.heap.size → AwayM c t ∧ ∀ x ∈ types, awayB c x = true) → AwayM c t) := hide (fun c _ h => (Nat.lt_or_ge c w.heap.size).elim (fun h1 => (h h1).1) (fun h1 => awayM_new ht h1))
  clear hN hT ht hs hW
  obtain ⟨m, Hm⟩ : ∃ m, Hid (m = (names.zip types).length) := ⟨_, hide rfl⟩
  have hmin : (if (types.length : Int) < (names.length : Int) then (types.length : Int) else (names.length : Int)) = (m : Int) := by have := Hm.out; rw [List.length_zip] at this; split <;> omega
  have hmin3 : (if types.length < names.length then (types.length : Int) else (names.length : Int)) = (m : Int) := by have := Hm.out; rw [List.length_zip] at this; split <;> omega
  have hmin2 : min (names.length : Int) (types.length : Int) = (m : Int) := by have := Hm.out; rw [List.length_zip] at this; omega
  unfold tmV at *
  go_enter Tryz.func13, Tryz.ntmps13
  go_upto_region 1 with fail
  rw [HW.out]
  go_wp2
  go_loopw [7] (fun i wr => ∃ (k : Nat) (v : Int) (u : Tm), (k : Int) = v + 1 ∧ k ≤ (names.zip types).length ∧ i = .int .i64 v ∧ Hid (Ext w wr) ∧ Hid (TmBox wr w.heap.size u) ∧ Hid (wr.heap[w.heap.size + 1]? = some (.cells #[.int .i64 0, .int .i64 0, .string ⟨#[]⟩, .slice none 0 0, .slice none 0 0, .slice none 0 0] 31 (0, 0))) ∧ Hid (TmIn wr u ∧ u.pure = lamsP ((names.zip types).drop k) t.pure ∧ ∀ c, c < w.heap.size + 2 → (c < w.heap.size → AwayM c t ∧ ∀ x ∈ types, awayB c x = true) → AwayM c u)) (fun i _ => (intOf i + 1).toNat)
  case atStart => exact ⟨(names.zip types).length, (m : Int) - 1, t, by have := Hm.out; omega, Nat.le_refl _, rfl, X0, B1, B2, hide ⟨Ht.out.ext X0.out, by rw [List.drop_length]; rfl, HA0.out⟩⟩
  case round =>
    obtain ⟨k, v, u, hk, hkl, rfl, HX, HB, HZ, HU⟩ := hrel
    obtain ⟨c0, c1, c2, c3, c4, c5⟩ := HB.out.cells
    obtain ⟨f0, f1, f2, f3, f4, f5⟩ := HB.out.frees
    by_cases hv : 0 ≤ v
    · obtain ⟨j, rfl⟩ : ∃ j : Nat, v = (j : Int) := ⟨v.toNat, by omega⟩
      have hkj : k = j + 1 := by omega
      subst hkj
      have hlz : j < (names.zip types).length := by omega
      have hjn : j < names.length := by rw [List.length_zip] at hlz; omega
      have hjt : j < types.length := by rw [List.length_zip] at hlz; omega
      have hn1 : (j : Int) < (names.length : Int) := by omega
      have ht1 : (j : Int) < (types.length : Int) := by omega
      have XR := HX
      have hz2 := lt_of_obj HZ.out
      obtain ⟨b, o, hA, hb, q0⟩ := (HN.out.ext XR.out).at_ hjn
      obtain ⟨b', o', hA', hb', r0, r1, r2⟩ := (HT.out.ext XR.out).at_ hjt
      rw [hA, hA']
      have Hxs := hide (Hs.out (names.getD j []) (by simp [hjn]))
      have hbl := HB.out.lt
      have Hzip : Hid (lamsP ((names.zip types).drop j) t.pure = lamP (names[j]'hjn) (types[j]'hjt).pure (lamsP ((names.zip types).drop (j + 1)) t.pure)) := hide (by rw [lamsP_drop _ _ hlz, List.getElem_zip])
      have Hxt := hide (List.getElem_mem hjt)
      have Hxi := hide (HT.out.args _ (List.getElem_mem hjt))
      have hgd : names.getD j [] = names[j]'hjn := by simp [hjn]
      rw [hgd] at q0 Hxs
      generalize names[j]'hjn = s at *
      generalize types[j]'hjt = x at *
      clear hgd hA hA'
      have HAx : Hid (∀ c, w.heap.size ≤ c → awayB c x = true) := hide (fun c hc => away_new Hxi.out hc)
      have Hxr := hide (Hxi.out.ext XR.out)
      have HAu : ∀ g h, wr.heap.size ≤ g → wr.heap.size ≤ h → ∀ c, c < w.heap.size + 2 → (c < w.heap.size → AwayM c t ∧ ∀ x ∈ types, awayB c x = true) → AwayM c (lamT s x u g h) := fun g h hg hh c hc h2 => by
        refine lamT_away (by omega) (by omega) ?_ (HU.out.2.2 c hc h2)
        rcases Nat.lt_or_ge c w.heap.size with h3 | h3
        · exact (h2 h3).2 _ Hxt.out
        · exact HAx.out c h3
      have HAu := hide HAu
      have HP : Hid (∀ g h, (lamT s x u g h).pure = lamsP ((names.zip types).drop j) t.pure) := hide (fun g h => by rw [lamT_pure, HU.out.2.1, Hzip.out])
      have HLA := hide (lam_stepA HX.out HB.out HZ.out HU.out.1 (HU.out.2.2 _ (by omega) (fun h => by omega)) Hxr.out (HAx.out _ (Nat.le_refl _)) Hxs.out (Nat.le_refl _))
      have HLB := hide (lam_stepB HX.out HB.out HZ.out HU.out.1 (HU.out.2.2 _ (by omega) (fun h => by omega)) Hxr.out (HAx.out _ (Nat.le_refl _)) Hxs.out (Nat.le_refl _))
      go_wp2
      go_region
      all_goals (go_wp2; go_roundw)
      case measure => simp [intOf]
      case measure => simp [intOf]
      case rel => exact ⟨j, (j : Int) - 1, lamT s x u wr.heap.size (wr.heap.size + 1), by omega, by omega, rfl, hide HLA.out.1, hide HLA.out.2.1, hide HLA.out.2.2.1, hide ⟨HLA.out.2.2.2, HP.out _ _, HAu.out _ _ (Nat.le_refl _) (Nat.le_succ _)⟩⟩
      case rel => exact ⟨j, (j : Int) - 1, lamT s x u (wr.heap.size + 1) wr.heap.size, by omega, by omega, rfl, hide HLB.out.1, hide HLB.out.2.1, hide HLB.out.2.2.1, hide ⟨HLB.out.2.2.2, HP.out _ _, HAu.out _ _ (Nat.le_succ _) (Nat.le_refl _)⟩⟩
    · have hk0 : k = 0 := by omega
      subst hk0
      obtain ⟨hu, hp, ha⟩ := HU.out
      rw [List.drop_zero] at hp
      obtain ⟨WF, hWF⟩ : ∃ WF, WF = putTm wr (w.heap.size + 1) u := ⟨_, rfl⟩
      have hgr := putTm_grown wr (w.heap.size + 1) u
      have hbx := putTm_box u HZ.out
      rw [← hWF] at hgr hbx
      have XF := hide (HX.out.grown hgr (fun c e => by injection e with e; omega))
      have HUF := hide (hu.grown hgr (fun c e => by injection e with e; subst e; exact ha _ (by omega) (fun h => by omega)))
      have HP := hide hp
      have HA := hide ha
      have g0 := free_block HZ.out 0
      have g1 := free_block HZ.out 1
      have g2 := free_block HZ.out 2
      have g3 := free_block HZ.out 3
      have g4 := free_block HZ.out 4
      have g5 := free_block HZ.out 5
      have z0 := bytes_block HZ.out 0
      have z1 := bytes_block HZ.out 1
      have z2 := bytes_block HZ.out 2
      have z3 := bytes_block HZ.out 3
      have z4 := bytes_block HZ.out 4
      have z5 := bytes_block HZ.out 5
      simp only [List.getElem?_toArray, List.getElem?_cons_zero, List.getElem?_cons_succ] at z0 z1 z2 z3 z4 z5
      obtain ⟨m0, m1, m2, m3, m4, m5⟩ := hbx.cells
      clear hu hp ha hgr hbx
      unfold putTm at hWF
      go_wp2
      rw [← hWF]
      refine bodyPost_ret (v := .agg #[.int .i64 u.kind, .int .i64 u.n, .string ⟨u.name.toArray⟩, .slice u.V u.vars.length u.vc, .slice u.T u.types.length u.tc, .slice u.A u.kids.length u.cap]) ?_ rfl ⟨⟨u, rfl, HUF.out, HP.out, fun c hc h1 h2 => HA.out c (by omega) (fun _ => ⟨h1, h2⟩)⟩, XF.out⟩
      simp [results, Tryz.f13, go_sem, m0, m1, m2, m3, m4, m5]

end Go.Proofs.YtjacjpeeinnkcaaGreat
