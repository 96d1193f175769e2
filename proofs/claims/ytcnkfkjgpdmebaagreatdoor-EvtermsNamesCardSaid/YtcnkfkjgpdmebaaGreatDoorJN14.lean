/- Contract: so many names from one on, the reference's. -/
import Derived.Test.YtcnkfkjgpdmebaaGreatDoorJN13
import Derived.Deep.QuietTactic
import Derived.BigQuiet
import Derived.Deep.DeepCutAuto
/- Contract: so many names from one on, the reference's. -/
namespace Go.Proofs.YtcnkfkjgpdmebaaGreatDoor
open Go.RowKit

theorem Row.tmN {w : World} {b : Nat} {t : TypeId} {fr : Nat × Nat} (x0 x1 x2 x3 x4 x5 : Value) (h : w.heap[b]? = some (.cells #[x0, x1, x2, x3, x4, x5] t fr)) : Row w (some ⟨b, 0, none⟩) 6 1 [x0, x1, x2, x3, x4, x5] := by
  refine ⟨rfl, fun _ => ⟨b, 0, rfl, lt_of_obj h, fun j u hu => ?_⟩⟩
  rw [Nat.zero_add]
  simp only [World.cell?, h]
  simpa using hu

set_option maxRecDepth 10000 in
set_option maxHeartbeats 4000000 in
theorem r_names40 (n first : Int) (w : World) : Calls Tryz.prog 21 #[.int .i64 n, .int .i64 first] w fun e w' => (∃ A c, e = .returned (.slice A (namesT n first).length c) ∧ (namesT n first).length ≤ c ∧ c ≤ 9223372036854775807 ∧ TmsIn w' A (namesT n first)) ∧ Ext w w' := by
  by_cases h1 : n < 1
  · rw [namesT_no (.inl h1)]
    go_enter Tryz.func21, Tryz.ntmps21
    go_wp2
    go_ret
    first
      | exact ⟨⟨none, 0, rfl, Nat.le_refl _, Nat.zero_le _, ⟨RowOf.nil _ _ _, fun t h => absurd h (by simp)⟩⟩, Ext.refl _⟩
      | exact ⟨⟨none, 0, rfl, Nat.zero_le _, ⟨RowOf.nil _ _ _, fun t h => absurd h (by simp)⟩⟩, Ext.refl _⟩
      | exact ⟨⟨none, 0, rfl, ⟨RowOf.nil _ _ _, fun t h => absurd h (by simp)⟩⟩, Ext.refl _⟩
  by_cases h2 : n > 4096
  · rw [namesT_no (.inr (.inl h2))]
    go_enter Tryz.func21, Tryz.ntmps21
    go_wp2
    go_ret
    first
      | exact ⟨⟨none, 0, rfl, Nat.le_refl _, Nat.zero_le _, ⟨RowOf.nil _ _ _, fun t h => absurd h (by simp)⟩⟩, Ext.refl _⟩
      | exact ⟨⟨none, 0, rfl, Nat.zero_le _, ⟨RowOf.nil _ _ _, fun t h => absurd h (by simp)⟩⟩, Ext.refl _⟩
      | exact ⟨⟨none, 0, rfl, ⟨RowOf.nil _ _ _, fun t h => absurd h (by simp)⟩⟩, Ext.refl _⟩
  by_cases h3 : first < 0
  · rw [namesT_no (.inr (.inr (.inl h3)))]
    go_enter Tryz.func21, Tryz.ntmps21
    go_wp2
    go_ret
    first
      | exact ⟨⟨none, 0, rfl, Nat.le_refl _, Nat.zero_le _, ⟨RowOf.nil _ _ _, fun t h => absurd h (by simp)⟩⟩, Ext.refl _⟩
      | exact ⟨⟨none, 0, rfl, Nat.zero_le _, ⟨RowOf.nil _ _ _, fun t h => absurd h (by simp)⟩⟩, Ext.refl _⟩
      | exact ⟨⟨none, 0, rfl, ⟨RowOf.nil _ _ _, fun t h => absurd h (by simp)⟩⟩, Ext.refl _⟩
  by_cases h4 : first > 1099511627776
  · rw [namesT_no (.inr (.inr (.inr h4)))]
    go_enter Tryz.func21, Tryz.ntmps21
    go_wp2
    go_ret
    first
      | exact ⟨⟨none, 0, rfl, Nat.le_refl _, Nat.zero_le _, ⟨RowOf.nil _ _ _, fun t h => absurd h (by simp)⟩⟩, Ext.refl _⟩
      | exact ⟨⟨none, 0, rfl, Nat.zero_le _, ⟨RowOf.nil _ _ _, fun t h => absurd h (by simp)⟩⟩, Ext.refl _⟩
      | exact ⟨⟨none, 0, rfl, ⟨RowOf.nil _ _ _, fun t h => absurd h (by simp)⟩⟩, Ext.refl _⟩
  obtain ⟨j0, hj, hy0, hy1, hy2⟩ := info_parts tm_info6
  obtain ⟨N, rfl⟩ : ∃ N : Nat, n = N := ⟨n.toNat, by omega⟩
  obtain ⟨f, rfl⟩ : ∃ f : Nat, first = f := ⟨first.toNat, by omega⟩
  have hNf := namesT_yes (n := N) (f := f) h1 h2 h4
  rw [hNf]
  clear hNf
  have b1 : ¬ N < 1 := by omega
  have b2 : ¬ 4096 < N := by omega
  go_enter Tryz.func21, Tryz.ntmps21
  go_wp2
  go_loopw [5, 6] (fun v i wr => ∃ k : Nat, k ≤ N ∧ i = .int .i64 k ∧ Hid (wr.ownsRow w.heap.size 40 6 v k (((List.range k).map fun (i : Nat) => numT ((f + i : Nat) : Int)).flatMap tmC.f)) ∧ Hid (Ext w wr)) (fun _ i _ => N - (intOf i).toNat)
  case atStart => exact ⟨0, Nat.zero_le _, rfl, hide (World.ownsRow_nil _ _ _ _), hide (Ext.refl _)⟩
  case round =>
    obtain ⟨k, hk, rfl, HO, HX⟩ := hrel
    by_cases hlt : k < N
    · have hlt' : (k : Int) < (N : Int) := by omega
      have hk0 : (0 : Int) ≤ (k : Int) := by omega
      obtain ⟨m, hm⟩ : ∃ m : Nat, m = f + k := ⟨_, rfl⟩
      have hw1 : IntKind.i64.wrap ((f : Int) + (k : Int)) = (m : Int) := by rw [IntKind.wrap_i64]; omega
      have HT := hide (r_text02 m (by omega) wr)
      have hd := digs_len 19 m (by omega)
      have hsz : ¬ ((⟨[(35 : UInt8)].toArray⟩ : ByteArray).size + (⟨(digs m).toArray⟩ : ByteArray).size > 9223372036854775807) := by rw [ba_size, ba_size]; simp; omega
      have e1 := ByteArray.mk_append_mk [(35 : UInt8)] (digs m)
      have Hrs : Hid (((List.range (k + 1)).map (fun (i : Nat) => numT ((f + i : Nat) : Int))).flatMap tmC.f = ((List.range k).map (fun (i : Nat) => numT ((f + i : Nat) : Int))).flatMap tmC.f ++ [.int .i64 1, .int .i64 0, .string ⟨(([35] : Str) ++ digs m).toArray⟩, .slice none 0 0, .slice none 0 0, .slice none 0 0]) := hide (by
        rw [List.range_succ, List.map_append, List.map_singleton, ← hm, List.flatMap_append, List.flatMap_cons, List.flatMap_nil, List.append_nil]
        rfl)
      generalize ((List.range k).map fun (i : Nat) => numT ((f + i : Nat) : Int)).flatMap tmC.f = cs at *
      clear hm
      go_wp2_with fail
      refine HT.out.mono ?_
      rintro e w3 ⟨rfl, hx⟩
      have O3 := hide (own_extB HO.out hx)
      have X3 := hide (HX.out.trans hx)
      have hsz3 := X3.out.size
      clear hx HT
      go_wp2_with (at_builtin; refine wpList_append_row _ rfl _ _ 28 rfl w.heap.size 40 j0 _ 6 104 Tryz.underlying28 hj hy0 hy1 hy2 rfl (by decide) _ k cs rfl (own_extB O3.out ((Ext.refl _).alloc _)) _ 1 1 [.int .i64 1, .int .i64 0, .string ⟨(([35] : Str) ++ digs m).toArray⟩, .slice none 0 0, .slice none 0 0, .slice none 0 0] rfl ?c2 ?c3 ?c4 ?c5 ?c6 ?_)
      case c2 => exact Row.tmN _ _ _ _ _ _ (at_newB _ _ _ (by simp))
      case c3 => intro y hy; simp at hy; rcases hy with rfl | rfl | rfl | rfl | rfl | rfl <;> rfl
      case c4 => unfold maxLen; omega
      case c5 => omega
      case c6 => (first | omega | (simp; omega))
      intro v5 w5 hown5 hg5 hat5
      have X5 := hide (Ext.app (X3.out.alloc _) hg5 (own_extB O3.out ((Ext.refl _).alloc _)) (Nat.le_refl _))
      have O5 := hide hown5
      clear hown5 hg5 hat5 HO O3
      go_wp2
      go_roundw
      case rel => exact ⟨k + 1, hlt, by go_num, hide (by rw [Hrs.out]; exact O5.out), X5⟩
      case measure => simp [intOf]; omega
    · have hge : ¬ (k : Int) < (N : Int) := by omega
      have hkn : k = N := by omega
      subst hkn
      have hln : ((List.range k).map fun (i : Nat) => numT ((f + i : Nat) : Int)).length = k := by simp
      have h3 : wr.ownsRow w.heap.size 40 6 u5 ((List.range k).map fun (i : Nat) => numT ((f + i : Nat) : Int)).length (((List.range k).map fun (i : Nat) => numT ((f + i : Nat) : Int)).flatMap tmC.f) := by rw [hln]; exact HO.out
      obtain ⟨A', cap', rfl, hc1, hc2, hs, -⟩ := RowOf.own tmC (l := (List.range k).map fun (i : Nat) => numT ((f + i : Nat) : Int)) h3
      have HF : Hid (TmsIn wr A' ((List.range k).map fun (i : Nat) => numT ((f + i : Nat) : Int))) := hide ⟨hs, fun t ht => by
        obtain ⟨i, hi, rfl⟩ := List.mem_map.1 ht
        have := List.mem_range.1 hi
        exact numT_in _ _ (by omega)⟩
      clear h3 hs HO
      rw [hln] at hc1
      go_wp2
      go_ret
      exact ⟨⟨_, _, rfl, hc1, hc2, HF.out⟩, HX.out⟩

end Go.Proofs.YtcnkfkjgpdmebaaGreatDoor

/- Contract: whether two types are the same, of the reference. -/
namespace Go.Proofs.YtcnkfkjgpdmebaaGreatDoor
open Go.RowKit

set_option maxRecDepth 10000 in
set_option maxHeartbeats 2000000 in
theorem r_same16 (a : Ty) : ∀ (b : Ty) (w : World), TyIn w a → TyIn w b → Calls Tryz.prog 33 #[tyV a, tyV b] w fun e w' => e = .returned (.bool (sameB a b)) ∧ Ext w w' := by
  induction a using Ty.ind with
  | h a ih =>
  intro b w ha hb
  have IH := hide ih
  have HKa := hide ha.all
  have HKb := hide hb.all
  have hla := ha.le
  have hma := ha.max
  have hlb := hb.le
  have hmb := hb.max
  obtain ⟨W, hW⟩ : ∃ W, W = (w.alloc (.cells #[encStr a.con, .int .i64 a.var, .slice a.A a.args.length a.cap] 53)).alloc (.cells #[encStr b.con, .int .i64 b.var, .slice b.A b.args.length b.cap] 53) := ⟨_, rfl⟩
  have X0 : Hid (Ext w W) := hide (by rw [hW]; exact ((Ext.refl _).alloc _).alloc _)
  have B1 : Hid (TBox W w.heap.size a) := hide (by rw [hW]; exact (TBox.new w a).ext ((Ext.refl _).alloc _))
  have B2 : Hid (TBox W (w.heap.size + 1) b) := hide (by rw [hW]; have := TBox.new (w.alloc (.cells #[encStr a.con, .int .i64 a.var, .slice a.A a.args.length a.cap] 53)) b; rwa [World.size_alloc] at this)
  have HP := hide (sameB_parts a b)
  clear ih ha hb
  unfold tyV at *
  have c0 := B1.out.c0
  have c1 := B1.out.c1
  have c2 := B1.out.c2
  have d0 := B2.out.c0
  have d1 := B2.out.c1
  have d2 := B2.out.c2
  have key : ∀ c, headB a b = c → (c = false → sameB a b = false) := fun c h e => by subst e; rw [HP.out]; unfold headB at h; rw [h]; rfl
  cases hc : (a.con == b.con)
  · have hR : sameB a b = false := key _ (by unfold headB; simp at hc; simp [hc]) rfl
    rw [hR]
    clear hR key HP
    go_enter Tryz.func33, Tryz.ntmps33
    go_wp2
    rw [← hW]
    clear hW
    go_ret
    exact ⟨rfl, X0.out⟩
  cases hv : (a.var == b.var)
  · have hR : sameB a b = false := key _ (by unfold headB; simp at hv; simp [hv]) rfl
    rw [hR]
    clear hR key HP
    go_enter Tryz.func33, Tryz.ntmps33
    go_wp2
    rw [← hW]
    clear hW
    go_ret
    exact ⟨rfl, X0.out⟩
  have hve : a.var = b.var := by simpa using hv
  cases hl : ((a.args.length : Int) == (b.args.length : Int))
  · have hR : sameB a b = false := key _ (by unfold headB; simp at hl; simp [show ¬ a.args.length = b.args.length by omega]) rfl
    rw [hR]
    clear hR key HP
    clear hv
    rw [← hve] at hW d1 ⊢
    clear hve
    go_enter Tryz.func33, Tryz.ntmps33
    go_wp2
    rw [← hW]
    clear hW
    go_ret
    exact ⟨rfl, X0.out⟩
  have HL : Hid (a.args.length = b.args.length) := hide (by simp at hl; omega)
  have HR : Hid (sameB a b = (a.args.zip b.args).all fun p => sameB p.1 p.2) := hide (by rw [HP.out]; simp at hc hv; simp [hc, hv, HL.out])
  clear key hv hl HP
  generalize sameB a b = R at *
  rw [← hve] at hW d1 ⊢
  rw [← HL.out] at hW d2 ⊢
  clear hve
  go_enter Tryz.func33, Tryz.ntmps33
  go_wp2
  rw [← hW]
  clear hW
  have O1 : Hid (∀ p ∈ (a.args.zip b.args).take 0, sameB p.1 p.2 = true) := hide (by simp)
  have X3' := hide (Ext.refl W)
  go_wp2
  go_loopw [5] (fun i wr => ∃ k : Nat, k ≤ a.args.length ∧ i = .int .i64 k ∧ Hid (∀ p ∈ (a.args.zip b.args).take k, sameB p.1 p.2 = true) ∧ Hid (Ext W wr)) (fun i _ => a.args.length - (intOf i).toNat)
  case atStart => exact ⟨0, Nat.zero_le _, rfl, O1, X3'⟩
  case round =>
    obtain ⟨k, hk, rfl, HA, HX⟩ := hrel
    have C1 := B1.out.ext HX.out
    have C2 := B2.out.ext HX.out
    have c0 := C1.c0
    have c1 := C1.c1
    have c2 := C1.c2
    have d0 := C2.c0
    have d1 := C2.c1
    have d2 := C2.c2
    clear C1 C2
    by_cases hlt : k < a.args.length
    · have hltb : k < b.args.length := by rw [← HL.out]; exact hlt
      have hlt' : (k : Int) < (a.args.length : Int) := by omega
      have hltb' : (k : Int) < (b.args.length : Int) := by omega
      have hk0 : (0 : Int) ≤ (k : Int) := by omega
      have XR := hide (HX.out)
      obtain ⟨p, o, hAa, hp, q0, q1, q2⟩ := (HKa.out.ext (X0.out.trans XR.out)).at_ hlt
      obtain ⟨p', o', hAb, hp', r0, r1, r2⟩ := (HKb.out.ext (X0.out.trans XR.out)).at_ hltb
      have HC := hide (fun w' (e : Ext wr w') => hide (IH.out _ (List.getElem_mem hlt) (b.args[k]'hltb) w' ((HKa.out.args _ (List.getElem_mem hlt)).ext (X0.out.trans (XR.out.trans e))) ((HKb.out.args _ (List.getElem_mem hltb)).ext (X0.out.trans (XR.out.trans e)))))
      have Htk : Hid ((a.args.zip b.args).take (k + 1) = (a.args.zip b.args).take k ++ [(a.args[k]'hlt, b.args[k]'hltb)]) := hide (by
        rw [List.take_succ_eq_append_getElem (by rw [List.length_zip]; omega), List.getElem_zip])
      have Hmem : Hid ((a.args[k]'hlt, b.args[k]'hltb) ∈ a.args.zip b.args) := hide (by rw [List.mem_iff_getElem]; exact ⟨k, by rw [List.length_zip]; omega, List.getElem_zip⟩)
      rw [hAa] at c2
      rw [hAb, ← HL.out] at d2
      clear hAa hAb
      have HSa := hide (fun w' (e : Ext wr w') => And.intro (e.cell c2) (And.intro (e.cell d2) (And.intro (e.cell q0) (And.intro (e.cell q1) (And.intro (e.cell q2) (And.intro (e.cell r0) (And.intro (e.cell r1) (e.cell r2))))))))
      generalize a.args[k]'hlt = x at *
      generalize b.args[k]'hltb = y at *
      go_wp2
      go_region_held3 (fun w' => w'.cell? ⟨w.heap.size, 2, none⟩ = some (.slice (some ⟨p, o, none⟩) a.args.length a.cap) ∧ w'.cell? ⟨w.heap.size + 1, 2, none⟩ = some (.slice (some ⟨p', o', none⟩) a.args.length b.cap) ∧ w'.cell? ⟨p, o + k * 3, none⟩ = some (.string ⟨x.con.toArray⟩) ∧ w'.cell? ⟨p, o + k * 3 + 1, none⟩ = some (.int .i64 x.var) ∧ w'.cell? ⟨p, o + k * 3 + 2, none⟩ = some (.slice x.A x.args.length x.cap) ∧ w'.cell? ⟨p', o' + k * 3, none⟩ = some (.string ⟨y.con.toArray⟩) ∧ w'.cell? ⟨p', o' + k * 3 + 1, none⟩ = some (.int .i64 y.var) ∧ w'.cell? ⟨p', o' + k * 3 + 2, none⟩ = some (.slice y.A y.args.length y.cap)) (first | assumption | go_keep) (first
        | (go_at_call 33
           refine Calls.mono (HC.out _ ((Ext.refl _).drew)).out ?_
           rintro e w5 ⟨rfl, hx5⟩
           have X5 := hide (HX.out.trans (((Ext.refl wr).drew).trans hx5))
           have k5 := HSa.out _ (((Ext.refl wr).drew).trans hx5)
           clear hx5))
      clear k5
      cases hs : sameB x y
      · have hR : R = false := by
          rw [HR.out, ← Bool.not_eq_true, List.all_eq_true]
          intro h
          have := h _ Hmem.out
          rw [hs] at this
          cases this
        clear HR
        subst hR
        go_wp2
        go_ret
        exact ⟨rfl, X0.out.trans (X5.out)⟩
      · go_wp2
        go_roundw
        case rel =>
          refine ⟨k + 1, hlt, by go_num, hide (fun p hp => ?_), X5⟩
          rw [Htk.out, List.mem_append, List.mem_singleton] at hp
          rcases hp with hp | rfl
          · exact HA.out p hp
          · exact hs
        case measure => simp [intOf]; omega
    · have hge : ¬ (k : Int) < (a.args.length : Int) := by omega
      have hR : R = true := by
        rw [HR.out, List.all_eq_true]
        intro p hp
        exact HA.out p (by rw [List.take_of_length_le (by rw [List.length_zip]; omega)]; exact hp)
      clear HR
      subst hR
      go_wp2
      go_ret
      exact ⟨rfl, X0.out.trans (HX.out)⟩

end Go.Proofs.YtcnkfkjgpdmebaaGreatDoor

/- Contract: rows of types that are the same; of the reference. -/
namespace Go.Proofs.YtcnkfkjgpdmebaaGreatDoor
open Go.RowKit

set_option maxRecDepth 10000 in
set_option maxHeartbeats 4000000 in
theorem r_all16T (A B : Option Addr) (ca cb : Nat) (l m : List Ty) (w : World) (hl : TysIn w A l) (hm : TysIn w B m) (h : l.map Ty.pure = m.map Ty.pure) (hn : l.length ≤ 9223372036854775807) :
    Calls Tryz.prog 12 #[.slice A l.length ca, .slice B m.length cb] w fun e w' => e = .returned (.bool true) ∧ Ext w w' := by
  have hlen : l.length = m.length := by simpa using congrArg List.length h
  have HP : Hid (∀ i (h1 : i < l.length) (h2 : i < m.length), sameB (l[i]'h1) (m[i]'h2) = true) := hide (fun i h1 h2 => by
    rw [sameB_iff]
    have : (l.map Ty.pure)[i]? = (m.map Ty.pure)[i]? := by rw [h]
    rw [List.getElem?_map, List.getElem?_map, List.getElem?_eq_getElem h1, List.getElem?_eq_getElem h2] at this
    simpa using this)
  have HL := hide hl
  have HM := hide hm
  have HLn := hide hlen
  rw [← hlen]
  clear hl hm h hlen
  go_enter Tryz.func12, Tryz.ntmps12
  go_wp2
  go_loopw [5] (fun i wr => ∃ k : Nat, k ≤ l.length ∧ i = .int .i64 k ∧ Hid (Ext w wr)) (fun i _ => l.length - (intOf i).toNat)
  case atStart => exact ⟨0, Nat.zero_le _, rfl, hide (by repeat (first | exact Ext.refl _ | exact Ext.pre (by simp) | exact Ext.alloc (by assumption) _ | refine Ext.alloc ?_ _ |  refine Ext.more ?_ _ _ | refine Ext.drew ?_ | refine Ext.drewN ?_ _))⟩
  case round =>
    obtain ⟨k, hk, rfl, HX⟩ := hrel
    by_cases hlt : k < l.length
    · have hltb : k < m.length := by rw [← HLn.out]; exact hlt
      have hlt' : (k : Int) < (l.length : Int) := by omega
      have hk0 : (0 : Int) ≤ (k : Int) := by omega
      obtain ⟨p, o, hA, hp, q0, q1, q2⟩ := (HL.out.ext HX.out).at_ hlt
      obtain ⟨p', o', hB, hp', r0, r1, r2⟩ := (HM.out.ext HX.out).at_ hltb
      have HC := hide (fun w' (e : Ext w w') => hide (r_same16 (l[k]'hlt) (m[k]'hltb) w' ((HL.out.args _ (List.getElem_mem hlt)).ext e) ((HM.out.args _ (List.getElem_mem hltb)).ext e)))
      rw [HP.out k hlt hltb] at HC
      have HSa := hide (fun w' (e : Ext wr w') => And.intro (e.cell q0) (And.intro (e.cell q1) (And.intro (e.cell q2) (And.intro (e.cell r0) (And.intro (e.cell r1) (e.cell r2))))))
      generalize l[k]'hlt = x at *
      generalize m[k]'hltb = y at *
      rw [hA, hB]
      clear hA hB
      unfold tyV at HC
      go_wp2
      go_region_held3 (fun w' => w'.cell? ⟨p, o + k * 3, none⟩ = some (.string ⟨x.con.toArray⟩) ∧ w'.cell? ⟨p, o + k * 3 + 1, none⟩ = some (.int .i64 x.var) ∧ w'.cell? ⟨p, o + k * 3 + 2, none⟩ = some (.slice x.A x.args.length x.cap) ∧ w'.cell? ⟨p', o' + k * 3, none⟩ = some (.string ⟨y.con.toArray⟩) ∧ w'.cell? ⟨p', o' + k * 3 + 1, none⟩ = some (.int .i64 y.var) ∧ w'.cell? ⟨p', o' + k * 3 + 2, none⟩ = some (.slice y.A y.args.length y.cap)) (first | assumption | go_keep) (first
        | (go_at_call 33
           refine Calls.mono (HC.out _ (HX.out.trans ((Ext.refl _).drew))).out ?_
           rintro e w5 ⟨rfl, hx5⟩
           have X5 := hide (HX.out.trans (((Ext.refl wr).drew).trans hx5))
           have k5 := HSa.out _ (((Ext.refl wr).drew).trans hx5)
           clear hx5))
      clear k5
      go_wp2
      go_roundw
      case rel => exact ⟨k + 1, hlt, by go_num, X5⟩
      case measure => simp [intOf]; omega
    · have hge : ¬ (k : Int) < (l.length : Int) := by omega
      go_wp2
      go_ret
      exact ⟨rfl, HX.out⟩

end Go.Proofs.YtcnkfkjgpdmebaaGreatDoor

/- Contracts: types, and terms, that are the same; of the reference. -/
namespace Go.Proofs.YtcnkfkjgpdmebaaGreatDoor
open Go.RowKit

set_option maxRecDepth 10000 in
set_option maxHeartbeats 8000000 in
theorem r_same32 (a : Tm) : ∀ (b : Tm) (w : World), TmIn w a → TmIn w b → a.pure = b.pure → Calls Tryz.prog 11 #[tmV a, tmV b] w fun e w' => e = .returned (.bool true) ∧ Ext w w' := by
  induction a using Tm.ind with
  | h a ih =>
  intro b w ha hb hp
  have HKa := hide ha.all
  have HKb := hide hb.all
  have HDa := hide ha.hd
  have HDb := hide hb.hd
  have IH := hide ih
  clear ih ha hb
  cases a with
  | mk k n s V vc vs T tc ts A cap l =>
  cases b with
  | mk k' n' s' V' vc' vs' T' tc' ts' A' cap' l' =>
  rw [Tm.pure_eq, Tm.pure_eq] at hp
  simp only [Tm.kind, Tm.n, Tm.name, Tm.vars, Tm.types, Tm.kids, Tm.Pure.mk.injEq] at hp
  obtain ⟨rfl, rfl, rfl, rfl, ht, hk⟩ := hp
  have hlt : ts.length = ts'.length := by simpa using congrArg List.length ht
  have hlk : l.length = l'.length := by simpa using congrArg List.length hk
  have HPk : Hid (∀ i (h1 : i < l.length) (h2 : i < l'.length), (l[i]'h1).pure = (l'[i]'h2).pure) := hide (fun i h1 h2 => by
    have : (l.map Tm.pure)[i]? = (l'.map Tm.pure)[i]? := by rw [hk]
    rw [List.getElem?_map, List.getElem?_map, List.getElem?_eq_getElem h1, List.getElem?_eq_getElem h2] at this
    simpa using this)
  obtain ⟨W, hW⟩ : ∃ W, W = (w.alloc (.cells #[.int .i64 (Tm.mk k n s V vc vs T tc ts A cap l).kind, .int .i64 (Tm.mk k n s V vc vs T tc ts A cap l).n, encStr (Tm.mk k n s V vc vs T tc ts A cap l).name, .slice (Tm.mk k n s V vc vs T tc ts A cap l).V (Tm.mk k n s V vc vs T tc ts A cap l).vars.length (Tm.mk k n s V vc vs T tc ts A cap l).vc, .slice (Tm.mk k n s V vc vs T tc ts A cap l).T (Tm.mk k n s V vc vs T tc ts A cap l).types.length (Tm.mk k n s V vc vs T tc ts A cap l).tc, .slice (Tm.mk k n s V vc vs T tc ts A cap l).A (Tm.mk k n s V vc vs T tc ts A cap l).kids.length (Tm.mk k n s V vc vs T tc ts A cap l).cap] 40)).alloc (.cells #[.int .i64 (Tm.mk k n s V' vc' vs T' tc' ts' A' cap' l').kind, .int .i64 (Tm.mk k n s V' vc' vs T' tc' ts' A' cap' l').n, encStr (Tm.mk k n s V' vc' vs T' tc' ts' A' cap' l').name, .slice (Tm.mk k n s V' vc' vs T' tc' ts' A' cap' l').V (Tm.mk k n s V' vc' vs T' tc' ts' A' cap' l').vars.length (Tm.mk k n s V' vc' vs T' tc' ts' A' cap' l').vc, .slice (Tm.mk k n s V' vc' vs T' tc' ts' A' cap' l').T (Tm.mk k n s V' vc' vs T' tc' ts' A' cap' l').types.length (Tm.mk k n s V' vc' vs T' tc' ts' A' cap' l').tc, .slice (Tm.mk k n s V' vc' vs T' tc' ts' A' cap' l').A (Tm.mk k n s V' vc' vs T' tc' ts' A' cap' l').kids.length (Tm.mk k n s V' vc' vs T' tc' ts' A' cap' l').cap] 40) := ⟨_, rfl⟩
  have X0 : Hid (Ext w W) := hide (by rw [hW]; exact ((Ext.refl _).alloc _).alloc _)
  have B1 : Hid (TmBox W w.heap.size (Tm.mk k n s V vc vs T tc ts A cap l)) := hide (by rw [hW]; exact (TmBox.new w _).ext ((Ext.refl _).alloc _))
  have B2 : Hid (TmBox W (w.heap.size + 1) (Tm.mk k n s V' vc' vs T' tc' ts' A' cap' l')) := hide (by rw [hW]; have := TmBox.new (w.alloc (.cells #[.int .i64 (Tm.mk k n s V vc vs T tc ts A cap l).kind, .int .i64 (Tm.mk k n s V vc vs T tc ts A cap l).n, encStr (Tm.mk k n s V vc vs T tc ts A cap l).name, .slice (Tm.mk k n s V vc vs T tc ts A cap l).V (Tm.mk k n s V vc vs T tc ts A cap l).vars.length (Tm.mk k n s V vc vs T tc ts A cap l).vc, .slice (Tm.mk k n s V vc vs T tc ts A cap l).T (Tm.mk k n s V vc vs T tc ts A cap l).types.length (Tm.mk k n s V vc vs T tc ts A cap l).tc, .slice (Tm.mk k n s V vc vs T tc ts A cap l).A (Tm.mk k n s V vc vs T tc ts A cap l).kids.length (Tm.mk k n s V vc vs T tc ts A cap l).cap] 40)) (Tm.mk k n s V' vc' vs T' tc' ts' A' cap' l'); rwa [World.size_alloc] at this)
  have HAl := hide (r_all16T T T' tc tc' ts ts' W (HDa.out.types.ext X0.out) (HDb.out.types.ext X0.out) ht (Nat.le_trans HDa.out.tle HDa.out.tmax))
  have HLk := hide hlk
  have HLt := hide hlt
  rw [← hlt] at HAl
  have HW := hide hW.symm
  have hvm := Nat.le_trans HDa.out.vle HDa.out.vmax
  have htm := Nat.le_trans HDa.out.tle HDa.out.tmax
  have hkm := Nat.le_trans HDa.out.le HDa.out.max
  simp only [Tm.vars, Tm.types, Tm.kids] at hvm htm hkm
  have hC1 : ∀ w', Ext W w' → _ := fun w' e => (B1.out.ext e).cells
  have hC2 : ∀ w', Ext W w' → _ := fun w' e => (B2.out.ext e).cells
  simp only [Tm.kind, Tm.n, Tm.name, Tm.V, Tm.vc, Tm.vars, Tm.T, Tm.tc, Tm.types, Tm.A, Tm.cap, Tm.kids] at hC1 hC2 HW
  rw [← hlt, ← hlk] at hC2 HW
  have HC1 := hide hC1
  have HC2 := hide hC2
  clear hC1 hC2 hW hk ht hlt hlk
  unfold tmV
  simp only [Tm.kind, Tm.n, Tm.name, Tm.V, Tm.vc, Tm.vars, Tm.T, Tm.tc, Tm.types, Tm.A, Tm.cap, Tm.kids]
  rw [← HLt.out, ← HLk.out]
  obtain ⟨a0, a1, a2, a3, a4, a5⟩ := HC1.out _ (Ext.refl W)
  obtain ⟨b0, b1, b2, b3, b4, b5⟩ := HC2.out _ (Ext.refl W)
  go_enter Tryz.func11, Tryz.ntmps11
  go_upto_region 1 with fail
  rw [HW.out]
  go_wp2_with fail
  refine HAl.out.mono ?_
  rintro e w2 ⟨rfl, hx⟩
  have X2 := hide hx
  clear hx a0 a1 a2 a3 a4 a5 b0 b1 b2 b3 b4 b5
  go_wp2
  go_loopw [5] (fun i wr => ∃ j : Nat, j ≤ vs.length ∧ i = .int .i64 j ∧ Hid (Ext W wr)) (fun i _ => vs.length - (intOf i).toNat)
  case atStart => exact ⟨0, Nat.zero_le _, rfl, X2⟩
  case round =>
    obtain ⟨j, hj, rfl, HX⟩ := hrel
    obtain ⟨-, -, -, a3, -, -⟩ := HC1.out _ HX.out
    obtain ⟨-, -, -, b3, -, -⟩ := HC2.out _ HX.out
    by_cases hlt : j < vs.length
    · have EX := X0.out.trans HX.out
      obtain ⟨b, o, hA, hb, hc⟩ := Ints.at_ (RowOf.ext intC HDa.out.vars EX) hlt
      obtain ⟨b', o', hB, hb', hc'⟩ := Ints.at_ (RowOf.ext intC HDb.out.vars EX) hlt
      have hlt' : (j : Int) < (vs.length : Int) := by omega
      have hj0 : (0 : Int) ≤ (j : Int) := by omega
      simp only [Tm.vars, Tm.V] at hA hB hc hc'
      generalize vs[j]'hlt = y at *
      rw [hA] at a3
      rw [hB] at b3
      clear hA hB EX
      go_wp2
      go_quiet (fail)
      go_wp2
      go_roundw
      case rel => exact ⟨j + 1, hlt, by go_num, hide (HX.out.trans (by repeat (first | exact Ext.refl _ | exact Ext.pre (by simp) | exact Ext.alloc (by assumption) _ | refine Ext.alloc ?_ _ |  refine Ext.more ?_ _ _ | refine Ext.drew ?_ | refine Ext.drewN ?_ _)))⟩
      case measure => simp [intOf]; omega
    · have hge : ¬ (j : Int) < (vs.length : Int) := by omega
      rename World => wA
      go_wp2
      go_loopw [6] (fun i wr => ∃ j : Nat, j ≤ l.length ∧ i = .int .i64 j ∧ Hid (Ext W wr)) (fun i _ => l.length - (intOf i).toNat)
      case atStart => exact ⟨0, Nat.zero_le _, rfl, HX⟩
      case round =>
        obtain ⟨i, hi, rfl, HX⟩ := hrel
        obtain ⟨-, -, -, -, -, a5⟩ := HC1.out _ HX.out
        obtain ⟨-, -, -, -, -, b5⟩ := HC2.out _ HX.out
        by_cases hlt : i < l.length
        · have hltb : i < l'.length := by rw [← HLk.out]; exact hlt
          have hlt' : (i : Int) < (l.length : Int) := by omega
          have hi0 : (0 : Int) ≤ (i : Int) := by omega
          obtain ⟨p, o, hA, hp, q0, q1, q2, q3, q4, q5⟩ := (HKa.out.ext (X0.out.trans HX.out)).at_ hlt
          obtain ⟨p', o', hB, hp', r0, r1, r2, r3, r4, r5⟩ := (HKb.out.ext (X0.out.trans HX.out)).at_ hltb
          have HC := hide (fun w' (e : Ext w w') => hide (IH.out (l[i]'hlt) (List.getElem_mem hlt) (l'[i]'hltb) w' ((HKa.out.kids _ (List.getElem_mem hlt)).ext e) ((HKb.out.kids _ (List.getElem_mem hltb)).ext e) (HPk.out i hlt hltb)))
          simp only [Tm.kids, Tm.A] at hA hB q0 q1 q2 q3 q4 q5 r0 r1 r2 r3 r4 r5
          generalize l[i]'hlt = x at *
          generalize l'[i]'hltb = y at *
          rw [hA] at a5
          rw [hB] at b5
          clear hA hB
          have HSa := hide (fun w' (e : Ext wr w') => And.intro (e.cell a5) (And.intro (e.cell b5) (And.intro (e.cell q0) (And.intro (e.cell q1) (And.intro (e.cell q2) (And.intro (e.cell q3) (And.intro (e.cell q4) (And.intro (e.cell q5) (And.intro (e.cell r0) (And.intro (e.cell r1) (And.intro (e.cell r2) (And.intro (e.cell r3) (And.intro (e.cell r4) (e.cell r5))))))))))))))
          unfold tmV at HC
          go_wp2
          go_region_held3 (fun w' => w'.cell? ⟨w.heap.size, 5, none⟩ = some (.slice (some ⟨p, o, none⟩) l.length cap) ∧ w'.cell? ⟨w.heap.size + 1, 5, none⟩ = some (.slice (some ⟨p', o', none⟩) l.length cap') ∧ w'.cell? ⟨p, o + i * 6, none⟩ = some (.int .i64 x.kind) ∧ w'.cell? ⟨p, o + i * 6 + 1, none⟩ = some (.int .i64 x.n) ∧ w'.cell? ⟨p, o + i * 6 + 2, none⟩ = some (.string ⟨x.name.toArray⟩) ∧ w'.cell? ⟨p, o + i * 6 + 3, none⟩ = some (.slice x.V x.vars.length x.vc) ∧ w'.cell? ⟨p, o + i * 6 + 4, none⟩ = some (.slice x.T x.types.length x.tc) ∧ w'.cell? ⟨p, o + i * 6 + 5, none⟩ = some (.slice x.A x.kids.length x.cap)
            ∧ w'.cell? ⟨p', o' + i * 6, none⟩ = some (.int .i64 y.kind) ∧ w'.cell? ⟨p', o' + i * 6 + 1, none⟩ = some (.int .i64 y.n) ∧ w'.cell? ⟨p', o' + i * 6 + 2, none⟩ = some (.string ⟨y.name.toArray⟩) ∧ w'.cell? ⟨p', o' + i * 6 + 3, none⟩ = some (.slice y.V y.vars.length y.vc) ∧ w'.cell? ⟨p', o' + i * 6 + 4, none⟩ = some (.slice y.T y.types.length y.tc) ∧ w'.cell? ⟨p', o' + i * 6 + 5, none⟩ = some (.slice y.A y.kids.length y.cap)) (first | assumption | exact HSa.out _ ((Ext.refl _).drew) | go_keep) (first
            | (go_at_call 11
               refine Calls.mono (HC.out _ ((X0.out.trans HX.out).trans ((Ext.refl _).drew))).out ?_
               rintro e w5 ⟨rfl, hx5⟩
               have X5 := hide (HX.out.trans (((Ext.refl wr).drew).trans hx5))
               have k5 := HSa.out _ (((Ext.refl wr).drew).trans hx5)
               clear hx5))
          clear k5
          go_wp2
          go_roundw
          case rel => exact ⟨i + 1, hlt, by go_num, X5⟩
          case measure => simp [intOf]; omega
        · have hge : ¬ (i : Int) < (l.length : Int) := by omega
          go_wp2
          go_ret
          exact ⟨rfl, X0.out.trans HX.out⟩

end Go.Proofs.YtcnkfkjgpdmebaaGreatDoor

/- Contract on the reference: rows of terms that say the same. -/
namespace Go.Proofs.YtcnkfkjgpdmebaaGreatDoor
open Go.RowKit

/-- A term of kids alone. -/
def kidsT (A : Option Addr) (cap : Nat) (l : List Tm) : Tm := .mk 0 0 [] none 0 [] none 0 [] A cap l
theorem kidsT_in {w : World} {A : Option Addr} {cap : Nat} {l : List Tm} (h : TmsIn w A l) (h1 : l.length ≤ cap) (h2 : cap ≤ 9223372036854775807) : TmIn w (kidsT A cap l) :=
  .mk ⟨Nat.zero_le _, by show 0 ≤ 9223372036854775807; omega, Nat.zero_le _, by show 0 ≤ 9223372036854775807; omega, h1, h2, by show 0 ≤ 9223372036854775807; omega, RowOf.nil _ _ _, TysIn.nil _ _, h.row⟩ h.kids

set_option maxRecDepth 10000 in
set_option maxHeartbeats 1000000 in
theorem r_rows32 (A B : Option Addr) (ca cb : Nat) (l m : List Tm) (w : World) (ha : TmsIn w A l) (hb : TmsIn w B m) (h1 : l.length ≤ ca) (h2 : ca ≤ 9223372036854775807) (h3 : m.length ≤ cb) (h4 : cb ≤ 9223372036854775807) (hp : l.map Tm.pure = m.map Tm.pure) :
    Calls Tryz.prog 19 #[.slice A l.length ca, .slice B m.length cb] w fun e w' => e = .returned (.bool true) ∧ Ext w w' := by
  have HS := hide (r_same32 (kidsT A ca l) (kidsT B cb m) w (kidsT_in ha h1 h2) (kidsT_in hb h3 h4) (by rw [Tm.pure_eq, Tm.pure_eq]; show Tm.Pure.mk 0 0 [] [] [] (l.map Tm.pure) = .mk 0 0 [] [] [] (m.map Tm.pure); rw [hp]))
  unfold tmV kidsT at HS
  simp only [Tm.kind, Tm.n, Tm.name, Tm.V, Tm.vc, Tm.vars, Tm.T, Tm.tc, Tm.types, Tm.A, Tm.cap, Tm.kids, encStr, List.length_nil] at HS
  clear ha hb hp
  go_enter Tryz.func19, Tryz.ntmps19
  go_wp2_with fail
  refine HS.out.mono ?_
  rintro e w2 ⟨rfl, hx⟩
  go_wp2
  go_ret
  exact ⟨rfl, hx⟩

end Go.Proofs.YtcnkfkjgpdmebaaGreatDoor

/- Contract: chapter 40's law of names, given what its example tells (HA: to be laid by awake40's contract). -/
namespace Go.Proofs.YtcnkfkjgpdmebaaGreatDoor
open Go.RowKit

set_option maxRecDepth 10000 in
set_option maxHeartbeats 4000000 in
theorem l_names40 (n first : Int) (w : World) (HA : ∀ w', Ext w w' → Calls Tryz.prog 8 #[] w' fun e z => e = .returned (.bool true) ∧ Ext w' z) :
    Calls Tryz.prog 5 #[.int .i64 n, .int .i64 first] w fun e w' => e = .returned (.bool true) ∧ Ext w w' := by
  have HAw := hide (fun w' (e : Ext w w') => hide (HA w' e))
  have H1 := hide (e_names n first w)
  have H2 := hide (fun w' => r_names40 n first w')
  have H3 := hide (fun A B ca cb w' (ha : TmsIn w' A (namesT n first)) (hb : TmsIn w' B (namesT n first)) (h1 : (namesT n first).length ≤ ca) (h2 : ca ≤ 9223372036854775807) (h3 : (namesT n first).length ≤ cb) (h4 : cb ≤ 9223372036854775807) => hide (r_rows32 A B ca cb (namesT n first) (namesT n first) w' ha hb h1 h2 h3 h4 rfl))
  clear HA
  by_cases hn : n > 100
  · go_enter Tryz.func5, Tryz.ntmps5
    go_wp2_with fail
    refine (HAw.out _ (Ext.refl _)).out.mono ?_
    rintro e z ⟨rfl, hz⟩
    go_wp2
    go_ret
    exact ⟨rfl, hz⟩
  · generalize namesT n first = L at *
    go_enter Tryz.func5, Tryz.ntmps5
    go_wp2_with fail
    refine H1.out.mono ?_
    rintro e w1 ⟨⟨A1, c1, rfl, a1, a2, a3⟩, x1⟩
    go_wp2_with fail
    refine (H2.out _).mono ?_
    rintro e w2 ⟨⟨A2, c2, rfl, b1, b2, b3⟩, x2⟩
    have HR := hide (H3.out _ _ _ _ w2 (TmsIn.ext a3 x2) b3 a1 a2 b1 b2)
    have X2 := hide (x1.trans x2)
    clear a3 b3 x1 x2 H3 H1 H2
    go_wp2_with fail
    refine HR.out.out.mono ?_
    rintro e w3 ⟨rfl, x3⟩
    have X3 := hide (X2.out.trans x3)
    clear x3
    go_wp2_with fail
    refine (HAw.out _ X3.out).out.mono ?_
    rintro e z ⟨rfl, hz⟩
    go_wp2
    go_ret
    exact ⟨rfl, X3.out.trans hz⟩

end Go.Proofs.YtcnkfkjgpdmebaaGreatDoor

/- Proofs in boxes; contracts: how great one is, whether they are not too great. (A program of ours has printed a part.) -/
namespace Go.Proofs.YtcnkfkjgpdmebaaGreatDoor
open Go.RowKit

/-- A proof in a box. -/
def FBox (w : World) (b : Nat) (t : Pf) : Prop := w.heap[b]? = some (.cells #[.int .i64 t.kind, .int .i64 t.n, .slice t.T t.types.length t.tc, .slice t.A t.kids.length t.cap] 34 (0, 0))
section
variable {w w' : World} {b : Nat} {t : Pf}
theorem FBox.new (w : World) (t : Pf) : FBox (w.alloc (.cells #[.int .i64 t.kind, .int .i64 t.n, .slice t.T t.types.length t.tc, .slice t.A t.kids.length t.cap] 34)) w.heap.size t := at_newB _ _ _ rfl
theorem FBox.lt (h : FBox w b t) : b < w.heap.size := lt_of_obj h
theorem FBox.ext (h : FBox w b t) (e : Ext w w') : FBox w' b t := (e.heap h.lt).trans h
theorem FBox.c0 (h : FBox w b t) : w.cell? ⟨b, 0, none⟩ = some (.int .i64 t.kind) := by unfold FBox at h; simp [World.cell?, h]
theorem FBox.c1 (h : FBox w b t) : w.cell? ⟨b, 1, none⟩ = some (.int .i64 t.n) := by unfold FBox at h; simp [World.cell?, h]
theorem FBox.c2 (h : FBox w b t) : w.cell? ⟨b, 2, none⟩ = some (.slice t.T t.types.length t.tc) := by unfold FBox at h; simp [World.cell?, h]
theorem FBox.c3 (h : FBox w b t) : w.cell? ⟨b, 3, none⟩ = some (.slice t.A t.kids.length t.cap) := by unfold FBox at h; simp [World.cell?, h]
theorem FBox.cells (h : FBox w b t) : w.cell? ⟨b, 0, none⟩ = some (.int .i64 t.kind) ∧ w.cell? ⟨b, 1, none⟩ = some (.int .i64 t.n) ∧ w.cell? ⟨b, 2, none⟩ = some (.slice t.T t.types.length t.tc) ∧ w.cell? ⟨b, 3, none⟩ = some (.slice t.A t.kids.length t.cap) := ⟨h.c0, h.c1, h.c2, h.c3⟩
theorem FBox.free (h : FBox w b t) (i : Nat) : w.frozen? ⟨b, i, none⟩ = false := by unfold FBox at h; simp [World.frozen?, h]
end

set_option maxRecDepth 10000 in
set_option maxHeartbeats 2000000 in
theorem f_size24 (t : Pf) : ∀ (w : World), PfIn w t → t.size ≤ 1000000 →
    Calls Tryz.prog 148 #[pfV t] w fun e w' => e = .returned (.int .i64 (t.size : Int)) ∧ Ext w w' := by
  induction t using Pf.ind with
  | h t ih =>
  intro w h hsz
  have IH := hide ih
  have Hk := hide h.all
  have hle := h.hd.le
  have hmx := h.hd.max
  have HB0 := hide (FBox.new w t)
  have X0 : Hid (Ext w (w.alloc (.cells #[.int .i64 t.kind, .int .i64 t.n, .slice t.T t.types.length t.tc, .slice t.A t.kids.length t.cap] 34))) := hide ((Ext.refl w).alloc _)
  have HS : Hid (t.size = psizes t.kids + 1) := hide (Pf.size_eq t)
  have HSt := hide (fun k (hk : k < t.kids.length) => psizes_take t.kids hk)
  have HSl := hide (fun k => psizes_le t.kids k)
  have HSz := hide (fun k (hk : k ∈ t.kids) => Pf.size_kid hk)
  clear ih h
  unfold pfV at *
  go_enter Tryz.func148, Tryz.ntmps148
  have hc3 := HB0.out.c3
  go_wp2
  clear hc3
  generalize (w.alloc (.cells #[.int .i64 t.kind, .int .i64 t.n, .slice t.T t.types.length t.tc, .slice t.A t.kids.length t.cap] 34)) = w0 at *
  go_loopw [3, 9] (fun v i wr => ∃ k : Nat, k ≤ t.kids.length ∧ i = .int .i64 k ∧ v = .int .i64 ((psizes (t.kids.take k) + 1 : Nat) : Int) ∧ Hid (Ext w0 wr)) (fun _ i _ => t.kids.length - (intOf i).toNat)
  case atStart => exact ⟨0, Nat.zero_le _, rfl, rfl, hide (Ext.refl _)⟩
  case round =>
    obtain ⟨k, hk, rfl, rfl, HX⟩ := hrel
    by_cases hlt : k < t.kids.length
    · have hlt' : (k : Int) < (t.kids.length : Int) := by omega
      have hk0 : (0 : Int) ≤ (k : Int) := by omega
      obtain ⟨b, o, hA, hb, q0, q1, q2, q3⟩ := (Hk.out.ext (X0.out.trans HX.out)).at_ hlt
      have hkm := List.getElem_mem hlt
      have Hst := hide (HSt.out k hlt)
      have hs1 := HSl.out (k + 1)
      rw [Hst.out] at hs1
      have hS := HS.out
      have hcs := HSz.out _ hkm
      have HC := hide (IH.out _ hkm (wr.alloc (.cells #[.int .i64 (t.kids[k]'hlt).kind, .int .i64 (t.kids[k]'hlt).n, .slice (t.kids[k]'hlt).T (t.kids[k]'hlt).types.length (t.kids[k]'hlt).tc, .slice (t.kids[k]'hlt).A (t.kids[k]'hlt).kids.length (t.kids[k]'hlt).cap] 34)) (((Hk.out.kids _ hkm).ext (X0.out.trans HX.out)).ext ((Ext.refl _).alloc _)) (by omega))
      rw [hA]; clear hA hkm
      generalize t.kids[k]'hlt = c at *
      generalize psizes (t.kids.take k) = s at *
      go_wp2_with fail
      refine HC.out.mono ?_
      rintro e w3 ⟨rfl, hx3⟩
      have X3 := hide ((HX.out.alloc _).trans hx3)
      clear hx3
      go_wp2
      go_roundw
      case rel => exact ⟨k + 1, hlt, by go_num, by rw [Hst.out]; exact congrArg (Value.int .i64) (by omega), X3⟩
      case measure => simp [intOf]; omega
    · have hge : ¬ (k : Int) < (t.kids.length : Int) := by omega
      have hR : psizes (t.kids.take k) + 1 = t.size := by rw [HS.out, List.take_of_length_le (by omega)]
      rw [hR]
      clear hR
      go_wp2
      go_ret
      exact ⟨rfl, X0.out.trans HX.out⟩

end Go.Proofs.YtcnkfkjgpdmebaaGreatDoor
