/- Contract of the reference: predicates that are the same. -/
import Derived.Test.YtpdcjjgkpbpleaaGreatDoorJP28
import Derived.Deep.QuietTactic
import Derived.BigQuiet
import Derived.Deep.DeepCutAuto
import Derived.Deep.RegionHeld3
import Derived.RegionTactic
/- Contract of the reference: predicates that are the same. -/
namespace Go.Proofs.YtpdcjjgkpbpleaaGreatDoor
open Go.RowKit

set_option maxRecDepth 10000 in
set_option maxHeartbeats 1000000 in
theorem r_same20 (a b : Pd) (w : World) (ha : TyIn w a.ty) (hb : TyIn w b.ty) (h : a.cls = b.cls) (hs : sameB a.ty b.ty = true) :
    Calls Tryz.prog 10 #[pdV a, pdV b] w fun e w' => e = .returned (.bool true) ∧ Ext w w' := by
  obtain ⟨W, hW⟩ : ∃ W, W = (w.alloc (.cells #[encStr a.cls, encStr a.ty.con, .int .i64 a.ty.var, .slice a.ty.A a.ty.args.length a.ty.cap] 39)).alloc (.cells #[encStr b.cls, encStr b.ty.con, .int .i64 b.ty.var, .slice b.ty.A b.ty.args.length b.ty.cap] 39) := ⟨_, rfl⟩
  have HW := hide hW.symm
  have X0 : Hid (Ext w W) := hide (by rw [hW]; exact ((Ext.refl _).alloc _).alloc _)
  have B1 : Hid (PdBox W w.heap.size a) := hide (by rw [hW]; exact (PdBox.new w a).ext ((Ext.refl _).alloc _))
  have B2 : Hid (PdBox W (w.heap.size + 1) b) := hide (by rw [hW]; exact at_newB _ _ _ (by simp))
  have HS := hide (r_same16 a.ty b.ty W (ha.ext X0.out) (hb.ext X0.out))
  rw [hs] at HS
  obtain ⟨c0, c1, c2, c3⟩ := B1.out.cells
  obtain ⟨d0, d1, d2, d3⟩ := B2.out.cells
  have hb1 := B1.out.lt
  have hb2 := B2.out.lt
  have hq : (b.cls == b.cls) = true := by simp
  rw [h] at c0
  clear hW ha hb h hs
  unfold tyV at HS
  unfold pdV
  go_enter Tryz.func10, Tryz.ntmps10
  go_upto_region 1 with fail
  rw [HW.out]
  go_wp2_with fail
  refine HS.out.mono ?_
  rintro e w2 ⟨rfl, hx⟩
  go_wp2
  go_ret
  exact ⟨rfl, X0.out.trans hx⟩

end Go.Proofs.YtpdcjjgkpbpleaaGreatDoor

/- Contract: chapter 24's law of cuts. -/
namespace Go.Proofs.YtpdcjjgkpbpleaaGreatDoor
open Go.RowKit

theorem putZ_bound (l : List Pf) (M : Nat) (hM : 1 ≤ M) (h : ∀ x ∈ l, x.size ≤ M) (p : Pf) : putZ l p ≤ M * p.size := by
  induction p using Pf.ind with
  | h p ih =>
  rw [putZ_eq, Pf.size_eq]
  split
  · cases e : atZ l p.n with
    | none => exact Nat.zero_le _
    | some x =>
      refine Nat.le_trans (h x (atZ_mem e)) ?_
      have := Nat.le_mul_of_pos_right M (show 0 < (p.kids.map Pf.size).sum + 1 by omega)
      omega
  · have : ∀ ks : List Pf, (∀ k ∈ ks, putZ l k ≤ M * k.size) → (ks.map (putZ l)).sum ≤ M * (ks.map Pf.size).sum := by
      intro ks
      induction ks with
      | nil => simp
      | cons k ks ihk =>
        intro hk
        have h1 := hk k (by simp)
        have h2 := ihk (fun k hk' => hk k (by simp [hk']))
        simp only [List.map_cons, List.sum_cons, Nat.mul_add]
        omega
    have := this p.kids ih
    rw [Nat.mul_add]
    omega


end Go.Proofs.YtpdcjjgkpbpleaaGreatDoor

/- Contracts of the reference of chapter 17: what stands in a variable's place, how great a type is, and what it is, with all replaced. -/
namespace Go.Proofs.YtpdcjjgkpbpleaaGreatDoor
open Go.RowKit

set_option maxRecDepth 10000 in
set_option maxHeartbeats 2000000 in
theorem r_get17 (S : Option Addr) (sc : Nat) (s : List Pr) (x : Int) (w : World) (h : PrsIn w S s) (hn : s.length ≤ 9223372036854775807) :
    Calls Tryz.prog 128 #[.slice S s.length sc, .int .i64 x] w fun e w' => e = .returned (.tuple #[tyV ((putAt (vsP s) (tsP s) x).getD Ty.zero), .bool (putAt (vsP s) (tsP s) x).isSome]) ∧ Ext w w' := by
  obtain ⟨W, hW⟩ : ∃ W, W = w.alloc (.cells #[.string ⟨#[]⟩, .int .i64 0, .slice none 0 0] 37) := ⟨_, rfl⟩
  have HW := hide hW.symm
  have X0 : Hid (Ext w W) := hide (by rw [hW]; exact (Ext.refl _).alloc _)
  have B2 : Hid (W.heap[w.heap.size]? = some (.cells #[.string ⟨#[]⟩, .int .i64 0, .slice none 0 0] 37 (0, 0))) := hide (by rw [hW]; exact at_newB _ _ _ (by simp))
  have H := hide h
  have Hat := hide (fun k => @idxI_at _ _ (vsP s) x 0 k)
  have Hno := hide (idxI_no (vsP s) x 0)
  have HA : Hid (putAt (vsP s) (tsP s) x = if 0 ≤ idxI (vsP s) x then (tsP s)[(idxI (vsP s) x).toNat]? else none) := hide rfl
  generalize putAt (vsP s) (tsP s) x = R at *
  clear hW h
  unfold tyV
  go_enter Tryz.func128, Tryz.ntmps128
  go_upto_region 1 with fail
  rw [HW.out]
  clear HW
  go_wp2
  go_loopw [6] (fun i wr => ∃ j : Nat, j ≤ s.length ∧ i = .int .i64 j ∧ Hid (∀ i, i < j → ((vsP s).getD i 0 == x) = false) ∧ Hid (Ext W wr)) (fun i _ => s.length - (intOf i).toNat)
  case atStart => exact ⟨0, Nat.zero_le _, rfl, hide (fun i hi => absurd hi (by omega)), hide (Ext.refl _)⟩
  case round =>
    obtain ⟨j, hj, rfl, Hj, HX⟩ := hrel
    have C2 := hide ((HX.out.heap (lt_of_obj B2.out)).trans B2.out)
    have f0 := free_block C2.out 0
    have f1 := free_block C2.out 1
    have f2 := free_block C2.out 2
    have k0 := bytes_block C2.out 0
    have k1 := bytes_block C2.out 1
    have k2 := bytes_block C2.out 2
    have hrl := lt_of_obj C2.out
    simp only [List.getElem?_toArray, List.getElem?_cons_zero, List.getElem?_cons_succ] at k0 k1 k2
    by_cases hlt : j < s.length
    · have hlt' : (j : Int) < (s.length : Int) := by omega
      have hj0 : (0 : Int) ≤ (j : Int) := by omega
      obtain ⟨b, o, rfl, hb, q0, q1, q2, q3⟩ := prs_at (H.out.ext (X0.out.trans HX.out)).row hlt
      have Hg : Hid ((vsP s).getD j 0 = (s[j]'hlt).v) := hide (vsP_getD s hlt)
      have Hty : Hid ((tsP s)[j]? = some (s[j]'hlt).ty) := hide (by rw [List.getElem?_map, List.getElem?_eq_getElem hlt]; rfl)
      generalize s[j]'hlt = y at *
      cases hs : (y.v == x)
      · go_wp2
        go_roundw
        case rel =>
          refine ⟨j + 1, hlt, by go_num, hide (fun i hi => ?_), HX⟩
          by_cases hij : i = j
          · rw [hij, Hg.out]; exact hs
          · exact Hj.out i (by omega)
        case measure => simp [intOf]; omega
      · have hJ := Hat.out j (by simpa using hlt) Hj.out (by rw [Hg.out]; exact hs)
        have hR : R = some y.ty := by rw [HA.out, hJ, if_pos (by omega)]; simpa using Hty.out
        clear Hat Hno HA hJ
        subst hR
        have HXF : Hid (Ext w (((wr.setCell ⟨w.heap.size, 0, none⟩ (encStr y.ty.con)).setCell ⟨w.heap.size, 1, none⟩ (.int .i64 y.ty.var)).setCell ⟨w.heap.size, 2, none⟩ (.slice y.ty.A y.ty.args.length y.ty.cap))) := hide ((((X0.out.trans HX.out).setCell (by simp) _).setCell (by simp) _).setCell (by simp) _)
        go_wp2
        refine bodyPost_ret (v := .tuple #[.agg #[encStr y.ty.con, .int .i64 y.ty.var, .slice y.ty.A y.ty.args.length y.ty.cap], .bool true]) ?_ rfl ⟨rfl, HXF.out⟩
        simp [results, Tryz.f128, go_sem, k0, k1, k2]
    · have hge : ¬ (j : Int) < (s.length : Int) := by omega
      have hJ := Hno.out (fun i hi => Hj.out i (by have hi' : i < s.length := (by simpa using hi); omega))
      have hR : R = none := by rw [HA.out, hJ]; rfl
      clear Hat Hno HA hJ
      subst hR
      have HXF : Hid (Ext w (((wr.setCell ⟨w.heap.size, 0, none⟩ (.string ⟨#[]⟩)).setCell ⟨w.heap.size, 1, none⟩ (.int .i64 0)).setCell ⟨w.heap.size, 2, none⟩ (.slice none 0 0))) := hide ((((X0.out.trans HX.out).setCell (by simp) _).setCell (by simp) _).setCell (by simp) _)
      go_wp2
      refine bodyPost_ret (v := .tuple #[.agg #[.string ⟨#[]⟩, .int .i64 0, .slice none 0 0], .bool false]) ?_ rfl ⟨rfl, HXF.out⟩
      simp [results, Tryz.f128, go_sem, k0, k1, k2]

theorem putAt_ty {w : World} {S : Option Addr} {s : List Pr} (h : PrsIn w S s) {x : Int} {u : Ty} (e : putAt (vsP s) (tsP s) x = some u) : TyIn w u := by
  obtain ⟨p, hp, rfl⟩ := List.mem_map.1 (putAt_mem e)
  exact h.ty p hp
theorem PrsIn.tys {w : World} {S : Option Addr} {s : List Pr} (h : PrsIn w S s) : ∀ k ∈ tsP s, TyIn w k := fun k hk => by
  obtain ⟨p, hp, rfl⟩ := List.mem_map.1 hk
  exact h.ty p hp

set_option maxRecDepth 10000 in
set_option maxHeartbeats 4000000 in
theorem r_size17 (S : Option Addr) (sc : Nat) (s : List Pr) (hn : s.length ≤ 9223372036854775807) (hsz : ∀ p ∈ s, p.ty.size ≤ 1000000) (t : Ty) : ∀ (w : World), TyIn w t → PrsIn w S s → szS (vsP s) (tsP s) t ≤ 1000000000000000 →
    Calls Tryz.prog 136 #[.slice S s.length sc, tyV t] w fun e w' => e = .returned (.int .i64 (szS (vsP s) (tsP s) t : Int)) ∧ Ext w w' := by
  induction t using Ty.ind with
  | h t ih =>
  intro w h hS hb
  obtain ⟨W, hW⟩ : ∃ W, W = w.alloc (.cells #[encStr t.con, .int .i64 t.var, .slice t.A t.args.length t.cap] 37) := ⟨_, rfl⟩
  have HW := hide hW.symm
  have X0 : Hid (Ext w W) := hide (by rw [hW]; exact (Ext.refl _).alloc _)
  have B1 : Hid (TBox W w.heap.size t) := hide (by rw [hW]; exact TBox.new w t)
  have H := hide h
  have HSp := hide hS
  have IH := hide ih
  have hle := h.le
  have hmx := h.max
  have HE := hide (szS_eq (vsP s) (tsP s) t)
  have c0 := B1.out.c0
  have c1 := B1.out.c1
  have c2 := B1.out.c2
  have hbl := B1.out.lt
  generalize hZ : szS (vsP s) (tsP s) t = Z at *
  clear h hS hW ih hZ
  unfold tyV at *
  cases hc : (t.con == ([] : Str))
  · have hc0 : t.con ≠ [] := by simpa using hc
    have HE2 : Hid (Z = (t.args.map (szS (vsP s) (tsP s))).sum + 1) := hide (by rw [HE.out, if_neg hc0])
    clear HE hc0
    go_enter Tryz.func136, Tryz.ntmps136
    go_upto_region 1 with fail
    rw [HW.out]
    clear HW
    go_wp2
    go_loopw [7, 8] (fun v i wr => ∃ k : Nat, k ≤ t.args.length ∧ i = .int .i64 k ∧ v = .int .i64 ((((t.args.take k).map (szS (vsP s) (tsP s))).sum + 1 : Nat) : Int) ∧ Hid (Ext W wr)) (fun _ i _ => t.args.length - (intOf i).toNat)
    case atStart => exact ⟨0, Nat.zero_le _, rfl, by simp, hide (Ext.refl _)⟩
    case round =>
      obtain ⟨k, hk, rfl, rfl, HX⟩ := hrel
      have XR := hide (X0.out.trans HX.out)
      have C1 := hide (B1.out.ext HX.out)
      have g2 := C1.out.c2
      have hbr := C1.out.lt
      by_cases hlt : k < t.args.length
      · have hlt' : (k : Int) < (t.args.length : Int) := by omega
        have hk0 : (0 : Int) ≤ (k : Int) := by omega
        obtain ⟨b, o, hA, hb5, q0, q1, q2⟩ := (H.out.all.ext XR.out).at_ hlt
        have hkm := List.getElem_mem hlt
        have Hst : Hid (((t.args.take (k + 1)).map (szS (vsP s) (tsP s))).sum = ((t.args.take k).map (szS (vsP s) (tsP s))).sum + szS (vsP s) (tsP s) (t.args[k]'hlt)) := hide (by rw [List.take_succ_eq_append_getElem hlt, List.map_append, List.sum_append]; simp)
        have hle2 : ((t.args.take (k + 1)).map (szS (vsP s) (tsP s))).sum ≤ (t.args.map (szS (vsP s) (tsP s))).sum := by
          conv => rhs; rw [← List.take_append_drop (k + 1) t.args, List.map_append, List.sum_append]
          omega
        have hb2 : szS (vsP s) (tsP s) (t.args[k]'hlt) ≤ 1000000000000000 := by have := Hst.out; have := HE2.out; omega
        have hb3 : ((t.args.take k).map (szS (vsP s) (tsP s))).sum ≤ 1000000000000000 := by have := Hst.out; have := HE2.out; omega
        have HIH := hide (IH.out _ hkm wr ((H.out.all.args _ hkm).ext XR.out) (HSp.out.ext XR.out) hb2)
        generalize szS (vsP s) (tsP s) (t.args[k]'hlt) = z at *
        generalize t.args[k]'hlt = x at *
        generalize hq : ((t.args.take (k + 1)).map (szS (vsP s) (tsP s))).sum = a' at *
        have Hq := hide hq
        clear hq
        generalize ((t.args.take k).map (szS (vsP s) (tsP s))).sum = a at *
        rw [hA] at g2
        clear hA hkm hle2
        go_wp2_with fail
        refine HIH.out.mono ?_
        rintro e w3 ⟨rfl, hx3⟩
        have X3 := hide (HX.out.trans hx3)
        clear hx3
        go_wp2
        go_roundw
        case rel => exact ⟨k + 1, hlt, by go_num, by rw [Hq.out, Hst.out]; first | (congr 1; omega) | (congr 1; push_cast; omega), X3⟩
        case measure => simp [intOf]; omega
      · have hge : ¬ (k : Int) < (t.args.length : Int) := by omega
        have e9 : t.args.take k = t.args := List.take_of_length_le (by omega)
        rw [e9]
        clear e9
        have HZ : Hid ((((t.args.map (szS (vsP s) (tsP s))).sum + 1 : Nat) : Int) = (Z : Int)) := hide (by rw [HE2.out])
        rw [HZ.out]
        go_wp2
        go_ret
        exact ⟨rfl, XR.out⟩
  · have hc0 : t.con = [] := by simpa using hc
    have HE2 : Hid (Z = match putAt (vsP s) (tsP s) t.var with | some u => u.size | none => 1) := hide (by rw [HE.out, if_pos hc0]; cases putAt (vsP s) (tsP s) t.var <;> rfl)
    have HG := hide (fun w' (e : Ext w w') => r_get17 S sc s t.var w' (HSp.out.ext e) hn)
    have HTy := hide (fun u (e : putAt (vsP s) (tsP s) t.var = some u) => And.intro (putAt_ty HSp.out e) (show u.size ≤ 1000000 by
      obtain ⟨p, hp, rfl⟩ := List.mem_map.1 (putAt_mem e)
      exact hsz p hp))
    clear HE hc0 IH
    generalize putAt (vsP s) (tsP s) t.var = R at *
    have HG2 := hide (HG.out W X0.out)
    unfold tyV at HG2
    clear HG
    go_enter Tryz.func136, Tryz.ntmps136
    go_upto_region 1 with fail
    rw [HW.out]
    clear HW
    go_wp2_with fail
    refine HG2.out.mono ?_
    rintro e w2 ⟨rfl, hx⟩
    have X2 := hide (X0.out.trans hx)
    clear hx HG2
    cases R with
    | none =>
      have hz : Z = 1 := HE2.out
      subst hz
      go_wp2
      go_ret
      exact ⟨rfl, X2.out.alloc _⟩
    | some u =>
      have hz : Z = u.size := HE2.out
      obtain ⟨hu, hus⟩ := HTy.out u rfl
      simp only [Option.getD_some, Option.isSome_some]
      have HSz := hide (r_size16 u (w2.alloc (.cells #[encStr u.con, .int .i64 u.var, .slice u.A u.args.length u.cap] 37)) (hu.ext (X2.out.alloc _)) hus)
      have HZ := hide hz
      rw [← hz] at HSz
      clear hu hus hz HE2 HTy
      unfold tyV at HSz
      go_wp2_with fail
      refine HSz.out.mono ?_
      rintro e w3 ⟨rfl, hx⟩
      go_wp2
      go_ret
      exact ⟨rfl, (X2.out.alloc _).trans hx⟩

end Go.Proofs.YtpdcjjgkpbpleaaGreatDoor

/- Contract of the reference of chapter 17: a type with all replaced. (A program of ours has printed this.) -/
namespace Go.Proofs.YtpdcjjgkpbpleaaGreatDoor
open Go.RowKit

set_option maxRecDepth 10000 in
set_option maxHeartbeats 4000000 in
theorem r_put17 (S : Option Addr) (sc : Nat) (s : List Pr) (hn : s.length ≤ 9223372036854775807) (t : Ty) : ∀ (w : World), TyIn w t → PrsIn w S s → t.size ≤ 100000 →
    Calls Tryz.prog 137 #[.slice S s.length sc, tyV t] w fun e w' => (∃ u, e = .returned (tyV u) ∧ PutOk w w' (vsP s) (tsP s) t u) ∧ Ext w w' := by
  induction t using Ty.ind with
  | h t ih =>
  intro w h hS hsz
  obtain ⟨i1, hj, hy0, hy1, hy2⟩ := info_parts ty_info3
  obtain ⟨W, hW⟩ : ∃ W, W = (w.alloc (.cells #[encStr t.con, .int .i64 t.var, .slice t.A t.args.length t.cap] 37)).alloc (.cells #[.string ⟨#[]⟩, .int .i64 0, .slice none 0 0] 37) := ⟨_, rfl⟩
  have HW := hide hW.symm
  have X0 : Hid (Ext w W) := hide (by rw [hW]; exact ((Ext.refl _).alloc _).alloc _)
  have B1 : Hid (TBox W w.heap.size t) := hide (by rw [hW]; exact (TBox.new w t).ext ((Ext.refl _).alloc _))
  have B2 : Hid (W.heap[w.heap.size + 1]? = some (.cells #[.string ⟨#[]⟩, .int .i64 0, .slice none 0 0] 37 (0, 0))) := hide (by rw [hW]; exact at_newB _ _ _ (by simp))
  have hWs : W.heap.size = w.heap.size + 2 := by rw [hW]; simp
  have H := hide h
  have HSp := hide hS
  have Ht := hide (hS.tys)
  have IH := hide ih
  have hle := h.le
  have hmx := h.max
  have hlen := t.args_len
  clear h hS hW ih
  unfold tyV at *
  cases hc : (t.con == ([] : Str))
  · have hc0 : Hid (t.con ≠ []) := hide (by simpa using hc)
    have c0 := B1.out.c0
    have c1 := B1.out.c1
    have c2 := B1.out.c2
    go_enter Tryz.func137, Tryz.ntmps137
    go_upto_region 1 with fail
    rw [HW.out]
    go_wp2
    go_loopw [7, 8] (fun u i wr => ∃ (k : Nat) (us : List Ty), k ≤ t.args.length ∧ i = .int .i64 k ∧ Hid (Ext W wr) ∧ Hid (wr.ownsRow (w.heap.size + 2) 37 3 u us.length (us.flatMap tyC.f)) ∧ Hid (PutsOk w wr (fun c => (w.heap.size ≤ c ∧ c < w.heap.size + 2) ∨ u.ownBlock = some c) (vsP s) (tsP s) (t.args.take k) us)) (fun _ i _ => t.args.length - (intOf i).toNat)
    case atStart => exact ⟨0, [], Nat.zero_le _, rfl, hide (Ext.refl _), hide (World.ownsRow_nil _ _ _ _), hide (PutsOk.nil _ _ _ _ _)⟩
    case round =>
      obtain ⟨k, us, hk, rfl, HX, HO, HP⟩ := hrel
      have hul : us.length ≤ t.args.length := by have := HP.out.len; rw [List.length_take] at this; omega
      have C1 := hide (B1.out.ext HX.out)
      have g1 := C1.out.c0
      have g2 := C1.out.c1
      have g3 := C1.out.c2
      have XR := hide (X0.out.trans HX.out)
      have hszw := HX.out.size
      by_cases hlt : k < t.args.length
      · have hlt' : (k : Int) < (t.args.length : Int) := by omega
        have hk0 : (0 : Int) ≤ (k : Int) := by omega
        obtain ⟨b, o, hA, hb, q0, q1, q2⟩ := (H.out.all.ext XR.out).at_ hlt
        have hkm := List.getElem_mem hlt
        have HIH := hide (IH.out _ hkm wr ((H.out.all.args _ hkm).ext XR.out) (HSp.out.ext XR.out) (by have := Ty.size_arg hkm; omega))
        have Hx := hide (H.out.all.args _ hkm)
        have Htk : Hid (t.args.take (k + 1) = t.args.take k ++ [t.args[k]'hlt]) := hide (List.take_succ_eq_append_getElem hlt)
        generalize t.args[k]'hlt = x at *
        rw [hA] at g3
        clear hA hkm
        obtain ⟨A5, c5, rfl, p1, p2, p3, p4⟩ := RowOf.own tyC (l := us) HO.out
        have HPr : Hid (∀ c, ((w.heap.size ≤ c ∧ c < w.heap.size + 2) ∨ (Value.slice A5 us.length c5).ownBlock = some c) → w.heap.size ≤ c ∧ c < wr.heap.size) := hide (fun c hc => by
          rcases hc with hc | hc
          · omega
          · have := HO.out.lt c hc; omega)
        clear p3 p4
        go_wp2_with fail
        refine HIH.out.mono ?_
        rintro e w3 ⟨⟨u, rfl, hu⟩, hx3⟩
        have HP3 : Hid (PutsOk w w3 (fun c => (w.heap.size ≤ c ∧ c < w.heap.size + 2) ∨ (Value.slice A5 us.length c5).ownBlock = some c) (vsP s) (tsP s) (t.args.take (k + 1)) (us ++ [u])) := hide (by
          rw [Htk.out]
          exact HP.out.snoc hu hx3 Hx.out Ht.out (by omega) HPr.out)
        have X3 := hide (HX.out.trans hx3)
        have O3 := hide (own_extB HO.out hx3)
        have hs3 := X3.out.size
        clear hu hx3
        go_wp2_with (at_builtin; refine wpList_append_row _ rfl _ _ 28 rfl (w.heap.size + 2) 37 i1 _ 3 48 Tryz.underlying28 hj hy0 hy1 hy2 rfl (by decide) (.slice A5 us.length c5) us.length (us.flatMap tyC.f) rfl (O3.out.alloc _) _ 1 1 [encStr u.con, .int .i64 u.var, .slice u.A u.args.length u.cap] rfl ?c2 ?c3 ?c4 ?c5 ?c6 ?_)
        case c2 => exact Row.ty3 _ _ _ (at_newB _ _ _ (by simp))
        case c3 => first | exact ⟨rfl, rfl, rfl⟩ | (intro y hy; simp at hy; rcases hy with rfl | rfl | rfl <;> rfl)
        case c4 => unfold maxLen; omega
        case c5 => omega
        case c6 => simp; omega
        intro v4 w4 hown4 hg4 hat4
        have X4 := hide (Ext.app (X3.out.alloc _) hg4 (O3.out.alloc _) (by omega))
        have O4 : Hid (w4.ownsRow (w.heap.size + 2) 37 3 v4 (us ++ [u]).length ((us ++ [u]).flatMap tyC.f)) := hide (by rw [flat_snoc, List.length_append]; exact hown4)
        have HP4 : Hid (PutsOk w w4 (fun c => (w.heap.size ≤ c ∧ c < w.heap.size + 2) ∨ v4.ownBlock = some c) (vsP s) (tsP s) (t.args.take (k + 1)) (us ++ [u])) := hide (by
          have h1 := (HP3.out.ext ((Ext.refl w3).alloc (.cells #[encStr u.con, .int .i64 u.var, .slice u.A u.args.length u.cap] 37)))
          refine (h1.rows (R' := fun c => ((w.heap.size ≤ c ∧ c < w.heap.size + 2) ∨ (Value.slice A5 us.length c5).ownBlock = some c) ∨ v4.ownBlock = some c) (fun c hc => ?_)).grown hg4 (fun c e => .inl (.inr e)) |>.rows (fun c hc => .inl ?_)
          · rcases hc with hc | hc
            · exact .inl hc
            · rcases hat4 with e | e
              · exact .inl (.inr (e ▸ hc))
              · rw [e] at hc; injection hc with hc; exact .inr (by rw [World.size_alloc]; omega)
          · exact hc.elim (fun h => .inl (.inl h)) .inr)
        clear hown4 hg4 hat4 HP3
        go_wp2
        go_roundw
        case rel => exact ⟨k + 1, us ++ [u], hlt, by go_num, X4, O4, HP4⟩
        case measure => simp [intOf]; omega
      · have hge : ¬ (k : Int) < (t.args.length : Int) := by omega
        have HPd : Hid (PutsOk w wr (fun c => w.heap.size ≤ c ∧ c < w.heap.size + 2) (vsP s) (tsP s) t.args us) := hide (by have := HP.out; rw [List.take_of_length_le (by omega)] at this; exact this.rows (fun c hc => .inl (.inl hc)))
        obtain ⟨A5, c5, rfl, p1, p2, p3, p4⟩ := RowOf.own tyC (l := us) HO.out
        have P3 := hide p3
        have P4 : Hid (∀ a, A5 = some a → w.heap.size + 2 ≤ a.block) := hide (fun a e => by
          subst e
          by_cases hn : us.length = 0
          · have h2 := HO.out.lt a.block
            rcases HO.out.2 with ⟨h3, -⟩ | ⟨g, cap, cur, h3, h4, -⟩
            · cases h3
            · injection h3 with h3; injection h3 with h3; subst h3; show w.heap.size + 2 ≤ g; omega
          · obtain ⟨g, o, e, -⟩ := p3.2 (by omega)
            injection e with e
            subst e
            have := (p4 g o rfl).1
            show w.heap.size + 2 ≤ g
            omega)
        have C2 := hide ((HX.out.heap (lt_of_obj B2.out)).trans B2.out)
        clear HO HP p3 p4
        have fb := C1.out.free 2
        have f0 := free_block C2.out 0
        have f1 := free_block C2.out 1
        have f2 := free_block C2.out 2
        have k0 := bytes_block C2.out 0
        have k1 := bytes_block C2.out 1
        have k2 := bytes_block C2.out 2
        simp only [List.getElem?_toArray, List.getElem?_cons_zero, List.getElem?_cons_succ] at k0 k1 k2
        obtain ⟨U, hU⟩ : ∃ U : Ty, U = .mk t.con t.var A5 c5 us := ⟨_, rfl⟩
        obtain ⟨WF, hWF⟩ : ∃ WF, WF = (((wr.setCell ⟨w.heap.size, 2, none⟩ (.slice A5 us.length c5)).setCell ⟨w.heap.size + 1, 0, none⟩ (encStr t.con)).setCell ⟨w.heap.size + 1, 1, none⟩ (.int .i64 t.var)).setCell ⟨w.heap.size + 1, 2, none⟩ (.slice A5 us.length c5) := ⟨_, rfl⟩
        have XF : Hid (Ext w WF) := hide (by rw [hWF]; exact (((( X0.out.trans HX.out).setCell (by simp) _).setCell (by simp) _).setCell (by simp) _).setCell (by simp) _)
        have PF : Hid (PutOk w WF (vsP s) (tsP s) t U) := hide (by
          have hgf := put3_grown (wr.setCell ⟨w.heap.size, 2, none⟩ (.slice A5 us.length c5)) (w.heap.size + 1) 0 1 2 (encStr t.con) (.int .i64 t.var) (.slice A5 us.length c5)
          rw [← hWF] at hgf
          have h1 := (HPd.out.grown (grown_cell wr w.heap.size 2 (.slice A5 us.length c5)) (fun c e => by injection e with e; omega)).grown hgf (fun c e => by injection e with e; omega)
          have h2 : RowOf tyC WF A5 us := row_grown (row_grown P3.out (grown_cell wr w.heap.size 2 (.slice A5 us.length c5)) (fun _ a e e2 => by have := P4.out a e; injection e2 with e2; omega)) hgf (fun _ a e e2 => by have := P4.out a e; injection e2 with e2; omega)
          rw [hU]
          exact h1.done hc0.out H.out.txt p1 p2 h2 (fun _ a e => by have := P4.out a e; omega))
        have hUv : tyV U = .agg #[encStr t.con, .int .i64 t.var, .slice A5 us.length c5] := by rw [hU]; rfl
        clear HPd hU P3 P4
        go_wp2
        rw [← hWF]
        refine bodyPost_ret (v := .agg #[encStr t.con, .int .i64 t.var, .slice A5 us.length c5]) ?_ rfl ⟨⟨U, by rw [← hUv]; rfl, PF.out⟩, XF.out⟩
        rw [hWF]
        simp [results, Tryz.f137, go_sem, k0, k1, k2]
  · have hc0 : Hid (t.con = []) := hide (by simpa using hc)
    have HP := hide (PutOk.var (vars := vsP s) (types := tsP s) hc0.out H.out Ht.out)
    have HG := hide (r_get17 S sc s t.var W (HSp.out.ext X0.out) hn)
    have XF : ∀ u : Ty, ∀ wr, Ext W wr → Hid (Ext w (((wr.setCell ⟨w.heap.size + 1, 0, none⟩ (encStr u.con)).setCell ⟨w.heap.size + 1, 1, none⟩ (.int .i64 u.var)).setCell ⟨w.heap.size + 1, 2, none⟩ (.slice u.A u.args.length u.cap))) := fun u wr e => hide ((((X0.out.trans e).setCell (by simp) _).setCell (by simp) _).setCell (by simp) _)
    generalize putAt (vsP s) (tsP s) t.var = R at *
    unfold tyV at HG
    have c0 := B1.out.c0
    have c1 := B1.out.c1
    have c2 := B1.out.c2
    go_enter Tryz.func137, Tryz.ntmps137
    go_upto_region 1 with fail
    rw [HW.out]
    go_wp2_with fail
    refine HG.out.mono ?_
    rintro e w2 ⟨rfl, hx⟩
    have X2 := hide hx
    have C1 := hide (B1.out.ext hx)
    have C2 := hide ((hx.heap (lt_of_obj B2.out)).trans B2.out)
    clear hx c0 c1 c2 HG
    cases R with
    | none =>
      simp only [Option.getD_none, Option.isSome_none]
      obtain ⟨W3, hW3⟩ : ∃ W3, W3 = w2.alloc (.cells #[encStr Ty.zero.con, .int .i64 Ty.zero.var, .slice Ty.zero.A Ty.zero.args.length Ty.zero.cap] 37) := ⟨_, rfl⟩
      have X3 : Hid (Ext w2 W3) := hide (by rw [hW3]; exact (Ext.refl _).alloc _)
      have C13 := hide (C1.out.ext X3.out)
      have C23 := hide ((X3.out.heap (lt_of_obj C2.out)).trans C2.out)
      have g0 := C13.out.c0
      have g1 := C13.out.c1
      have g2 := C13.out.c2
      have hbl := C13.out.lt
      have f0 := free_block C23.out 0
      have f1 := free_block C23.out 1
      have f2 := free_block C23.out 2
      have k0 := bytes_block C23.out 0
      have k1 := bytes_block C23.out 1
      have k2 := bytes_block C23.out 2
      have hrl := lt_of_obj C23.out
      simp only [List.getElem?_toArray, List.getElem?_cons_zero, List.getElem?_cons_succ] at k0 k1 k2
      have XF1 := XF t W3 (X2.out.trans X3.out)
      go_upto_region 3 with fail
      rw [← hW3]
      clear hW3
      go_wp2
      refine bodyPost_ret (v := .agg #[encStr t.con, .int .i64 t.var, .slice t.A t.args.length t.cap]) ?_ rfl ⟨⟨t, rfl, HP.out.ext XF1.out⟩, XF1.out⟩
      simp [results, Tryz.f137, go_sem, k0, k1, k2]
    | some u =>
      simp only [Option.getD_some, Option.isSome_some]
      obtain ⟨W3, hW3⟩ : ∃ W3, W3 = w2.alloc (.cells #[encStr u.con, .int .i64 u.var, .slice u.A u.args.length u.cap] 37) := ⟨_, rfl⟩
      have X3 : Hid (Ext w2 W3) := hide (by rw [hW3]; exact (Ext.refl _).alloc _)
      have D3 : Hid (TBox W3 w2.heap.size u) := hide (by rw [hW3]; exact TBox.new w2 u)
      have C23 := hide ((X3.out.heap (lt_of_obj C2.out)).trans C2.out)
      have g0 := D3.out.c0
      have g1 := D3.out.c1
      have g2 := D3.out.c2
      have hbl := D3.out.lt
      have f0 := free_block C23.out 0
      have f1 := free_block C23.out 1
      have f2 := free_block C23.out 2
      have k0 := bytes_block C23.out 0
      have k1 := bytes_block C23.out 1
      have k2 := bytes_block C23.out 2
      have hrl := lt_of_obj C23.out
      simp only [List.getElem?_toArray, List.getElem?_cons_zero, List.getElem?_cons_succ] at k0 k1 k2
      have XF1 := XF u W3 (X2.out.trans X3.out)
      go_upto_region 3 with fail
      rw [← hW3]
      clear hW3
      go_wp2
      refine bodyPost_ret (v := .agg #[encStr u.con, .int .i64 u.var, .slice u.A u.args.length u.cap]) ?_ rfl ⟨⟨u, rfl, HP.out.ext XF1.out⟩, XF1.out⟩
      simp [results, Tryz.f137, go_sem, k0, k1, k2]

end Go.Proofs.YtpdcjjgkpbpleaaGreatDoor

/- Contract of the reference of chapter 17: with a type for a variable. (A program of ours has printed this.) -/
namespace Go.Proofs.YtpdcjjgkpbpleaaGreatDoor
open Go.RowKit

set_option maxRecDepth 10000 in
set_option maxHeartbeats 4000000 in
theorem r_set17 (S : Option Addr) (sc : Nat) (s : List Pr) (x : Int) (t : Ty) (w : World) (h : PrsIn w S s) (hle : s.length ≤ sc) (hmx : sc ≤ 9223372036854775807) (hr : RiseP s) (ht : TyIn w t) (hsz : t.size ≤ 900000) (hl : legalT t = true) (hf : s.length ≤ 100000) (hno : putAt (vsP s) (tsP s) x = none) :
    Calls Tryz.prog 111 #[.slice S s.length sc, .int .i64 x, tyV t] w fun e w' => (∃ i A cap, e = .returned (.tuple #[.slice A (insP s i x t).length cap, .int .i64 0]) ∧ LbP s x i ∧ PrsIn w' A (insP s i x t) ∧ (insP s i x t).length ≤ cap ∧ cap ≤ 9223372036854775807) ∧ Ext w w' := by
  obtain ⟨i0, hi, hz0, hz1, hz2⟩ := info_parts pair_info
  obtain ⟨W, hW⟩ : ∃ W, W = w.alloc (.cells #[encStr t.con, .int .i64 t.var, .slice t.A t.args.length t.cap] 37) := ⟨_, rfl⟩
  have HW := hide hW.symm
  have X0 : Hid (Ext w W) := hide (by rw [hW]; exact (Ext.refl _).alloc _)
  have B1 : Hid (TBox W w.heap.size t) := hide (by rw [hW]; exact TBox.new w t)
  have H := hide h
  have HT := hide ht
  have HRi := hide hr
  have hale := ht.le
  have hamx := ht.max
  have HLg := hide (r_legal16 t W (ht.ext X0.out) hsz)
  rw [hl] at HLg
  have HGt := hide (fun w' (e : Ext w w') => r_get17 S sc s x w' (h.ext e) (by omega))
  rw [hno] at HGt
  have HNo := hide ((putAt_no hr).1 hno)
  have c0 := B1.out.c0
  have c1 := B1.out.c1
  have c2 := B1.out.c2
  have hbl := B1.out.lt
  clear hW h ht hr hl hno hsz
  unfold tyV at *
  go_enter Tryz.func111, Tryz.ntmps111
  go_upto_region 1 with fail
  rw [HW.out]
  clear HW
  go_wp2_with fail
  refine HLg.out.mono ?_
  rintro e w2 ⟨rfl, hx⟩
  have X2 := hide (X0.out.trans hx)
  have Y2 := hide hx
  clear hx HLg c0 c1 c2 hbl
  have HG2 := hide (HGt.out w2 X2.out)
  clear HGt
  simp only [Option.getD_none, Option.isSome_none] at HG2
  go_wp2_with fail
  refine HG2.out.mono ?_
  rintro e w3 ⟨rfl, hx⟩
  obtain ⟨W4, hW4⟩ : ∃ W4, W4 = w3.alloc (.cells #[encStr Ty.zero.con, .int .i64 Ty.zero.var, .slice Ty.zero.A Ty.zero.args.length Ty.zero.cap] 37) := ⟨_, rfl⟩
  have X34 : Hid (Ext w3 W4) := hide (by rw [hW4]; exact (Ext.refl _).alloc _)
  have X4 := hide (X2.out.trans (hx.trans X34.out))
  have Y4 := hide (Y2.out.trans (hx.trans X34.out))
  clear hx HG2
  go_upto_region 4 with fail
  rw [← hW4]
  clear hW4
  go_wp2
  go_loopw [10] (fun i wr => ∃ k : Nat, k ≤ s.length ∧ i = .int .i64 k ∧ Hid (∀ j (h : j < s.length), j < k → (s[j]'h).v < x) ∧ Hid (Ext W4 wr)) (fun i _ => s.length - (intOf i).toNat)
  case atStart => exact ⟨0, Nat.zero_le _, rfl, hide (fun j _ hj => absurd hj (by omega)), hide (Ext.refl _)⟩
  case round =>
    obtain ⟨k, hk, rfl, HJ, HX⟩ := hrel
    have XR := hide (X4.out.trans HX.out)
    by_cases hgo : ∃ hlt : k < s.length, (s[k]'hlt).v < x
    · obtain ⟨hlt, hv⟩ := hgo
      have hlt' : (k : Int) < (s.length : Int) := by omega
      have hk0 : (0 : Int) ≤ (k : Int) := by omega
      obtain ⟨b, o, rfl, hb, q0, q1, q2, q3⟩ := prs_at (H.out.ext XR.out).row hlt
      have HJ2 : Hid (∀ j (h : j < s.length), j < k + 1 → (s[j]'h).v < x) := hide (fun j hj hjk => by
        by_cases e : j = k
        · subst e; exact hv
        · exact HJ.out j hj (by omega))
      generalize s[k]'hlt = y at *
      go_wp2
      go_roundw
      case rel => exact ⟨k + 1, hlt, by go_num, HJ2, HX⟩
      case measure => simp [intOf]; omega
    · have HLb : Hid (LbP s x k) := hide ⟨hk, fun j hj hjk => HJ.out j hj hjk, fun j hj hkj => by
        have h1 : k < s.length := by omega
        have h2 : ¬ (s[k]'h1).v < x := fun h => hgo ⟨h1, h⟩
        rcases Nat.lt_or_ge k j with h3 | h3
        · have := rise_lt HRi.out h3 hj; omega
        · have : j = k := by omega
          subst this
          omega⟩
      have HTake : Hid (Row wr S 4 k ((s.take k).flatMap prC.f)) := hide (by
        have := RowOf.take prC (H.out.ext XR.out).row hk
        unfold RowOf at this
        rwa [List.length_take, Nat.min_eq_left hk] at this)
      have HLen : Hid ((insP s k x t).length = s.length + 1) := hide (insP_len hk)
      have HTy : Hid (∀ w', Ext w w' → ∀ p ∈ insP s k x t, TyIn w' p.ty) := hide (fun w' e p hp => by
        rcases insP_mem.1 hp with rfl | hp
        · exact HT.out.ext e
        · exact (H.out.ty p hp).ext e)
      have HS : Hid (∀ w', Ext wr w' → w'.cell? ⟨w.heap.size, 0, none⟩ = some (encStr t.con) ∧ w'.cell? ⟨w.heap.size, 1, none⟩ = some (.int .i64 t.var) ∧ w'.cell? ⟨w.heap.size, 2, none⟩ = some (.slice t.A t.args.length t.cap)) := hide (fun w' e => by
        have := B1.out.ext (Y4.out.trans (HX.out.trans e))
        exact ⟨this.c0, this.c1, this.c2⟩)
      have hk1 : (k : Int) ≤ (s.length : Int) := by omega
      have hk2 : (k : Int) ≤ (sc : Int) := by omega
      have hk3 : (s.length : Int) ≤ (sc : Int) := by omega
      have hk4 : (0 : Int) ≤ (k : Int) := by omega
      obtain ⟨s0, s1', s2'⟩ := HS.out wr (Ext.refl _)
      have hbr : w.heap.size < wr.heap.size := (B1.out.ext (Y4.out.trans HX.out)).lt
      by_cases hck : sc = k
      · have hks : k = s.length := by omega
        have HFl : Hid ((s.take k).flatMap prC.f ++ [.int .i64 x, encStr t.con, .int .i64 t.var, .slice t.A t.args.length t.cap] ++ [] = (insP s k x t).flatMap prC.f) := hide (by
          unfold insP
          rw [List.flatMap_append, List.flatMap_cons, List.drop_eq_nil_of_le (by omega), List.flatMap_nil, List.append_nil, List.append_nil]
          rfl)
        have hns : ¬ (k : Int) < (s.length : Int) := by omega
        subst hks
        subst hck
        go_wp2
        go_region_held3 (fun w' => w'.cell? ⟨w.heap.size, 0, none⟩ = some (encStr t.con) ∧ w'.cell? ⟨w.heap.size, 1, none⟩ = some (.int .i64 t.var) ∧ w'.cell? ⟨w.heap.size, 2, none⟩ = some (.slice t.A t.args.length t.cap)) (first | assumption | go_keep) (first
          | (refine step_append_rowB _ rfl (.const (.slice none 0 0)) (.tmp 40) 105 rfl wr.heap.size 109 i0 _ 4 56 Tryz.underlying105 hi hz0 hz1 hz2 rfl (by decide) (.slice none 0 0) 0 [] rfl (World.ownsRow_nil _ _ _ _) S s.length s.length ((s.take s.length).flatMap prC.f) rfl (Row.ext HTake.out (w := wr) (by repeat (first | exact Ext.refl _ | exact Ext.pre (by simp) | exact Ext.alloc (by assumption) _ | refine Ext.alloc ?_ _ |  refine Ext.more ?_ _ _ | refine Ext.drew ?_ | refine Ext.drewN ?_ _))) (one_prs _) (by unfold maxLen; omega) (by omega) (Ext.size (w := wr) (by repeat (first | exact Ext.refl _ | exact Ext.pre (by simp) | exact Ext.alloc (by assumption) _ | refine Ext.alloc ?_ _ |  refine Ext.more ?_ _ _ | refine Ext.drew ?_ | refine Ext.drewN ?_ _))) ?_
             intro v1 w2 hown1 hg1 hat1
             have X1 : Hid (Ext wr w2) := hide (Ext.app (w := wr) (by repeat (first | exact Ext.refl _ | exact Ext.pre (by simp) | exact Ext.alloc (by assumption) _ | refine Ext.alloc ?_ _ |  refine Ext.more ?_ _ _ | refine Ext.drew ?_ | refine Ext.drewN ?_ _)) hg1 (World.ownsRow_nil _ wr.heap.size 109 4) (Nat.le_refl _))
             have Hg1 := hide hg1
             rw [Nat.zero_add, List.nil_append] at hown1
             have O1 := hide hown1
             have s1 := HS.out _ X1.out
             clear hown1 hg1 hat1)
          | (refine step_append_rowB _ rfl (.tmp 46) (.tmp 49) 105 rfl wr.heap.size 109 i0 _ 4 56 Tryz.underlying105 hi hz0 hz1 hz2 rfl (by decide) v2 (s.length + 1) ((s.take s.length).flatMap prC.f ++ [.int .i64 x, encStr t.con, .int .i64 t.var, .slice t.A t.args.length t.cap]) rfl O2.out S 0 0 [] rfl (RowOf.nil prC _ _) (by simp) (by unfold maxLen; omega) (by omega) (by have := X3.out.size; omega) ?_
             intro v3 w4 hown3 hg3 hat3
             have X4 : Hid (Ext wr w4) := hide (Ext.app X3.out hg3 O2.out (Nat.le_refl _))
             have O3 := hide hown3
             have s3 := HS.out _ X4.out
             clear hown3 hg3 hat3)
          | (refine step_append_rowB _ rfl (.tmp 41) (.tmp 45) 105 rfl wr.heap.size 109 i0 _ 4 56 Tryz.underlying105 hi hz0 hz1 hz2 rfl (by decide) v1 s.length ((s.take s.length).flatMap prC.f) rfl (by first | exact O1.out.alloc _ | exact O1.out) (some ⟨_, 0, none⟩) 1 1 [.int .i64 x, encStr t.con, .int .i64 t.var, .slice t.A t.args.length t.cap] rfl
               (by first | exact RowOf.block prC [⟨x, t⟩] (heap_alloc_new _ _) | exact RowOf.block prC [⟨x, t⟩] ((Hg1.out.block _ (by simp) (by simp [Value.ownBlock])).trans (at_newB _ _ _ (by simp))))
               (by intro u hu; simp at hu; rcases hu with rfl | rfl | rfl | rfl <;> rfl) (by unfold maxLen; omega) (by omega) (Ext.size (w := wr) (by first | exact X1.out.alloc _ | exact X1.out)) ?_
             intro v2 w3 hown2 hg2 hat2
             have X3 : Hid (Ext wr w3) := hide (Ext.app (w := wr) (by first | exact X1.out.alloc _ | exact X1.out) hg2 (by first | exact O1.out.alloc _ | exact O1.out) (Nat.le_refl _))
             have O2 := hide hown2
             have s2 := HS.out _ X3.out
             clear hown2 hg2 hat2))
        all_goals
          have h3 := O3.out
          rw [show s.length + 1 + 0 = (insP s s.length x t).length by have := HLen.out; omega, show (s.take s.length).flatMap prC.f ++ [.int .i64 x, encStr t.con, .int .i64 t.var, .slice t.A t.args.length t.cap] ++ [] = (insP s s.length x t).flatMap prC.f from HFl.out] at h3
          obtain ⟨A', cap', rfl, hc1, hc2, hs, -⟩ := RowOf.own prC (l := insP s s.length x t) h3
          have Hs : Hid (PrsIn w4 A' (insP s s.length x t)) := hide ⟨hs, fun p hp => HTy.out w4 (XR.out.trans X4.out) p hp⟩
          have XX := hide (XR.out.trans X4.out)
          clear h3 hs O3
          go_wp2
          refine bodyPost_ret (v := .tuple #[.slice A' (insP s s.length x t).length cap', .int .i64 0]) (by simp [results, Tryz.results111, go_sem]) rfl ⟨⟨s.length, A', cap', rfl, HLb.out, Hs.out, hc1, hc2⟩, XX.out⟩
      · have HFl : Hid ((s.take k).flatMap prC.f ++ [.int .i64 x, encStr t.con, .int .i64 t.var, .slice t.A t.args.length t.cap] ++ (s.drop k).flatMap prC.f = (insP s k x t).flatMap prC.f) := hide (by
          unfold insP
          rw [List.flatMap_append, List.flatMap_cons, List.append_assoc]
          rfl)
        have HCut : Hid (Row wr (S.map (·.add (k * 4))) 4 (s.length - k) ((s.drop k).flatMap prC.f)) := hide (by
          have := RowOf.cut prC (H.out.ext XR.out).row hk hle
          rw [if_neg hck] at this
          unfold RowOf at this
          rwa [List.length_drop] at this)
        by_cases hlt : k < s.length
        · have hlt' : (k : Int) < (s.length : Int) := by omega
          have hv : ¬ (s[k]'hlt).v < x := fun h => hgo ⟨hlt, h⟩
          obtain ⟨b, o, hA, hb, q0, q1, q2, q3⟩ := prs_at (H.out.ext XR.out).row hlt
          generalize s[k]'hlt = y at *
          subst hA
          have HCut2 : Hid (Row wr (some ⟨b, o + k * 4, none⟩) 4 (s.length - k) ((s.drop k).flatMap prC.f)) := hide (by
            have h1 := HCut.out
            have h2 : Option.map (·.add (k * 4)) (some (⟨b, o, none⟩ : Addr)) = some ⟨b, o + k * 4, none⟩ := by
              by_cases h0 : k * 4 = 0
              · rw [h0]; rfl
              · show some (Addr.add _ _) = _
                unfold Addr.add
                rw [if_neg h0]
            rwa [h2] at h1)
          clear HCut
          go_wp2
          go_region_held3 (fun w' => w'.cell? ⟨w.heap.size, 0, none⟩ = some (encStr t.con) ∧ w'.cell? ⟨w.heap.size, 1, none⟩ = some (.int .i64 t.var) ∧ w'.cell? ⟨w.heap.size, 2, none⟩ = some (.slice t.A t.args.length t.cap)) (first | assumption | go_keep) (first
            | (refine step_append_rowB _ rfl (.const (.slice none 0 0)) (.tmp 40) 105 rfl wr.heap.size 109 i0 _ 4 56 Tryz.underlying105 hi hz0 hz1 hz2 rfl (by decide) (.slice none 0 0) 0 [] rfl (World.ownsRow_nil _ _ _ _) (some ⟨b, o, none⟩) k sc ((s.take k).flatMap prC.f) rfl (Row.ext HTake.out (w := wr) (by repeat (first | exact Ext.refl _ | exact Ext.pre (by simp) | exact Ext.alloc (by assumption) _ | refine Ext.alloc ?_ _ |  refine Ext.more ?_ _ _ | refine Ext.drew ?_ | refine Ext.drewN ?_ _))) (one_prs _) (by unfold maxLen; omega) (by omega) (Ext.size (w := wr) (by repeat (first | exact Ext.refl _ | exact Ext.pre (by simp) | exact Ext.alloc (by assumption) _ | refine Ext.alloc ?_ _ |  refine Ext.more ?_ _ _ | refine Ext.drew ?_ | refine Ext.drewN ?_ _))) ?_
               intro v1 w2 hown1 hg1 hat1
               have X1 : Hid (Ext wr w2) := hide (Ext.app (w := wr) (by repeat (first | exact Ext.refl _ | exact Ext.pre (by simp) | exact Ext.alloc (by assumption) _ | refine Ext.alloc ?_ _ |  refine Ext.more ?_ _ _ | refine Ext.drew ?_ | refine Ext.drewN ?_ _)) hg1 (World.ownsRow_nil _ wr.heap.size 109 4) (Nat.le_refl _))
               have Hg1 := hide hg1
               rw [Nat.zero_add, List.nil_append] at hown1
               have O1 := hide hown1
               have s1 := HS.out _ X1.out
               clear hown1 hg1 hat1)
            | (refine step_append_rowB _ rfl (.tmp 46) (.tmp 49) 105 rfl wr.heap.size 109 i0 _ 4 56 Tryz.underlying105 hi hz0 hz1 hz2 rfl (by decide) v2 (k + 1) ((s.take k).flatMap prC.f ++ [.int .i64 x, encStr t.con, .int .i64 t.var, .slice t.A t.args.length t.cap]) rfl O2.out (some ⟨b, o + k * 4, none⟩) (s.length - k) (sc - k) ((s.drop k).flatMap prC.f) rfl (HCut2.out.ext X3.out) (one_prs _) (by unfold maxLen; omega) (by omega) (by have := X3.out.size; omega) ?_
               intro v3 w4 hown3 hg3 hat3
               have X4 : Hid (Ext wr w4) := hide (Ext.app X3.out hg3 O2.out (Nat.le_refl _))
               have O3 := hide hown3
               have s3 := HS.out _ X4.out
               clear hown3 hg3 hat3)
            | (refine step_append_rowB _ rfl (.tmp 41) (.tmp 45) 105 rfl wr.heap.size 109 i0 _ 4 56 Tryz.underlying105 hi hz0 hz1 hz2 rfl (by decide) v1 k ((s.take k).flatMap prC.f) rfl (by first | exact O1.out.alloc _ | exact O1.out) (some ⟨_, 0, none⟩) 1 1 [.int .i64 x, encStr t.con, .int .i64 t.var, .slice t.A t.args.length t.cap] rfl
                 (by first | exact RowOf.block prC [⟨x, t⟩] (heap_alloc_new _ _) | exact RowOf.block prC [⟨x, t⟩] ((Hg1.out.block _ (by simp) (by simp [Value.ownBlock])).trans (at_newB _ _ _ (by simp))))
                 (by intro u hu; simp at hu; rcases hu with rfl | rfl | rfl | rfl <;> rfl) (by unfold maxLen; omega) (by omega) (Ext.size (w := wr) (by first | exact X1.out.alloc _ | exact X1.out)) ?_
               intro v2 w3 hown2 hg2 hat2
               have X3 : Hid (Ext wr w3) := hide (Ext.app (w := wr) (by first | exact X1.out.alloc _ | exact X1.out) hg2 (by first | exact O1.out.alloc _ | exact O1.out) (Nat.le_refl _))
               have O2 := hide hown2
               have s2 := HS.out _ X3.out
               clear hown2 hg2 hat2))
          all_goals
            have h3 := O3.out
            rw [show k + 1 + (s.length - k) = (insP s k x t).length by have := HLen.out; omega, show (s.take k).flatMap prC.f ++ [.int .i64 x, encStr t.con, .int .i64 t.var, .slice t.A t.args.length t.cap] ++ ((s.drop k).flatMap prC.f) = (insP s k x t).flatMap prC.f from HFl.out] at h3
            obtain ⟨A', cap', rfl, hc1, hc2, hs, -⟩ := RowOf.own prC (l := insP s k x t) h3
            have Hs : Hid (PrsIn w4 A' (insP s k x t)) := hide ⟨hs, fun p hp => HTy.out w4 (XR.out.trans X4.out) p hp⟩
            have XX := hide (XR.out.trans X4.out)
            clear h3 hs O3
            go_wp2
            refine bodyPost_ret (v := .tuple #[.slice A' (insP s k x t).length cap', .int .i64 0]) (by simp [results, Tryz.results111, go_sem]) rfl ⟨⟨k, A', cap', rfl, HLb.out, Hs.out, hc1, hc2⟩, XX.out⟩
        · have hns : ¬ (k : Int) < (s.length : Int) := by omega
          go_wp2
          go_region_held3 (fun w' => w'.cell? ⟨w.heap.size, 0, none⟩ = some (encStr t.con) ∧ w'.cell? ⟨w.heap.size, 1, none⟩ = some (.int .i64 t.var) ∧ w'.cell? ⟨w.heap.size, 2, none⟩ = some (.slice t.A t.args.length t.cap)) (first | assumption | go_keep) (first
            | (refine step_append_rowB _ rfl (.const (.slice none 0 0)) (.tmp 40) 105 rfl wr.heap.size 109 i0 _ 4 56 Tryz.underlying105 hi hz0 hz1 hz2 rfl (by decide) (.slice none 0 0) 0 [] rfl (World.ownsRow_nil _ _ _ _) S k sc ((s.take k).flatMap prC.f) rfl (Row.ext HTake.out (w := wr) (by repeat (first | exact Ext.refl _ | exact Ext.pre (by simp) | exact Ext.alloc (by assumption) _ | refine Ext.alloc ?_ _ |  refine Ext.more ?_ _ _ | refine Ext.drew ?_ | refine Ext.drewN ?_ _))) (one_prs _) (by unfold maxLen; omega) (by omega) (Ext.size (w := wr) (by repeat (first | exact Ext.refl _ | exact Ext.pre (by simp) | exact Ext.alloc (by assumption) _ | refine Ext.alloc ?_ _ |  refine Ext.more ?_ _ _ | refine Ext.drew ?_ | refine Ext.drewN ?_ _))) ?_
               intro v1 w2 hown1 hg1 hat1
               have X1 : Hid (Ext wr w2) := hide (Ext.app (w := wr) (by repeat (first | exact Ext.refl _ | exact Ext.pre (by simp) | exact Ext.alloc (by assumption) _ | refine Ext.alloc ?_ _ |  refine Ext.more ?_ _ _ | refine Ext.drew ?_ | refine Ext.drewN ?_ _)) hg1 (World.ownsRow_nil _ wr.heap.size 109 4) (Nat.le_refl _))
               have Hg1 := hide hg1
               rw [Nat.zero_add, List.nil_append] at hown1
               have O1 := hide hown1
               have s1 := HS.out _ X1.out
               clear hown1 hg1 hat1)
            | (refine step_append_rowB _ rfl (.tmp 46) (.tmp 49) 105 rfl wr.heap.size 109 i0 _ 4 56 Tryz.underlying105 hi hz0 hz1 hz2 rfl (by decide) v2 (k + 1) ((s.take k).flatMap prC.f ++ [.int .i64 x, encStr t.con, .int .i64 t.var, .slice t.A t.args.length t.cap]) rfl O2.out (S.map (·.add (k * 4))) (s.length - k) (sc - k) ((s.drop k).flatMap prC.f) rfl (HCut.out.ext X3.out) (one_prs _) (by unfold maxLen; omega) (by omega) (by have := X3.out.size; omega) ?_
               intro v3 w4 hown3 hg3 hat3
               have X4 : Hid (Ext wr w4) := hide (Ext.app X3.out hg3 O2.out (Nat.le_refl _))
               have O3 := hide hown3
               have s3 := HS.out _ X4.out
               clear hown3 hg3 hat3)
            | (refine step_append_rowB _ rfl (.tmp 41) (.tmp 45) 105 rfl wr.heap.size 109 i0 _ 4 56 Tryz.underlying105 hi hz0 hz1 hz2 rfl (by decide) v1 k ((s.take k).flatMap prC.f) rfl (by first | exact O1.out.alloc _ | exact O1.out) (some ⟨_, 0, none⟩) 1 1 [.int .i64 x, encStr t.con, .int .i64 t.var, .slice t.A t.args.length t.cap] rfl
                 (by first | exact RowOf.block prC [⟨x, t⟩] (heap_alloc_new _ _) | exact RowOf.block prC [⟨x, t⟩] ((Hg1.out.block _ (by simp) (by simp [Value.ownBlock])).trans (at_newB _ _ _ (by simp))))
                 (by intro u hu; simp at hu; rcases hu with rfl | rfl | rfl | rfl <;> rfl) (by unfold maxLen; omega) (by omega) (Ext.size (w := wr) (by first | exact X1.out.alloc _ | exact X1.out)) ?_
               intro v2 w3 hown2 hg2 hat2
               have X3 : Hid (Ext wr w3) := hide (Ext.app (w := wr) (by first | exact X1.out.alloc _ | exact X1.out) hg2 (by first | exact O1.out.alloc _ | exact O1.out) (Nat.le_refl _))
               have O2 := hide hown2
               have s2 := HS.out _ X3.out
               clear hown2 hg2 hat2))
          all_goals
            have h3 := O3.out
            rw [show k + 1 + (s.length - k) = (insP s k x t).length by have := HLen.out; omega, show (s.take k).flatMap prC.f ++ [.int .i64 x, encStr t.con, .int .i64 t.var, .slice t.A t.args.length t.cap] ++ ((s.drop k).flatMap prC.f) = (insP s k x t).flatMap prC.f from HFl.out] at h3
            obtain ⟨A', cap', rfl, hc1, hc2, hs, -⟩ := RowOf.own prC (l := insP s k x t) h3
            have Hs : Hid (PrsIn w4 A' (insP s k x t)) := hide ⟨hs, fun p hp => HTy.out w4 (XR.out.trans X4.out) p hp⟩
            have XX := hide (XR.out.trans X4.out)
            clear h3 hs O3
            go_wp2
            refine bodyPost_ret (v := .tuple #[.slice A' (insP s k x t).length cap', .int .i64 0]) (by simp [results, Tryz.results111, go_sem]) rfl ⟨⟨k, A', cap', rfl, HLb.out, Hs.out, hc1, hc2⟩, XX.out⟩

end Go.Proofs.YtpdcjjgkpbpleaaGreatDoor
