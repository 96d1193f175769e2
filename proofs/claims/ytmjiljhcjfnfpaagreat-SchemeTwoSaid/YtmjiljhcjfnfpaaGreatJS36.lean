/- Contracts of the reference of chapter 17: what stands in a variable's place, how great a type is, and what it is, with all replaced. -/
import Derived.Test.YtmjiljhcjfnfpaaGreatJS35
import Derived.RegionTactic
import Derived.Deep.RegionHeld3
/- Contracts of the reference of chapter 17: what stands in a variable's place, how great a type is, and what it is, with all replaced. -/
namespace Go.Proofs.YtmjiljhcjfnfpaaGreat
open Go.RowKit

set_option maxRecDepth 10000 in
set_option maxHeartbeats 2000000 in
theorem r_get17 (S : Option Addr) (sc : Nat) (s : List Pr) (x : Int) (w : World) (h : PrsIn w S s) (hn : s.length ≤ 9223372036854775807) :
    Calls Tryz.prog 53 #[.slice S s.length sc, .int .i64 x] w fun e w' => e = .returned (.tuple #[tyV ((putAt (vsP s) (tsP s) x).getD Ty.zero), .bool (putAt (vsP s) (tsP s) x).isSome]) ∧ Ext w w' := by
  obtain ⟨W, hW⟩ : ∃ W, W = w.alloc (.cells #[.string ⟨#[]⟩, .int .i64 0, .slice none 0 0] 25) := ⟨_, rfl⟩
  have HW := hide hW.symm
  have X0 : Hid (Ext w W) := hide (by rw [hW]; exact (Ext.refl _).alloc _)
  have B2 : Hid (W.heap[w.heap.size]? = some (.cells #[.string ⟨#[]⟩, .int .i64 0, .slice none 0 0] 25 (0, 0))) := hide (by rw [hW]; exact at_newB _ _ _ (by simp))
  have H := hide h
  have Hat := hide (fun k => @idxI_at _ _ (vsP s) x 0 k)
  have Hno := hide (idxI_no (vsP s) x 0)
  have HA : Hid (putAt (vsP s) (tsP s) x = if 0 ≤ idxI (vsP s) x then (tsP s)[(idxI (vsP s) x).toNat]? else none) := hide rfl
  generalize putAt (vsP s) (tsP s) x = R at *
  clear hW h
  unfold tyV
  go_enter Tryz.func53, Tryz.ntmps53
  go_upto_region 1 with fail
  rw [HW.out]
  clear HW
  go_wp2
  go_loopw [6] (fun i wr => ∃ j : Nat, j ≤ s.length ∧ i = .int .i64 j ∧ Hid (∀ i, i < j → ((vsP s).getD i 0 == x) = false) ∧ Hid (Ext W wr)) (fun i _ => s.length - (intOf i).toNat)
  case atStart => exact ⟨0, Nat.zero_le _, rfl, hide (fun i hi => absurd hi (by omega)), hide (Ext.refl _)⟩
  case round =>
    obtain ⟨j, hj, rfl, Hj, HX⟩ := hrel
    have C2 := hide ((HX.out.heap (lt_of_obj B2.out)).trans B2.out)
    have f0 := free_block C2.out 0
    have f1 := free_block C2.out 1
    have f2 := free_block C2.out 2
    have k0 := bytes_block C2.out 0
    have k1 := bytes_block C2.out 1
    have k2 := bytes_block C2.out 2
    have hrl := lt_of_obj C2.out
    simp only [List.getElem?_toArray, List.getElem?_cons_zero, List.getElem?_cons_succ] at k0 k1 k2
    by_cases hlt : j < s.length
    · have hlt' : (j : Int) < (s.length : Int) := by omega
      have hj0 : (0 : Int) ≤ (j : Int) := by omega
      obtain ⟨b, o, rfl, hb, q0, q1, q2, q3⟩ := prs_at (H.out.ext (X0.out.trans HX.out)).row hlt
      have Hg : Hid ((vsP s).getD j 0 = (s[j]'hlt).v) := hide (vsP_getD s hlt)
      have Hty : Hid ((tsP s)[j]? = some (s[j]'hlt).ty) := hide (by rw [List.getElem?_map, List.getElem?_eq_getElem hlt]; rfl)
      generalize s[j]'hlt = y at *
      cases hs : (y.v == x)
      · go_wp2
        go_roundw
        case rel =>
          refine ⟨j + 1, hlt, by go_num, hide (fun i hi => ?_), HX⟩
          by_cases hij : i = j
          · rw [hij, Hg.out]; exact hs
          · exact Hj.out i (by omega)
        case measure => simp [intOf]; omega
      · have hJ := Hat.out j (by simpa using hlt) Hj.out (by rw [Hg.out]; exact hs)
        have hR : R = some y.ty := by rw [HA.out, hJ, if_pos (by omega)]; simpa using Hty.out
        clear Hat Hno HA hJ
        subst hR
        have HXF : Hid (Ext w (((wr.setCell ⟨w.heap.size, 0, none⟩ (encStr y.ty.con)).setCell ⟨w.heap.size, 1, none⟩ (.int .i64 y.ty.var)).setCell ⟨w.heap.size, 2, none⟩ (.slice y.ty.A y.ty.args.length y.ty.cap))) := hide ((((X0.out.trans HX.out).setCell (by simp) _).setCell (by simp) _).setCell (by simp) _)
        go_wp2
        refine bodyPost_ret (v := .tuple #[.agg #[encStr y.ty.con, .int .i64 y.ty.var, .slice y.ty.A y.ty.args.length y.ty.cap], .bool true]) ?_ rfl ⟨rfl, HXF.out⟩
        simp [results, Tryz.f53, go_sem, k0, k1, k2]
    · have hge : ¬ (j : Int) < (s.length : Int) := by omega
      have hJ := Hno.out (fun i hi => Hj.out i (by have hi' : i < s.length := (by simpa using hi); omega))
      have hR : R = none := by rw [HA.out, hJ]; rfl
      clear Hat Hno HA hJ
      subst hR
      have HXF : Hid (Ext w (((wr.setCell ⟨w.heap.size, 0, none⟩ (.string ⟨#[]⟩)).setCell ⟨w.heap.size, 1, none⟩ (.int .i64 0)).setCell ⟨w.heap.size, 2, none⟩ (.slice none 0 0))) := hide ((((X0.out.trans HX.out).setCell (by simp) _).setCell (by simp) _).setCell (by simp) _)
      go_wp2
      refine bodyPost_ret (v := .tuple #[.agg #[.string ⟨#[]⟩, .int .i64 0, .slice none 0 0], .bool false]) ?_ rfl ⟨rfl, HXF.out⟩
      simp [results, Tryz.f53, go_sem, k0, k1, k2]

theorem putAt_ty {w : World} {S : Option Addr} {s : List Pr} (h : PrsIn w S s) {x : Int} {u : Ty} (e : putAt (vsP s) (tsP s) x = some u) : TyIn w u := by
  obtain ⟨p, hp, rfl⟩ := List.mem_map.1 (putAt_mem e)
  exact h.ty p hp
theorem PrsIn.tys {w : World} {S : Option Addr} {s : List Pr} (h : PrsIn w S s) : ∀ k ∈ tsP s, TyIn w k := fun k hk => by
  obtain ⟨p, hp, rfl⟩ := List.mem_map.1 hk
  exact h.ty p hp


end Go.Proofs.YtmjiljhcjfnfpaaGreat

/- Contract of the reference of chapter 17: with a type for a variable. (A program of ours has printed this.) -/
namespace Go.Proofs.YtmjiljhcjfnfpaaGreat
open Go.RowKit

set_option maxRecDepth 10000 in
set_option maxHeartbeats 4000000 in
theorem r_set17 (S : Option Addr) (sc : Nat) (s : List Pr) (x : Int) (t : Ty) (w : World) (h : PrsIn w S s) (hle : s.length ≤ sc) (hmx : sc ≤ 9223372036854775807) (hr : RiseP s) (ht : TyIn w t) (hsz : t.size ≤ 900000) (hl : legalT t = true) (hf : s.length ≤ 100000) (hno : putAt (vsP s) (tsP s) x = none) :
    Calls Tryz.prog 30 #[.slice S s.length sc, .int .i64 x, tyV t] w fun e w' => (∃ i A cap, e = .returned (.tuple #[.slice A (insP s i x t).length cap, .int .i64 0]) ∧ LbP s x i ∧ PrsIn w' A (insP s i x t) ∧ (insP s i x t).length ≤ cap ∧ cap ≤ 9223372036854775807) ∧ Ext w w' := by
  obtain ⟨i0, hi, hz0, hz1, hz2⟩ := info_parts pair_info
  obtain ⟨W, hW⟩ : ∃ W, W = w.alloc (.cells #[encStr t.con, .int .i64 t.var, .slice t.A t.args.length t.cap] 25) := ⟨_, rfl⟩
  have HW := hide hW.symm
  have X0 : Hid (Ext w W) := hide (by rw [hW]; exact (Ext.refl _).alloc _)
  have B1 : Hid (TBox W w.heap.size t) := hide (by rw [hW]; exact TBox.new w t)
  have H := hide h
  have HT := hide ht
  have HRi := hide hr
  have hale := ht.le
  have hamx := ht.max
  have HLg := hide (r_legal16 t W (ht.ext X0.out) hsz)
  rw [hl] at HLg
  have HGt := hide (fun w' (e : Ext w w') => r_get17 S sc s x w' (h.ext e) (by omega))
  rw [hno] at HGt
  have HNo := hide ((putAt_no hr).1 hno)
  have c0 := B1.out.c0
  have c1 := B1.out.c1
  have c2 := B1.out.c2
  have hbl := B1.out.lt
  clear hW h ht hr hl hno hsz
  unfold tyV at *
  go_enter Tryz.func30, Tryz.ntmps30
  go_upto_region 1 with fail
  rw [HW.out]
  clear HW
  go_wp2_with fail
  refine HLg.out.mono ?_
  rintro e w2 ⟨rfl, hx⟩
  have X2 := hide (X0.out.trans hx)
  have Y2 := hide hx
  clear hx HLg c0 c1 c2 hbl
  have HG2 := hide (HGt.out w2 X2.out)
  clear HGt
  simp only [Option.getD_none, Option.isSome_none] at HG2
  go_wp2_with fail
  refine HG2.out.mono ?_
  rintro e w3 ⟨rfl, hx⟩
  obtain ⟨W4, hW4⟩ : ∃ W4, W4 = w3.alloc (.cells #[encStr Ty.zero.con, .int .i64 Ty.zero.var, .slice Ty.zero.A Ty.zero.args.length Ty.zero.cap] 25) := ⟨_, rfl⟩
  have X34 : Hid (Ext w3 W4) := hide (by rw [hW4]; exact (Ext.refl _).alloc _)
  have X4 := hide (X2.out.trans (hx.trans X34.out))
  have Y4 := hide (Y2.out.trans (hx.trans X34.out))
  clear hx HG2
  go_upto_region 4 with fail
  rw [← hW4]
  clear hW4
  go_wp2
  go_loopw [10] (fun i wr => ∃ k : Nat, k ≤ s.length ∧ i = .int .i64 k ∧ Hid (∀ j (h : j < s.length), j < k → (s[j]'h).v < x) ∧ Hid (Ext W4 wr)) (fun i _ => s.length - (intOf i).toNat)
  case atStart => exact ⟨0, Nat.zero_le _, rfl, hide (fun j _ hj => absurd hj (by omega)), hide (Ext.refl _)⟩
  case round =>
    obtain ⟨k, hk, rfl, HJ, HX⟩ := hrel
    have XR := hide (X4.out.trans HX.out)
    by_cases hgo : ∃ hlt : k < s.length, (s[k]'hlt).v < x
    · obtain ⟨hlt, hv⟩ := hgo
      have hlt' : (k : Int) < (s.length : Int) := by omega
      have hk0 : (0 : Int) ≤ (k : Int) := by omega
      obtain ⟨b, o, rfl, hb, q0, q1, q2, q3⟩ := prs_at (H.out.ext XR.out).row hlt
      have HJ2 : Hid (∀ j (h : j < s.length), j < k + 1 → (s[j]'h).v < x) := hide (fun j hj hjk => by
        by_cases e : j = k
        · subst e; exact hv
        · exact HJ.out j hj (by omega))
      generalize s[k]'hlt = y at *
      go_wp2
      go_roundw
      case rel => exact ⟨k + 1, hlt, by go_num, HJ2, HX⟩
      case measure => simp [intOf]; omega
    · have HLb : Hid (LbP s x k) := hide ⟨hk, fun j hj hjk => HJ.out j hj hjk, fun j hj hkj => by
        have h1 : k < s.length := by omega
        have h2 : ¬ (s[k]'h1).v < x := fun h => hgo ⟨h1, h⟩
        rcases Nat.lt_or_ge k j with h3 | h3
        · have := rise_lt HRi.out h3 hj; omega
        · have : j = k := by omega
          subst this
          omega⟩
      have HTake : Hid (Row wr S 4 k ((s.take k).flatMap prC.f)) := hide (by
        have := RowOf.take prC (H.out.ext XR.out).row hk
        unfold RowOf at this
        rwa [List.length_take, Nat.min_eq_left hk] at this)
      have HLen : Hid ((insP s k x t).length = s.length + 1) := hide (insP_len hk)
      have HTy : Hid (∀ w', Ext w w' → ∀ p ∈ insP s k x t, TyIn w' p.ty) := hide (fun w' e p hp => by
        rcases insP_mem.1 hp with rfl | hp
        · exact HT.out.ext e
        · exact (H.out.ty p hp).ext e)
      have HS : Hid (∀ w', Ext wr w' → w'.cell? ⟨w.heap.size, 0, none⟩ = some (encStr t.con) ∧ w'.cell? ⟨w.heap.size, 1, none⟩ = some (.int .i64 t.var) ∧ w'.cell? ⟨w.heap.size, 2, none⟩ = some (.slice t.A t.args.length t.cap)) := hide (fun w' e => by
        have := B1.out.ext (Y4.out.trans (HX.out.trans e))
        exact ⟨this.c0, this.c1, this.c2⟩)
      have hk1 : (k : Int) ≤ (s.length : Int) := by omega
      have hk2 : (k : Int) ≤ (sc : Int) := by omega
      have hk3 : (s.length : Int) ≤ (sc : Int) := by omega
      have hk4 : (0 : Int) ≤ (k : Int) := by omega
      obtain ⟨s0, s1', s2'⟩ := HS.out wr (Ext.refl _)
      have hbr : w.heap.size < wr.heap.size := (B1.out.ext (Y4.out.trans HX.out)).lt
      by_cases hck : sc = k
      · have hks : k = s.length := by omega
        have HFl : Hid ((s.take k).flatMap prC.f ++ [.int .i64 x, encStr t.con, .int .i64 t.var, .slice t.A t.args.length t.cap] ++ [] = (insP s k x t).flatMap prC.f) := hide (by
          unfold insP
          rw [List.flatMap_append, List.flatMap_cons, List.drop_eq_nil_of_le (by omega), List.flatMap_nil, List.append_nil, List.append_nil]
          rfl)
        have hns : ¬ (k : Int) < (s.length : Int) := by omega
        subst hks
        subst hck
        go_wp2
        go_region_held3 (fun w' => w'.cell? ⟨w.heap.size, 0, none⟩ = some (encStr t.con) ∧ w'.cell? ⟨w.heap.size, 1, none⟩ = some (.int .i64 t.var) ∧ w'.cell? ⟨w.heap.size, 2, none⟩ = some (.slice t.A t.args.length t.cap)) (first | assumption | go_keep) (first
          | (refine step_append_rowB _ rfl (.const (.slice none 0 0)) (.tmp 40) 50 rfl wr.heap.size 83 i0 _ 4 56 Tryz.underlying50 hi hz0 hz1 hz2 rfl (by decide) (.slice none 0 0) 0 [] rfl (World.ownsRow_nil _ _ _ _) S s.length s.length ((s.take s.length).flatMap prC.f) rfl (Row.ext HTake.out (w := wr) (by repeat (first | exact Ext.refl _ | exact Ext.pre (by simp) | exact Ext.alloc (by assumption) _ | refine Ext.alloc ?_ _ |  refine Ext.more ?_ _ _ | refine Ext.drew ?_ | refine Ext.drewN ?_ _))) (one_prs _) (by unfold maxLen; omega) (by omega) (Ext.size (w := wr) (by repeat (first | exact Ext.refl _ | exact Ext.pre (by simp) | exact Ext.alloc (by assumption) _ | refine Ext.alloc ?_ _ |  refine Ext.more ?_ _ _ | refine Ext.drew ?_ | refine Ext.drewN ?_ _))) ?_
             intro v1 w2 hown1 hg1 hat1
             have X1 : Hid (Ext wr w2) := hide (Ext.app (w := wr) (by repeat (first | exact Ext.refl _ | exact Ext.pre (by simp) | exact Ext.alloc (by assumption) _ | refine Ext.alloc ?_ _ |  refine Ext.more ?_ _ _ | refine Ext.drew ?_ | refine Ext.drewN ?_ _)) hg1 (World.ownsRow_nil _ wr.heap.size 83 4) (Nat.le_refl _))
             have Hg1 := hide hg1
             rw [Nat.zero_add, List.nil_append] at hown1
             have O1 := hide hown1
             have s1 := HS.out _ X1.out
             clear hown1 hg1 hat1)
          | (refine step_append_rowB _ rfl (.tmp 46) (.tmp 49) 50 rfl wr.heap.size 83 i0 _ 4 56 Tryz.underlying50 hi hz0 hz1 hz2 rfl (by decide) v2 (s.length + 1) ((s.take s.length).flatMap prC.f ++ [.int .i64 x, encStr t.con, .int .i64 t.var, .slice t.A t.args.length t.cap]) rfl O2.out S 0 0 [] rfl (RowOf.nil prC _ _) (by simp) (by unfold maxLen; omega) (by omega) (by have := X3.out.size; omega) ?_
             intro v3 w4 hown3 hg3 hat3
             have X4 : Hid (Ext wr w4) := hide (Ext.app X3.out hg3 O2.out (Nat.le_refl _))
             have O3 := hide hown3
             have s3 := HS.out _ X4.out
             clear hown3 hg3 hat3)
          | (refine step_append_rowB _ rfl (.tmp 41) (.tmp 45) 50 rfl wr.heap.size 83 i0 _ 4 56 Tryz.underlying50 hi hz0 hz1 hz2 rfl (by decide) v1 s.length ((s.take s.length).flatMap prC.f) rfl (by first | exact O1.out.alloc _ | exact O1.out) (some ⟨_, 0, none⟩) 1 1 [.int .i64 x, encStr t.con, .int .i64 t.var, .slice t.A t.args.length t.cap] rfl
               (by first | exact RowOf.block prC [⟨x, t⟩] (heap_alloc_new _ _) | exact RowOf.block prC [⟨x, t⟩] ((Hg1.out.block _ (by simp) (by simp [Value.ownBlock])).trans (at_newB _ _ _ (by simp))))
               (by intro u hu; simp at hu; rcases hu with rfl | rfl | rfl | rfl <;> rfl) (by unfold maxLen; omega) (by omega) (Ext.size (w := wr) (by first | exact X1.out.alloc _ | exact X1.out)) ?_
             intro v2 w3 hown2 hg2 hat2
             have X3 : Hid (Ext wr w3) := hide (Ext.app (w := wr) (by first | exact X1.out.alloc _ | exact X1.out) hg2 (by first | exact O1.out.alloc _ | exact O1.out) (Nat.le_refl _))
             have O2 := hide hown2
             have s2 := HS.out _ X3.out
             clear hown2 hg2 hat2))
        all_goals
          have h3 := O3.out
          rw [show s.length + 1 + 0 = (insP s s.length x t).length by have := HLen.out; omega, show (s.take s.length).flatMap prC.f ++ [.int .i64 x, encStr t.con, .int .i64 t.var, .slice t.A t.args.length t.cap] ++ [] = (insP s s.length x t).flatMap prC.f from HFl.out] at h3
          obtain ⟨A', cap', rfl, hc1, hc2, hs, -⟩ := RowOf.own prC (l := insP s s.length x t) h3
          have Hs : Hid (PrsIn w4 A' (insP s s.length x t)) := hide ⟨hs, fun p hp => HTy.out w4 (XR.out.trans X4.out) p hp⟩
          have XX := hide (XR.out.trans X4.out)
          clear h3 hs O3
          go_wp2
          refine bodyPost_ret (v := .tuple #[.slice A' (insP s s.length x t).length cap', .int .i64 0]) (by simp [results, Tryz.results30, go_sem]) rfl ⟨⟨s.length, A', cap', rfl, HLb.out, Hs.out, hc1, hc2⟩, XX.out⟩
      · have HFl : Hid ((s.take k).flatMap prC.f ++ [.int .i64 x, encStr t.con, .int .i64 t.var, .slice t.A t.args.length t.cap] ++ (s.drop k).flatMap prC.f = (insP s k x t).flatMap prC.f) := hide (by
          unfold insP
          rw [List.flatMap_append, List.flatMap_cons, List.append_assoc]
          rfl)
        have HCut : Hid (Row wr (S.map (·.add (k * 4))) 4 (s.length - k) ((s.drop k).flatMap prC.f)) := hide (by
          have := RowOf.cut prC (H.out.ext XR.out).row hk hle
          rw [if_neg hck] at this
          unfold RowOf at this
          rwa [List.length_drop] at this)
        by_cases hlt : k < s.length
        · have hlt' : (k : Int) < (s.length : Int) := by omega
          have hv : ¬ (s[k]'hlt).v < x := fun h => hgo ⟨hlt, h⟩
          obtain ⟨b, o, hA, hb, q0, q1, q2, q3⟩ := prs_at (H.out.ext XR.out).row hlt
          generalize s[k]'hlt = y at *
          subst hA
          have HCut2 : Hid (Row wr (some ⟨b, o + k * 4, none⟩) 4 (s.length - k) ((s.drop k).flatMap prC.f)) := hide (by
            have h1 := HCut.out
            have h2 : Option.map (·.add (k * 4)) (some (⟨b, o, none⟩ : Addr)) = some ⟨b, o + k * 4, none⟩ := by
              by_cases h0 : k * 4 = 0
              · rw [h0]; rfl
              · show some (Addr.add _ _) = _
                unfold Addr.add
                rw [if_neg h0]
            rwa [h2] at h1)
          clear HCut
          go_wp2
          go_region_held3 (fun w' => w'.cell? ⟨w.heap.size, 0, none⟩ = some (encStr t.con) ∧ w'.cell? ⟨w.heap.size, 1, none⟩ = some (.int .i64 t.var) ∧ w'.cell? ⟨w.heap.size, 2, none⟩ = some (.slice t.A t.args.length t.cap)) (first | assumption | go_keep) (first
            | (refine step_append_rowB _ rfl (.const (.slice none 0 0)) (.tmp 40) 50 rfl wr.heap.size 83 i0 _ 4 56 Tryz.underlying50 hi hz0 hz1 hz2 rfl (by decide) (.slice none 0 0) 0 [] rfl (World.ownsRow_nil _ _ _ _) (some ⟨b, o, none⟩) k sc ((s.take k).flatMap prC.f) rfl (Row.ext HTake.out (w := wr) (by repeat (first | exact Ext.refl _ | exact Ext.pre (by simp) | exact Ext.alloc (by assumption) _ | refine Ext.alloc ?_ _ |  refine Ext.more ?_ _ _ | refine Ext.drew ?_ | refine Ext.drewN ?_ _))) (one_prs _) (by unfold maxLen; omega) (by omega) (Ext.size (w := wr) (by repeat (first | exact Ext.refl _ | exact Ext.pre (by simp) | exact Ext.alloc (by assumption) _ | refine Ext.alloc ?_ _ |  refine Ext.more ?_ _ _ | refine Ext.drew ?_ | refine Ext.drewN ?_ _))) ?_
               intro v1 w2 hown1 hg1 hat1
               have X1 : Hid (Ext wr w2) := hide (Ext.app (w := wr) (by repeat (first | exact Ext.refl _ | exact Ext.pre (by simp) | exact Ext.alloc (by assumption) _ | refine Ext.alloc ?_ _ |  refine Ext.more ?_ _ _ | refine Ext.drew ?_ | refine Ext.drewN ?_ _)) hg1 (World.ownsRow_nil _ wr.heap.size 83 4) (Nat.le_refl _))
               have Hg1 := hide hg1
               rw [Nat.zero_add, List.nil_append] at hown1
               have O1 := hide hown1
               have s1 := HS.out _ X1.out
               clear hown1 hg1 hat1)
            | (refine step_append_rowB _ rfl (.tmp 46) (.tmp 49) 50 rfl wr.heap.size 83 i0 _ 4 56 Tryz.underlying50 hi hz0 hz1 hz2 rfl (by decide) v2 (k + 1) ((s.take k).flatMap prC.f ++ [.int .i64 x, encStr t.con, .int .i64 t.var, .slice t.A t.args.length t.cap]) rfl O2.out (some ⟨b, o + k * 4, none⟩) (s.length - k) (sc - k) ((s.drop k).flatMap prC.f) rfl (HCut2.out.ext X3.out) (one_prs _) (by unfold maxLen; omega) (by omega) (by have := X3.out.size; omega) ?_
               intro v3 w4 hown3 hg3 hat3
               have X4 : Hid (Ext wr w4) := hide (Ext.app X3.out hg3 O2.out (Nat.le_refl _))
               have O3 := hide hown3
               have s3 := HS.out _ X4.out
               clear hown3 hg3 hat3)
            | (refine step_append_rowB _ rfl (.tmp 41) (.tmp 45) 50 rfl wr.heap.size 83 i0 _ 4 56 Tryz.underlying50 hi hz0 hz1 hz2 rfl (by decide) v1 k ((s.take k).flatMap prC.f) rfl (by first | exact O1.out.alloc _ | exact O1.out) (some ⟨_, 0, none⟩) 1 1 [.int .i64 x, encStr t.con, .int .i64 t.var, .slice t.A t.args.length t.cap] rfl
                 (by first | exact RowOf.block prC [⟨x, t⟩] (heap_alloc_new _ _) | exact RowOf.block prC [⟨x, t⟩] ((Hg1.out.block _ (by simp) (by simp [Value.ownBlock])).trans (at_newB _ _ _ (by simp))))
                 (by intro u hu; simp at hu; rcases hu with rfl | rfl | rfl | rfl <;> rfl) (by unfold maxLen; omega) (by omega) (Ext.size (w := wr) (by first | exact X1.out.alloc _ | exact X1.out)) ?_
               intro v2 w3 hown2 hg2 hat2
               have X3 : Hid (Ext wr w3) := hide (Ext.app (w := wr) (by first | exact X1.out.alloc _ | exact X1.out) hg2 (by first | exact O1.out.alloc _ | exact O1.out) (Nat.le_refl _))
               have O2 := hide hown2
               have s2 := HS.out _ X3.out
               clear hown2 hg2 hat2))
          all_goals
            have h3 := O3.out
            rw [show k + 1 + (s.length - k) = (insP s k x t).length by have := HLen.out; omega, show (s.take k).flatMap prC.f ++ [.int .i64 x, encStr t.con, .int .i64 t.var, .slice t.A t.args.length t.cap] ++ ((s.drop k).flatMap prC.f) = (insP s k x t).flatMap prC.f from HFl.out] at h3
            obtain ⟨A', cap', rfl, hc1, hc2, hs, -⟩ := RowOf.own prC (l := insP s k x t) h3
            have Hs : Hid (PrsIn w4 A' (insP s k x t)) := hide ⟨hs, fun p hp => HTy.out w4 (XR.out.trans X4.out) p hp⟩
            have XX := hide (XR.out.trans X4.out)
            clear h3 hs O3
            go_wp2
            refine bodyPost_ret (v := .tuple #[.slice A' (insP s k x t).length cap', .int .i64 0]) (by simp [results, Tryz.results30, go_sem]) rfl ⟨⟨k, A', cap', rfl, HLb.out, Hs.out, hc1, hc2⟩, XX.out⟩
        · have hns : ¬ (k : Int) < (s.length : Int) := by omega
          go_wp2
          go_region_held3 (fun w' => w'.cell? ⟨w.heap.size, 0, none⟩ = some (encStr t.con) ∧ w'.cell? ⟨w.heap.size, 1, none⟩ = some (.int .i64 t.var) ∧ w'.cell? ⟨w.heap.size, 2, none⟩ = some (.slice t.A t.args.length t.cap)) (first | assumption | go_keep) (first
            | (refine step_append_rowB _ rfl (.const (.slice none 0 0)) (.tmp 40) 50 rfl wr.heap.size 83 i0 _ 4 56 Tryz.underlying50 hi hz0 hz1 hz2 rfl (by decide) (.slice none 0 0) 0 [] rfl (World.ownsRow_nil _ _ _ _) S k sc ((s.take k).flatMap prC.f) rfl (Row.ext HTake.out (w := wr) (by repeat (first | exact Ext.refl _ | exact Ext.pre (by simp) | exact Ext.alloc (by assumption) _ | refine Ext.alloc ?_ _ |  refine Ext.more ?_ _ _ | refine Ext.drew ?_ | refine Ext.drewN ?_ _))) (one_prs _) (by unfold maxLen; omega) (by omega) (Ext.size (w := wr) (by repeat (first | exact Ext.refl _ | exact Ext.pre (by simp) | exact Ext.alloc (by assumption) _ | refine Ext.alloc ?_ _ |  refine Ext.more ?_ _ _ | refine Ext.drew ?_ | refine Ext.drewN ?_ _))) ?_
               intro v1 w2 hown1 hg1 hat1
               have X1 : Hid (Ext wr w2) := hide (Ext.app (w := wr) (by repeat (first | exact Ext.refl _ | exact Ext.pre (by simp) | exact Ext.alloc (by assumption) _ | refine Ext.alloc ?_ _ |  refine Ext.more ?_ _ _ | refine Ext.drew ?_ | refine Ext.drewN ?_ _)) hg1 (World.ownsRow_nil _ wr.heap.size 83 4) (Nat.le_refl _))
               have Hg1 := hide hg1
               rw [Nat.zero_add, List.nil_append] at hown1
               have O1 := hide hown1
               have s1 := HS.out _ X1.out
               clear hown1 hg1 hat1)
            | (refine step_append_rowB _ rfl (.tmp 46) (.tmp 49) 50 rfl wr.heap.size 83 i0 _ 4 56 Tryz.underlying50 hi hz0 hz1 hz2 rfl (by decide) v2 (k + 1) ((s.take k).flatMap prC.f ++ [.int .i64 x, encStr t.con, .int .i64 t.var, .slice t.A t.args.length t.cap]) rfl O2.out (S.map (·.add (k * 4))) (s.length - k) (sc - k) ((s.drop k).flatMap prC.f) rfl (HCut.out.ext X3.out) (one_prs _) (by unfold maxLen; omega) (by omega) (by have := X3.out.size; omega) ?_
               intro v3 w4 hown3 hg3 hat3
               have X4 : Hid (Ext wr w4) := hide (Ext.app X3.out hg3 O2.out (Nat.le_refl _))
               have O3 := hide hown3
               have s3 := HS.out _ X4.out
               clear hown3 hg3 hat3)
            | (refine step_append_rowB _ rfl (.tmp 41) (.tmp 45) 50 rfl wr.heap.size 83 i0 _ 4 56 Tryz.underlying50 hi hz0 hz1 hz2 rfl (by decide) v1 k ((s.take k).flatMap prC.f) rfl (by first | exact O1.out.alloc _ | exact O1.out) (some ⟨_, 0, none⟩) 1 1 [.int .i64 x, encStr t.con, .int .i64 t.var, .slice t.A t.args.length t.cap] rfl
                 (by first | exact RowOf.block prC [⟨x, t⟩] (heap_alloc_new _ _) | exact RowOf.block prC [⟨x, t⟩] ((Hg1.out.block _ (by simp) (by simp [Value.ownBlock])).trans (at_newB _ _ _ (by simp))))
                 (by intro u hu; simp at hu; rcases hu with rfl | rfl | rfl | rfl <;> rfl) (by unfold maxLen; omega) (by omega) (Ext.size (w := wr) (by first | exact X1.out.alloc _ | exact X1.out)) ?_
               intro v2 w3 hown2 hg2 hat2
               have X3 : Hid (Ext wr w3) := hide (Ext.app (w := wr) (by first | exact X1.out.alloc _ | exact X1.out) hg2 (by first | exact O1.out.alloc _ | exact O1.out) (Nat.le_refl _))
               have O2 := hide hown2
               have s2 := HS.out _ X3.out
               clear hown2 hg2 hat2))
          all_goals
            have h3 := O3.out
            rw [show k + 1 + (s.length - k) = (insP s k x t).length by have := HLen.out; omega, show (s.take k).flatMap prC.f ++ [.int .i64 x, encStr t.con, .int .i64 t.var, .slice t.A t.args.length t.cap] ++ ((s.drop k).flatMap prC.f) = (insP s k x t).flatMap prC.f from HFl.out] at h3
            obtain ⟨A', cap', rfl, hc1, hc2, hs, -⟩ := RowOf.own prC (l := insP s k x t) h3
            have Hs : Hid (PrsIn w4 A' (insP s k x t)) := hide ⟨hs, fun p hp => HTy.out w4 (XR.out.trans X4.out) p hp⟩
            have XX := hide (XR.out.trans X4.out)
            clear h3 hs O3
            go_wp2
            refine bodyPost_ret (v := .tuple #[.slice A' (insP s k x t).length cap', .int .i64 0]) (by simp [results, Tryz.results30, go_sem]) rfl ⟨⟨k, A', cap', rfl, HLb.out, Hs.out, hc1, hc2⟩, XX.out⟩

end Go.Proofs.YtmjiljhcjfnfpaaGreat

/- Contract: whether two types are the same, of the reference. -/
namespace Go.Proofs.YtmjiljhcjfnfpaaGreat
open Go.RowKit

set_option maxRecDepth 10000 in
set_option maxHeartbeats 2000000 in
theorem r_same16 (a : Ty) : ∀ (b : Ty) (w : World), TyIn w a → TyIn w b → Calls Tryz.prog 54 #[tyV a, tyV b] w fun e w' => e = .returned (.bool (sameB a b)) ∧ Ext w w' := by
  induction a using Ty.ind with
  | h a ih =>
  intro b w ha hb
  have IH := hide ih
  have HKa := hide ha.all
  have HKb := hide hb.all
  have hla := ha.le
  have hma := ha.max
  have hlb := hb.le
  have hmb := hb.max
  obtain ⟨W, hW⟩ : ∃ W, W = (w.alloc (.cells #[encStr a.con, .int .i64 a.var, .slice a.A a.args.length a.cap] 25)).alloc (.cells #[encStr b.con, .int .i64 b.var, .slice b.A b.args.length b.cap] 25) := ⟨_, rfl⟩
  have X0 : Hid (Ext w W) := hide (by rw [hW]; exact ((Ext.refl _).alloc _).alloc _)
  have B1 : Hid (TBox W w.heap.size a) := hide (by rw [hW]; exact (TBox.new w a).ext ((Ext.refl _).alloc _))
  have B2 : Hid (TBox W (w.heap.size + 1) b) := hide (by rw [hW]; have := TBox.new (w.alloc (.cells #[encStr a.con, .int .i64 a.var, .slice a.A a.args.length a.cap] 25)) b; rwa [World.size_alloc] at this)
  have HP := hide (sameB_parts a b)
  clear ih ha hb
  unfold tyV at *
  have c0 := B1.out.c0
  have c1 := B1.out.c1
  have c2 := B1.out.c2
  have d0 := B2.out.c0
  have d1 := B2.out.c1
  have d2 := B2.out.c2
  have key : ∀ c, headB a b = c → (c = false → sameB a b = false) := fun c h e => by subst e; rw [HP.out]; unfold headB at h; rw [h]; rfl
  cases hc : (a.con == b.con)
  · have hR : sameB a b = false := key _ (by unfold headB; simp at hc; simp [hc]) rfl
    rw [hR]
    clear hR key HP
    go_enter Tryz.func54, Tryz.ntmps54
    go_wp2
    rw [← hW]
    clear hW
    go_ret
    exact ⟨rfl, X0.out⟩
  cases hv : (a.var == b.var)
  · have hR : sameB a b = false := key _ (by unfold headB; simp at hv; simp [hv]) rfl
    rw [hR]
    clear hR key HP
    go_enter Tryz.func54, Tryz.ntmps54
    go_wp2
    rw [← hW]
    clear hW
    go_ret
    exact ⟨rfl, X0.out⟩
  have hve : a.var = b.var := by simpa using hv
  cases hl : ((a.args.length : Int) == (b.args.length : Int))
  · have hR : sameB a b = false := key _ (by unfold headB; simp at hl; simp [show ¬ a.args.length = b.args.length by omega]) rfl
    rw [hR]
    clear hR key HP
    clear hv
    rw [← hve] at hW d1 ⊢
    clear hve
    go_enter Tryz.func54, Tryz.ntmps54
    go_wp2
    rw [← hW]
    clear hW
    go_ret
    exact ⟨rfl, X0.out⟩
  have HL : Hid (a.args.length = b.args.length) := hide (by simp at hl; omega)
  have HR : Hid (sameB a b = (a.args.zip b.args).all fun p => sameB p.1 p.2) := hide (by rw [HP.out]; simp at hc hv; simp [hc, hv, HL.out])
  clear key hv hl HP
  generalize sameB a b = R at *
  rw [← hve] at hW d1 ⊢
  rw [← HL.out] at hW d2 ⊢
  clear hve
  go_enter Tryz.func54, Tryz.ntmps54
  go_wp2
  rw [← hW]
  clear hW
  have O1 : Hid (∀ p ∈ (a.args.zip b.args).take 0, sameB p.1 p.2 = true) := hide (by simp)
  have X3' := hide (Ext.refl W)
  go_wp2
  go_loopw [5] (fun i wr => ∃ k : Nat, k ≤ a.args.length ∧ i = .int .i64 k ∧ Hid (∀ p ∈ (a.args.zip b.args).take k, sameB p.1 p.2 = true) ∧ Hid (Ext W wr)) (fun i _ => a.args.length - (intOf i).toNat)
  case atStart => exact ⟨0, Nat.zero_le _, rfl, O1, X3'⟩
  case round =>
    obtain ⟨k, hk, rfl, HA, HX⟩ := hrel
    have C1 := B1.out.ext HX.out
    have C2 := B2.out.ext HX.out
    have c0 := C1.c0
    have c1 := C1.c1
    have c2 := C1.c2
    have d0 := C2.c0
    have d1 := C2.c1
    have d2 := C2.c2
    clear C1 C2
    by_cases hlt : k < a.args.length
    · have hltb : k < b.args.length := by rw [← HL.out]; exact hlt
      have hlt' : (k : Int) < (a.args.length : Int) := by omega
      have hltb' : (k : Int) < (b.args.length : Int) := by omega
      have hk0 : (0 : Int) ≤ (k : Int) := by omega
      have XR := hide (HX.out)
      obtain ⟨p, o, hAa, hp, q0, q1, q2⟩ := (HKa.out.ext (X0.out.trans XR.out)).at_ hlt
      obtain ⟨p', o', hAb, hp', r0, r1, r2⟩ := (HKb.out.ext (X0.out.trans XR.out)).at_ hltb
      have HC := hide (fun w' (e : Ext wr w') => hide (IH.out _ (List.getElem_mem hlt) (b.args[k]'hltb) w' ((HKa.out.args _ (List.getElem_mem hlt)).ext (X0.out.trans (XR.out.trans e))) ((HKb.out.args _ (List.getElem_mem hltb)).ext (X0.out.trans (XR.out.trans e)))))
      have Htk : Hid ((a.args.zip b.args).take (k + 1) = (a.args.zip b.args).take k ++ [(a.args[k]'hlt, b.args[k]'hltb)]) := hide (by
        rw [List.take_succ_eq_append_getElem (by rw [List.length_zip]; omega), List.getElem_zip])
      have Hmem : Hid ((a.args[k]'hlt, b.args[k]'hltb) ∈ a.args.zip b.args) := hide (by rw [List.mem_iff_getElem]; exact ⟨k, by rw [List.length_zip]; omega, List.getElem_zip⟩)
      rw [hAa] at c2
      rw [hAb, ← HL.out] at d2
      clear hAa hAb
      have HSa := hide (fun w' (e : Ext wr w') => And.intro (e.cell c2) (And.intro (e.cell d2) (And.intro (e.cell q0) (And.intro (e.cell q1) (And.intro (e.cell q2) (And.intro (e.cell r0) (And.intro (e.cell r1) (e.cell r2))))))))
      generalize a.args[k]'hlt = x at *
      generalize b.args[k]'hltb = y at *
      go_wp2
      go_region_held3 (fun w' => w'.cell? ⟨w.heap.size, 2, none⟩ = some (.slice (some ⟨p, o, none⟩) a.args.length a.cap) ∧ w'.cell? ⟨w.heap.size + 1, 2, none⟩ = some (.slice (some ⟨p', o', none⟩) a.args.length b.cap) ∧ w'.cell? ⟨p, o + k * 3, none⟩ = some (.string ⟨x.con.toArray⟩) ∧ w'.cell? ⟨p, o + k * 3 + 1, none⟩ = some (.int .i64 x.var) ∧ w'.cell? ⟨p, o + k * 3 + 2, none⟩ = some (.slice x.A x.args.length x.cap) ∧ w'.cell? ⟨p', o' + k * 3, none⟩ = some (.string ⟨y.con.toArray⟩) ∧ w'.cell? ⟨p', o' + k * 3 + 1, none⟩ = some (.int .i64 y.var) ∧ w'.cell? ⟨p', o' + k * 3 + 2, none⟩ = some (.slice y.A y.args.length y.cap)) (first | assumption | go_keep) (first
        | (go_at_call 54
           refine Calls.mono (HC.out _ ((Ext.refl _).drew)).out ?_
           rintro e w5 ⟨rfl, hx5⟩
           have X5 := hide (HX.out.trans (((Ext.refl wr).drew).trans hx5))
           have k5 := HSa.out _ (((Ext.refl wr).drew).trans hx5)
           clear hx5))
      clear k5
      cases hs : sameB x y
      · have hR : R = false := by
          rw [HR.out, ← Bool.not_eq_true, List.all_eq_true]
          intro h
          have := h _ Hmem.out
          rw [hs] at this
          cases this
        clear HR
        subst hR
        go_wp2
        go_ret
        exact ⟨rfl, X0.out.trans (X5.out)⟩
      · go_wp2
        go_roundw
        case rel =>
          refine ⟨k + 1, hlt, by go_num, hide (fun p hp => ?_), X5⟩
          rw [Htk.out, List.mem_append, List.mem_singleton] at hp
          rcases hp with hp | rfl
          · exact HA.out p hp
          · exact hs
        case measure => simp [intOf]; omega
    · have hge : ¬ (k : Int) < (a.args.length : Int) := by omega
      have hR : R = true := by
        rw [HR.out, List.all_eq_true]
        intro p hp
        exact HA.out p (by rw [List.take_of_length_le (by rw [List.length_zip]; omega)]; exact hp)
      clear HR
      subst hR
      go_wp2
      go_ret
      exact ⟨rfl, X0.out.trans (HX.out)⟩

end Go.Proofs.YtmjiljhcjfnfpaaGreat

/- Contract of the reference of chapter 19: a pattern is a type, behind what is known. -/
namespace Go.Proofs.YtmjiljhcjfnfpaaGreat
open Go.RowKit

theorem legal_arg {t k : Ty} (h : legalT t = true) (hk : k ∈ t.args) : legalT k = true := by
  obtain ⟨h1, h2, h3⟩ := legal_parts h
  have a1 := Ty.size_arg hk
  have a2 : k.depth ≤ t.depth := by
    rw [Ty.depth_eq t]
    have : ∀ l : List Ty, k ∈ l → k.depth ≤ (l.map Ty.depth).foldr max 0 := by
      intro l
      induction l with
      | nil => intro h; cases h
      | cons x l ih =>
        intro h
        rw [List.map_cons, List.foldr_cons]
        rcases List.mem_cons.1 h with rfl | h
        · omega
        · have := ih h; omega
    have := this _ hk
    omega
  rw [shapeT_eq, Bool.and_eq_true, List.all_eq_true] at h3
  unfold legalT
  simp only [Bool.and_eq_true, decide_eq_true_eq]
  exact ⟨⟨by omega, by omega⟩, h3.2 _ hk⟩
def RowB (s : List Pr) (m : Bnd) : Prop := ∀ x, (putAt (vsP s) (tsP s) x).map Ty.pure = m x
/-- What variables of a pattern have, in memory, as a slice of pairs. -/
def PrB (w : World) (A : Option Addr) (l c : Nat) (m : Bnd) (N : Nat) : Prop := ∃ s : List Pr, l = s.length ∧ PrsIn w A s ∧ s.length ≤ c ∧ c ≤ 9223372036854775807 ∧ RiseP s ∧ RowB s m ∧ s.length ≤ N
theorem PrB.ext {w w' : World} {A : Option Addr} {l c N : Nat} {m : Bnd} (h : PrB w A l c m N) (e : Ext w w') : PrB w' A l c m N := by
  obtain ⟨s, h1, h2, h3⟩ := h
  exact ⟨s, h1, h2.ext e, h3⟩
theorem PrB.mono {w : World} {A : Option Addr} {l c N K : Nat} {m : Bnd} (h : PrB w A l c m N) (hk : N ≤ K) : PrB w A l c m K := by
  obtain ⟨s, h1, h2, h3, h4, h5, h6, h7⟩ := h
  exact ⟨s, h1, h2, h3, h4, h5, h6, by omega⟩
theorem PrB.none (w : World) : PrB w none 0 0 (fun _ => none) 0 :=
  ⟨[], rfl, ⟨RowOf.nil prC _ _, fun p hp => by cases hp⟩, Nat.le_refl _, by omega, List.Pairwise.nil, fun x => rfl, Nat.le_refl _⟩
structure OnR (w' : World) (O : Option Bnd) (N : Nat) (A : Option Addr) (l c : Nat) (code : Int) : Prop where
  no : O = none → code = 14
  yes : ∀ m', O = some m' → code = 0 ∧ PrB w' A l c m' N
def OnRCo (p : Ty) : Prop := ∀ (t : Ty) (A : Option Addr) (l c N : Nat) (m : Bnd) (w : World), TyIn w p → TyIn w t → legalT t = true → PrB w A l c m N → N + p.size ≤ 100000 →
  Calls Tryz.prog 32 #[.slice A l c, tyV p, tyV t] w fun e w' => (∃ A' l' c' n, e = .returned (.tuple #[.slice A' l' c', .int .i64 n]) ∧ OnR w' (onT p t m) (N + p.size) A' l' c' n) ∧ Ext w w'

set_option maxRecDepth 10000 in
set_option maxHeartbeats 8000000 in
theorem ron_var (p : Ty) (hc : p.con = []) : OnRCo p := by
  intro t A l c N m w hp ht hlg hm hn
  obtain ⟨s, rfl, hS, hle, hmx, hr, hB, hN⟩ := hm
  obtain ⟨W, hW⟩ : ∃ W, W = (w.alloc (.cells #[encStr p.con, .int .i64 p.var, .slice p.A p.args.length p.cap] 25)).alloc (.cells #[encStr t.con, .int .i64 t.var, .slice t.A t.args.length t.cap] 25) := ⟨_, rfl⟩
  have HW := hide hW.symm
  have X0 : Hid (Ext w W) := hide (by rw [hW]; exact ((Ext.refl _).alloc _).alloc _)
  have B1 : Hid (TBox W w.heap.size p) := hide (by rw [hW]; exact (TBox.new w p).ext ((Ext.refl _).alloc _))
  have B2 : Hid (TBox W (w.heap.size + 1) t) := hide (by rw [hW]; exact at_newB _ _ _ (by simp))
  have HO := hide (onT_eq p t m)
  have hps : 1 ≤ p.size := by rw [Ty.size_eq]; omega
  obtain ⟨O, hO⟩ : ∃ O, O = onT p t m := ⟨_, rfl⟩
  rw [← hO] at HO ⊢
  rw [if_pos hc] at HO
  have hcB : (p.con == ([] : Str)) = true := by simpa using hc
  have H := hide ht
  have HS := hide hS
  have HR := hide hr
  have HB := hide hB
  have HLe := hide (And.intro hle (And.intro hmx hN))
  have HG := hide (r_get17 A c s p.var W (hS.ext X0.out) (by omega))
  have HSm := hide (fun (u : Ty) (hu : TyIn w u) w' (e : Ext w w') => hide (r_same16 u t w' (hu.ext e) (ht.ext e)))
  have tle := ht.le
  have tmx := ht.max
  have c0 := B1.out.c0
  have c1 := B1.out.c1
  have c2 := B1.out.c2
  have d0 := B2.out.c0
  have d1 := B2.out.c1
  have d2 := B2.out.c2
  have l1 := B1.out.lt
  have l2 := B2.out.lt
  cases hFp : putAt (vsP s) (tsP s) p.var with
  | some u =>
    rw [hFp] at HG
    have Hu := hide (putAt_ty hS hFp)
    have hmu : m p.var = some u.pure := by rw [← HB.out, hFp]; rfl
    have HOk : Hid (∀ w' : World, Ext w w' → (sameB u t = false → OnR w' O (N + p.size) none 0 0 14) ∧ (sameB u t = true → OnR w' O (N + p.size) A s.length c 0)) := hide (fun w' e => by
      rw [HO.out, hmu]
      refine ⟨fun h => ?_, fun h => ?_⟩
      · have h : u.pure ≠ t.pure := fun h2 => by rw [sameB_iff.2 h2] at h; cases h
        refine ⟨fun _ => rfl, fun m' hm' => ?_⟩
        have : (none : Option Bnd) = some m' := (if_neg h).symm.trans hm'
        cases this
      · have h := sameB_iff.1 h
        refine ⟨fun h0 => ?_, fun m' hm' => ?_⟩
        · have : (some m : Option Bnd) = none := (if_pos h).symm.trans h0
          cases this
        · have : (some m : Option Bnd) = some m' := (if_pos h).symm.trans hm'
          injection this with this
          subst this
          exact ⟨rfl, s, rfl, HS.out.ext e, hle, hmx, HR.out, HB.out, by omega⟩)
    have HSu := hide (fun w' (e : Ext w w') => HSm.out u Hu.out w' e)
    simp only [Option.getD_some, Option.isSome_some] at HG
    clear hW hp ht hS hr hB hO HO hc hFp hmu HSm hlg
    unfold tyV at *
    generalize sameB u t = R at *
    go_enter Tryz.func32, Tryz.ntmps32
    go_upto_region 1 with fail
    rw [HW.out]
    clear HW
    go_wp2_with fail
    refine HG.out.mono ?_
    rintro e w2 ⟨rfl, hx⟩
    obtain ⟨W3, hW3⟩ : ∃ W3, W3 = w2.alloc (.cells #[encStr u.con, .int .i64 u.var, .slice u.A u.args.length u.cap] 25) := ⟨_, rfl⟩
    have X3 : Hid (Ext W W3) := hide (by rw [hW3]; exact hx.alloc _)
    have D3 : Hid (TBox W3 w2.heap.size u) := hide (by rw [hW3]; exact TBox.new w2 u)
    clear hx HG c0 c1 c2 d0 d1 d2 l1 l2
    go_upto_region 3 with fail
    rw [← hW3]
    clear hW3
    obtain ⟨k0, k1, k2⟩ := And.intro D3.out.c0 (And.intro D3.out.c1 D3.out.c2)
    have lk := D3.out.lt
    have E2 := B2.out.ext X3.out
    obtain ⟨j0, j1, j2⟩ := And.intro E2.c0 (And.intro E2.c1 E2.c2)
    have lj := E2.lt
    go_wp2_with fail
    refine (HSu.out _ (X0.out.trans X3.out)).out.mono ?_
    rintro e w4 ⟨rfl, hx⟩
    have X4 := hide (X0.out.trans (X3.out.trans hx))
    clear hx k0 k1 k2 lk j0 j1 j2 lj E2
    have HOe := hide (HOk.out _ X4.out)
    cases R with
    | false =>
      have HF := hide (HOe.out.1 rfl)
      go_wp2
      go_ret2
      exact ⟨⟨_, _, _, _, rfl, HF.out⟩, X4.out⟩
    | true =>
      have HF := hide (HOe.out.2 rfl)
      go_wp2
      go_ret2
      exact ⟨⟨_, _, _, _, rfl, HF.out⟩, X4.out⟩
  | none =>
    rw [hFp] at HG
    have hmn : m p.var = none := by rw [← HB.out, hFp]; rfl
    have HSt := hide (fun w' (e : Ext w w') => hide (r_set17 A c s p.var t w' (hS.ext e) hle hmx hr (ht.ext e) (by have := (legal_parts hlg).1; omega) hlg (by omega) hFp))
    have HOk : Hid (∀ (w' : World) (i : Nat) (A' : Option Addr) (c' : Nat), LbP s p.var i → PrsIn w' A' (insP s i p.var t) → (insP s i p.var t).length ≤ c' → c' ≤ 9223372036854775807 → OnR w' O (N + p.size) A' (insP s i p.var t).length c' 0) := hide (fun w' i A' c' hi h1 h2 h3 => by
      have hna : hasAt s p.var i = false := by
        rw [← Bool.not_eq_true, hasAt_iff HR.out hi, hFp]; simp
      rw [HO.out, hmn]
      refine ⟨fun h => (by cases h), fun m' hm' => ?_⟩
      have hm' := Option.some.inj hm'
      subst hm'
      refine ⟨rfl, _, rfl, h1, h2, h3, insP_rise HR.out hi hna, fun x => ?_, by rw [insP_len hi.1]; omega⟩
      rw [insP_at HR.out hi hna x]
      by_cases e : x = p.var
      · simp only [e, if_true, Option.map_some]
      · simp only [e, if_false]; exact HB.out x)
    simp only [Option.getD_none, Option.isSome_none] at HG
    clear hW hp ht hS hr hB hO HO hc hFp hmn HSm hlg
    unfold tyV at *
    go_enter Tryz.func32, Tryz.ntmps32
    go_upto_region 1 with fail
    rw [HW.out]
    clear HW
    go_wp2_with fail
    refine HG.out.mono ?_
    rintro e w2 ⟨rfl, hx⟩
    obtain ⟨W3, hW3⟩ : ∃ W3, W3 = w2.alloc (.cells #[encStr Ty.zero.con, .int .i64 Ty.zero.var, .slice Ty.zero.A Ty.zero.args.length Ty.zero.cap] 25) := ⟨_, rfl⟩
    have X3 : Hid (Ext W W3) := hide (by rw [hW3]; exact hx.alloc _)
    clear hx HG c0 c1 c2 d0 d1 d2 l1 l2
    go_upto_region 3 with fail
    rw [← hW3]
    clear hW3
    have E1 := B1.out.ext X3.out
    obtain ⟨k0, k1, k2⟩ := And.intro E1.c0 (And.intro E1.c1 E1.c2)
    have lk := E1.lt
    have E2 := B2.out.ext X3.out
    obtain ⟨j0, j1, j2⟩ := And.intro E2.c0 (And.intro E2.c1 E2.c2)
    have lj := E2.lt
    go_wp2_with fail
    refine (HSt.out _ (X0.out.trans X3.out)).out.mono ?_
    rintro e w4 ⟨⟨i, A', c', rfl, hlb, h1, h2, h3⟩, hx⟩
    have X4 := hide (X0.out.trans (X3.out.trans hx))
    have HF := hide (HOk.out _ _ _ _ hlb h1 h2 h3)
    clear hx k0 k1 k2 lk j0 j1 j2 lj E1 E2 hlb h1 HOk
    generalize (insP s i p.var t).length = L at *
    go_wp2
    go_ret2
    exact ⟨⟨_, _, _, _, rfl, HF.out⟩, X4.out⟩

set_option maxRecDepth 10000 in
set_option maxHeartbeats 8000000 in
theorem ron_con (p : Ty) (hc : p.con ≠ []) (ih : ∀ k ∈ p.args, OnRCo k) : OnRCo p := by
  intro t A0 l0 c0' N0 m w hp ht hlg hm hn
  obtain ⟨W, hW⟩ : ∃ W, W = (w.alloc (.cells #[encStr p.con, .int .i64 p.var, .slice p.A p.args.length p.cap] 25)).alloc (.cells #[encStr t.con, .int .i64 t.var, .slice t.A t.args.length t.cap] 25) := ⟨_, rfl⟩
  have HW := hide hW.symm
  have X0 : Hid (Ext w W) := hide (by rw [hW]; exact ((Ext.refl _).alloc _).alloc _)
  have B1 : Hid (TBox W w.heap.size p) := hide (by rw [hW]; exact (TBox.new w p).ext ((Ext.refl _).alloc _))
  have B2 : Hid (TBox W (w.heap.size + 1) t) := hide (by rw [hW]; exact at_newB _ _ _ (by simp))
  have HO := hide (onT_eq p t m)
  obtain ⟨O, hO⟩ : ∃ O, O = onT p t m := ⟨_, rfl⟩
  rw [← hO] at HO ⊢
  rw [if_neg hc] at HO
  have hcB : (p.con == ([] : Str)) = false := by simpa using hc
  have Hp := hide hp.all
  have Ht := hide ht.all
  have hlp := hp.le
  have hmp := hp.max
  have hlt' := ht.le
  have hmt := ht.max
  have HM := hide (hm.ext X0.out)
  have HI := hide (fun k (hk : k < p.args.length) => ih _ (List.getElem_mem hk))
  have HLg := hide (fun k (hk : k < t.args.length) => legal_arg hlg (List.getElem_mem hk))
  have HSz : Hid (p.size = tsum p.args + 1) := hide (Ty.size_eq p)
  have c0 := B1.out.c0
  have c1 := B1.out.c1
  have c2 := B1.out.c2
  have d0 := B2.out.c0
  have d1 := B2.out.c1
  have d2 := B2.out.c2
  have l1 := B1.out.lt
  have l2 := B2.out.lt
  clear hW hp ht hm hO ih hlg hc
  unfold tyV at *
  by_cases hcon : p.con = t.con
  case neg =>
    have hF : O = none := by rw [HO.out, if_neg (fun h => hcon h.1)]
    have g1 : (p.con != t.con) = true := by simpa using hcon
    have g2 : (p.con == t.con) = false := by simpa using hcon
    clear HO hcon
    subst hF
    go_enter Tryz.func32, Tryz.ntmps32
    go_upto_region 1 with fail
    rw [HW.out]
    clear HW
    go_wp2
    go_ret2
    exact ⟨⟨_, _, _, _, rfl, ⟨fun _ => rfl, fun m' h => by cases h⟩⟩, X0.out⟩
  have g1 : (p.con != t.con) = false := by simpa using hcon
  have g2 : (p.con == t.con) = true := by simpa using hcon
  by_cases hlen : p.args.length = t.args.length
  case neg =>
    have hF : O = none := by rw [HO.out, if_neg (fun h => hlen h.2)]
    have g3 : ((p.args.length : Int) != (t.args.length : Int)) = true := by simp; omega
    have g4 : (p.args.length != t.args.length) = true := by simpa using hlen
    have g5 : (p.args.length == t.args.length) = false := by simpa using hlen
    clear HO hlen hcon
    subst hF
    go_enter Tryz.func32, Tryz.ntmps32
    go_upto_region 1 with fail
    rw [HW.out]
    clear HW
    go_wp2
    go_ret2
    exact ⟨⟨_, _, _, _, rfl, ⟨fun _ => rfl, fun m' h => by cases h⟩⟩, X0.out⟩
  rw [if_pos ⟨hcon, hlen⟩] at HO
  have g3 : ((p.args.length : Int) != (t.args.length : Int)) = false := by rw [hlen]; simp
  have g4 : (p.args.length != t.args.length) = false := by simpa using hlen
  have g5 : (p.args.length == t.args.length) = true := by simpa using hlen
  have HLn := hide hlen
  clear hlen hcon
  go_enter Tryz.func32, Tryz.ntmps32
  go_upto_region 1 with fail
  rw [HW.out]
  clear HW
  go_wp2
  clear c0 c1 c2 d0 d1 d2 l1 l2 g1 g2 g3 g4 g5 hcB
  go_loopw [0, 10] (fun s0 i wr => ∃ (k : Nat) (A : Option Addr) (l c N : Nat) (m' : Bnd), k ≤ p.args.length ∧ s0 = .slice A l c ∧ i = .int .i64 k ∧ Hid (O = onFs ((p.args.drop k).map onT) (t.args.drop k) m') ∧ Hid (PrB wr A l c m' N) ∧ N + tsum (p.args.drop k) ≤ N0 + tsum p.args ∧ Hid (Ext W wr)) (fun _ i _ => p.args.length - (intOf i).toNat)
  case atStart => exact ⟨0, A0, l0, c0', N0, m, Nat.zero_le _, rfl, rfl, hide (by rw [List.drop_zero, List.drop_zero]; exact HO.out), HM, by rw [List.drop_zero]; exact Nat.le_refl _, hide (Ext.refl W)⟩
  case round =>
    obtain ⟨k, A, l, c, N, m', hk, rfl, rfl, HOk', HB, hN, HX⟩ := hrel
    by_cases hlt : k < p.args.length
    · have hltb : k < t.args.length := by rw [← HLn.out]; exact hlt
      have hlt1 : (k : Int) < (p.args.length : Int) := by omega
      have hlt2 : (k : Int) < (t.args.length : Int) := by omega
      have hk0 : (0 : Int) ≤ (k : Int) := by omega
      obtain ⟨bp, op, hA, hbp, q0, q1, q2⟩ := (Hp.out.ext (X0.out.trans HX.out)).at_ hlt
      obtain ⟨bt, ot, hBt, hbt, r0, r1, r2⟩ := (Ht.out.ext (X0.out.trans HX.out)).at_ hltb
      have hd : tsum (p.args.drop k) = (p.args[k]'hlt).size + tsum (p.args.drop (k + 1)) := by rw [List.drop_eq_getElem_cons hlt, tsum_cons]
      have hN2 : N + ((p.args[k]'hlt).size + tsum (p.args.drop (k + 1))) ≤ N0 + tsum p.args := by rw [← hd]; exact hN
      have hs := HSz.out
      have HC := hide (fun w' (e : Ext wr w') => hide (HI.out k hlt (t.args[k]'hltb) A l c N m' w' ((Hp.out.args _ (List.getElem_mem hlt)).ext (X0.out.trans (HX.out.trans e))) ((Ht.out.args _ (List.getElem_mem hltb)).ext (X0.out.trans (HX.out.trans e))) (HLg.out k hltb) (HB.out.ext e) (by omega)))
      have HO1 : Hid (O = (onT (p.args[k]'hlt) (t.args[k]'hltb) m').bind fun m => onFs ((p.args.drop (k + 1)).map onT) (t.args.drop (k + 1)) m) := hide (by
        rw [HOk'.out, List.drop_eq_getElem_cons hlt, List.drop_eq_getElem_cons hltb]
        rfl)
      have c2 := (B1.out.ext HX.out).c2
      have l1 := (B1.out.ext HX.out).lt
      have d2 := (B2.out.ext HX.out).c2
      have l2 := (B2.out.ext HX.out).lt
      generalize onT (p.args[k]'hlt) (t.args[k]'hltb) m' = O1 at *
      generalize p.args[k]'hlt = x at *
      generalize t.args[k]'hltb = y at *
      rw [hA] at c2
      rw [hBt] at d2
      clear hA hBt hd hN hs
      have HSS := hide (fun w' (e : Ext wr w') => And.intro (e.cell c2) (And.intro (e.cell d2) (And.intro (e.cell q0) (And.intro (e.cell q1) (And.intro (e.cell q2) (And.intro (e.cell r0) (And.intro (e.cell r1) (e.cell r2))))))))
      unfold tyV at HC
      go_upto_region 13 with fail
      go_region_held3 (fun w' => w'.cell? ⟨w.heap.size, 2, none⟩ = some (.slice (some ⟨bp, op, none⟩) p.args.length p.cap) ∧ w'.cell? ⟨w.heap.size + 1, 2, none⟩ = some (.slice (some ⟨bt, ot, none⟩) t.args.length t.cap) ∧ w'.cell? ⟨bp, op + k * 3, none⟩ = some (encStr x.con) ∧ w'.cell? ⟨bp, op + k * 3 + 1, none⟩ = some (.int .i64 x.var) ∧ w'.cell? ⟨bp, op + k * 3 + 2, none⟩ = some (.slice x.A x.args.length x.cap) ∧ w'.cell? ⟨bt, ot + k * 3, none⟩ = some (encStr y.con) ∧ w'.cell? ⟨bt, ot + k * 3 + 1, none⟩ = some (.int .i64 y.var) ∧ w'.cell? ⟨bt, ot + k * 3 + 2, none⟩ = some (.slice y.A y.args.length y.cap)) (first | with_reducible assumption | go_keep) (first
        | (go_at_call 32
           refine Calls.mono (HC.out _ (by repeat (first | exact Ext.refl _ | exact Ext.pre (by simp) | exact Ext.alloc (by assumption) _ | refine Ext.alloc ?_ _ |  refine Ext.more ?_ _ _ | refine Ext.drew ?_ | refine Ext.drewN ?_ _))).out ?_
           rintro e z ⟨⟨A', l', c', n', rfl, hok⟩, hxy⟩
           have kS := HSS.out z (by refine Ext.trans ?_ hxy; exact (by repeat (first | exact Ext.refl _ | exact Ext.pre (by simp) | exact Ext.alloc (by assumption) _ | refine Ext.alloc ?_ _ |  refine Ext.more ?_ _ _ | refine Ext.drew ?_ | refine Ext.drewN ?_ _)))
           have XZ : Hid (Ext wr z) := hide (by refine Ext.trans ?_ hxy; exact (by repeat (first | exact Ext.refl _ | exact Ext.pre (by simp) | exact Ext.alloc (by assumption) _ | refine Ext.alloc ?_ _ |  refine Ext.more ?_ _ _ | refine Ext.drew ?_ | refine Ext.drewN ?_ _)))))
      all_goals
        cases O1 with
        | none =>
          obtain rfl := hok.no rfl
          have hF : O = none := HO1.out
          clear HO1 HOk' HO hok
          subst hF
          go_wp2
          go_ret2
          exact ⟨⟨_, _, _, _, rfl, ⟨fun _ => rfl, fun m' h => by cases h⟩⟩, X0.out.trans (HX.out.trans XZ.out)⟩
        | some m2 =>
          obtain ⟨rfl, hB2⟩ := hok.yes m2 rfl
          have HB2 := hide hB2
          have HO2 := hide (show O = onFs ((p.args.drop (k + 1)).map onT) (t.args.drop (k + 1)) m2 from HO1.out)
          clear hok hB2 HO1 HOk'
          go_wp2
          go_roundw
          case rel => exact ⟨k + 1, A', l', c', N + x.size, m2, hlt, rfl, by go_num, HO2, HB2, by omega, hide (HX.out.trans XZ.out)⟩
          case measure => simp [intOf]; omega
    · have hge : ¬ (k : Int) < (p.args.length : Int) := by omega
      have hF : O = some m' := by rw [HOk'.out, List.drop_eq_nil_of_le (by omega), List.drop_eq_nil_of_le (by have := HLn.out; omega)]; rfl
      have HBe := hide (PrB.mono HB.out (show N ≤ N0 + p.size by have hs := HSz.out; rw [List.drop_eq_nil_of_le (by omega)] at hN; unfold tsum at hN hs; simp at hN; omega))
      have c2 := (B1.out.ext HX.out).c2
      have l1 := (B1.out.ext HX.out).lt
      clear HO HOk' hN
      subst hF
      go_wp2
      go_ret2
      have hR : OnR wr (some m') (N0 + p.size) A l c 0 := ⟨(fun h => by cases h), (fun m2 h => by injection h with h; subst h; exact ⟨rfl, HBe.out⟩)⟩
      exact ⟨⟨_, _, _, _, rfl, hR⟩, X0.out.trans HX.out⟩
/-- A pattern is a type, behind what is known: the reference. -/
theorem r_on19 (p : Ty) : OnRCo p := by
  induction p using Ty.ind with
  | h p ih =>
  by_cases hc : p.con = []
  · exact ron_var p hc
  · exact ron_con p hc ih

end Go.Proofs.YtmjiljhcjfnfpaaGreat
