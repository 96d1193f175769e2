/- Contract: whether a type of System F may be: the program's walk. -/
import Derived.Test.YtcnkfkjgpdmebaaGreatDoorJN30
import Derived.Deep.DeepCutAuto
import Derived.RegionTactic
import Derived.Deep.Cut
/- Contract: whether a type of System F may be: the program's walk. -/
namespace Go.Proofs.YtcnkfkjgpdmebaaGreatDoor
open Go.RowKit Go.Shelf

def LegD (t : Ty) : Prop := ∀ (w0 w : World) (c : Nat) (L D : Int), TyIn w0 t → Below w0.heap.size w0 w → w0.heap.size ≤ c → w.heap[c]? = some (.cells #[.int .i64 L] 136 (0, 0)) →
  -1000000 ≤ L → L ≤ 1000000 → -1000000 ≤ D → D ≤ 1000000 → t.size ≤ 90000 →
  Calls Tryz.prog 76 #[.pointer (some ⟨c, 0, none⟩), tyV t, .int .i64 D] w fun e w' => Tr c w (.bool false) w' (.bool false) ∧
    ((e = .returned (.bool true) ∧ OkD t L D ∧ w'.heap[c]? = some (.cells #[.int .i64 (L - t.size)] 136 (0, 0))) ∨ (e = .returned (.bool false) ∧ ¬ OkD t L D))

set_option maxRecDepth 10000 in
set_option maxHeartbeats 4000000 in
theorem f_legalI (t : Ty) : LegD t := by
  induction t using Ty.ind with
  | h t ih =>
  intro w0 w c L D ht hB hc0 hc hL0 hL hD0 hD hsz
  have IH := hide ih
  have hlt := lt_of_obj hc
  have hcell : w.cell? ⟨c, 0, none⟩ = some (.int .i64 L) := bytes_block hc 0
  have hfree : w.frozen? ⟨c, 0, none⟩ = false := free_block hc 0
  have hs1 : (w.setCell ⟨c, 0, none⟩ (.int .i64 (L - 1))).heap.size = w.heap.size := by simp [World.setCell]
  obtain ⟨W, hW⟩ : ∃ W, W = (w.setCell ⟨c, 0, none⟩ (.int .i64 (L - 1))).alloc (.cells #[encStr t.con, .int .i64 t.var, .slice t.A t.args.length t.cap] 53) := ⟨_, rfl⟩
  have HC : Hid (W.heap[c]? = some (.cells #[.int .i64 (L - 1)] 136 (0, 0))) := hide (by
    have h1 := blk_setCell hc 0 (.int .i64 (L - 1))
    rw [hW]
    exact (((Ext.refl _).alloc _).heap (by rw [hs1]; exact hlt)).trans h1)
  have HT : Hid (Tr c w (.bool false) W (.bool false)) := hide (by
    have h1 : Tr c w (.bool false) (w.setCell ⟨c, 0, none⟩ (.int .i64 (L - 1))) (.bool false) := ⟨rfl, rfl, rfl, by rw [hs1]; exact Nat.le_refl _, fun k _ hk _ => Below.heap_setCell _ ⟨c, 0, none⟩ _ k hk, .inl rfl⟩
    rw [hW]
    exact h1.trans (Tr.of_ext ((Ext.refl _).alloc _)))
  have HB : Hid (TBox W w.heap.size t) := hide (by
    have := TBox.new (w.setCell ⟨c, 0, none⟩ (.int .i64 (L - 1))) t
    rw [hs1] at this
    rw [hW]
    exact this)
  have HBW : Hid (Below w0.heap.size w0 W) := hide (hB.trans (HT.out.below hB.size hc0 (fun k e => by cases e)))
  have HcW := hide (show W.cell? ⟨c, 0, none⟩ = some (.int .i64 (L - 1)) from bytes_block HC.out 0)
  have HW := hide hW
  clear hW
  have Ht := hide ht
  have htx := ht.txt
  have hle := ht.le
  have hmx := ht.max
  have hS := Ty.size_eq t
  have hDp := Ty.depth_eq t
  have hpos := t.size_pos
  have HF := hide (fun w' (e : Ext W w') => hide (f_class t w' ((ht.old HBW.out).ext e)))
  have HSh := hide (shapeD_eq t)
  have hal := Ty.args_len t
  clear ih hc ht hB
  unfold tyV classV at *
  by_cases hl : L - 1 < 0
  · have hno : Hid (¬ OkD t L D) := hide (fun h => by have := h.1; omega)
    go_enter Tryz.func76, Tryz.ntmps76
    go_upto_region 2 with fail
    rw [← HW.out]
    clear hcell hfree
    have hcW := HcW.out
    go_wp2
    go_ret
    exact ⟨HT.out, .inr ⟨rfl, hno.out⟩⟩
  by_cases hd : D < 1
  · have hno : Hid (¬ OkD t L D) := hide (fun h => by have := h.2.1; omega)
    go_enter Tryz.func76, Tryz.ntmps76
    go_upto_region 2 with fail
    rw [← HW.out]
    clear hcell hfree
    have hcW := HcW.out
    go_wp2
    go_ret
    exact ⟨HT.out, .inr ⟨rfl, hno.out⟩⟩
  generalize argOf t = au at *
  generalize clsOf t = cu at *
  cases hdi : dictB t
  · rw [hdi] at HF HSh
    obtain ⟨m, Hm⟩ : ∃ m, Hid (m = min t.args.length 4095) := ⟨_, hide rfl⟩
    have hmin : (if (4095 : Int) < (t.args.length : Int) then (4095 : Int) else (t.args.length : Int)) = (m : Int) := by have := Hm.out; split <;> omega
    have hmin2 : min (t.args.length : Int) 4095 = (m : Int) := by have := Hm.out; omega
    have hmk := make_zeros m (by have := Hm.out; omega)
    go_enter Tryz.func76, Tryz.ntmps76
    go_upto_region 2 with fail
    rw [← HW.out]
    clear hcell hfree
    have hcW := HcW.out
    have b0 := HB.out.c0
    have b1 := HB.out.c1
    have b2 := HB.out.c2
    go_wp2_with fail
    refine (HF.out _ (Ext.refl W)).out.mono ?_
    rintro e w2 ⟨rfl, hx2⟩
    have X2 := hide hx2
    have B2 := hide (HB.out.ext hx2)
    have d0 := B2.out.c0
    have d1 := B2.out.c1
    have d2 := B2.out.c2
    have hlt2 : w.heap.size < w2.heap.size := B2.out.lt
    clear hx2 b0 b1 b2 hcW
    go_upto_region 6 with fail
    go_cut [10] (fun s10 wx => ∃ p b : Nat, s10 = .pointer (some ⟨p, 0, none⟩) ∧ Hid (Ext w2 wx) ∧ Hid (wx.heap[p]? = some (.cells #[encStr t.con, .int .i64 t.var, .slice (some ⟨b, 0, none⟩) m m] 53 (0, 0))) ∧ Hid (wx.heap[b]? = some (.cells (zerosT m) 53 (0, 0))))
    case first =>
      go_region
      all_goals (go_wp2_with fail; go_meet; first
        | exact ⟨w2.heap.size + 1, w2.heap.size + 1 + 1, rfl, hide (by repeat (first | exact Ext.refl _ | exact Ext.pre (by simp) | exact Ext.alloc (by assumption) _ | refine Ext.alloc ?_ _ |  refine Ext.more ?_ _ _ | refine Ext.drew ?_ | refine Ext.drewN ?_ _)), hide ((((Ext.refl _).alloc _).drew.heap (by simp)).trans (at_newB _ _ _ (by simp))), hide (at_newB _ _ _ (by simp))⟩
        | exact ⟨w2.heap.size + 1 + 1, w2.heap.size + 1, rfl, hide (by repeat (first | exact Ext.refl _ | exact Ext.pre (by simp) | exact Ext.alloc (by assumption) _ | refine Ext.alloc ?_ _ |  refine Ext.more ?_ _ _ | refine Ext.drew ?_ | refine Ext.drewN ?_ _)), hide (at_newB _ _ _ (by simp)), hide ((((Ext.refl _).alloc _).drew.heap (by simp)).trans (at_newB _ _ _ (by simp)))⟩)
    case rest =>
      obtain ⟨p, b, rfl, HX, HP, HZ⟩ := hcut
      have HL : Hid (∀ w', Ext wc w' → Calls Tryz.prog 124 #[.agg #[encStr t.con, .int .i64 t.var, .slice (some ⟨b, 0, none⟩) m m]] w' fun e w'' => e = .returned (.bool (headOk t.con t.var t.args.length)) ∧ Ext w' w'') := hide (fun w' e => by
        have hm := Hm.out
        have h1 := t_legal (flatT t b) w' (flat_in htx (by rw [← hm]; exact (e.heap (lt_of_obj HZ.out)).trans HZ.out)) (by have := flat_size t b; omega)
        rw [flat_legal] at h1
        have e1 : tyV (flatT t b) = .agg #[encStr t.con, .int .i64 t.var, .slice (some ⟨b, 0, none⟩) m m] := by
          unfold tyV flatT
          simp only [Ty.con, Ty.var, Ty.A, Ty.args, Ty.cap, List.length_replicate, hm]
        rwa [e1] at h1)
      have p0 := bytes_block HP.out 0
      have p1 := bytes_block HP.out 1
      have p2 := bytes_block HP.out 2
      simp only [List.getElem?_toArray, List.getElem?_cons_zero, List.getElem?_cons_succ] at p0 p1 p2
      cases hq : headOk t.con t.var t.args.length
      · rw [hq] at HL HSh
        have HN : Hid (¬ OkD t L D) := hide (fun h => by have := h.2.2; rw [HSh.out] at this; cases this)
        go_wp2_with fail
        refine (HL.out _ (Ext.refl _)).mono ?_
        rintro e w5 ⟨rfl, hx5⟩
        have X5 := hide (X2.out.trans (HX.out.trans hx5))
        clear hx5
        go_wp2
        go_ret
        exact ⟨HT.out.trans (Tr.of_ext X5.out), .inr ⟨rfl, HN.out⟩⟩
      · rw [hq] at HL HSh
        have HSh2 : Hid (shapeD t = t.args.all shapeD) := hide (by rw [HSh.out]; rfl)
        go_wp2_with fail
        refine (HL.out _ (Ext.refl _)).mono ?_
        rintro e wz ⟨rfl, hx5⟩
        have HXz := hide (X2.out.trans (HX.out.trans hx5))
        clear hx5 p0 p1 p2
        have HBz := hide (HB.out.ext HXz.out)
        have HBw : Hid (Below w0.heap.size w0 wz) := hide (HBW.out.trans (HXz.out.below.mono (by have := HBW.out.size; omega)))
        have HCz : Hid (wz.heap[c]? = some (.cells #[.int .i64 (L - 1)] 136 (0, 0))) := hide ((HXz.out.heap (lt_of_obj HC.out)).trans HC.out)
        have HTz : Hid (Tr c w (.bool false) wz (.bool false)) := hide (HT.out.trans (Tr.of_ext HXz.out))
        have z2 := HBz.out.c2
        have hcz := lt_of_obj HCz.out
        have S0 : Hid (∀ x ∈ t.args.take 0, (x.depth : Int) ≤ D - 1 ∧ shapeD x = true) := hide (by simp)
        have C0 : Hid (wz.heap[c]? = some (.cells #[.int .i64 (L - 1 - tsizes (t.args.take 0))] 136 (0, 0))) := hide (by have := HCz.out; simpa [tsizes] using this)
        have L0 : Hid ((0 : Int) ≤ L - 1 - tsizes (t.args.take 0)) := hide (by simp [tsizes]; omega)
        have T0 : Hid (Tr c wz (.bool false) wz (.bool false)) := hide (Tr.refl _ _ _)
        have HSt := hide (fun k (hk : k < t.args.length) => tsizes_take t.args hk)
        have HSl := hide (fun k => tsizes_le t.args k)
        have HSz := hide (fun k (hk : k ∈ t.args) => Ty.size_arg hk)
        have HSs : Hid (t.size = tsizes t.args + 1) := hide hS
        have HDd := hide (fun k (hk : k ∈ t.args) => tdepth_arg hk)
        have HDp := hide hDp
        clear hS hDp
        generalize hA0 : t.A = A0 at *
        have HA0 := hide hA0
        clear hA0
        go_wp2
        go_loopw [53] (fun i wr => ∃ k : Nat, k ≤ t.args.length ∧ i = .int .i64 k ∧ Hid (wr.heap[c]? = some (.cells #[.int .i64 (L - 1 - tsizes (t.args.take k))] 136 (0, 0))) ∧ Hid ((0 : Int) ≤ L - 1 - tsizes (t.args.take k)) ∧ Hid (∀ x ∈ t.args.take k, (x.depth : Int) ≤ D - 1 ∧ shapeD x = true) ∧ Hid (Tr c wz (.bool false) wr (.bool false))) (fun i _ => t.args.length - (intOf i).toNat)
        case atStart => exact ⟨0, Nat.zero_le _, rfl, C0, L0, S0, T0⟩
        case round =>
          obtain ⟨k, hk, rfl, HCk, HLk, HSk, HTk⟩ := hrel
          by_cases hlt : k < t.args.length
          · have hlt' : (k : Int) < (t.args.length : Int) := by omega
            have hk0 : (0 : Int) ≤ (k : Int) := by omega
            have HBk : Hid (Below w0.heap.size w0 wr) := hide (HBw.out.trans (HTk.out.below HBw.out.size hc0 (fun k e => by cases e)))
            obtain ⟨b9, o9, hA9, hb9, q0, q1, q2⟩ := (Ht.out.all.old HBk.out).at_ hlt
            rw [HA0.out] at hA9
            subst hA9
            have hck := List.getElem_mem hlt
            have hcs := HSz.out _ hck
            have hdd := HDd.out _ hck
            have Hst := hide (HSt.out k hlt)
            have hs1 := HSl.out (k + 1)
            rw [Hst.out] at hs1
            have hss := HSs.out
            have hl0 := HLk.out
            have hck2 := lt_of_obj HCk.out
            have HC9 := hide (IH.out _ hck w0 (wr.alloc (.cells #[encStr (t.args[k]'hlt).con, .int .i64 (t.args[k]'hlt).var, .slice (t.args[k]'hlt).A (t.args[k]'hlt).args.length (t.args[k]'hlt).cap] 53)) c (L - 1 - tsizes (t.args.take k)) (D - 1) (Ht.out.all.args _ hck) (HBk.out.alloc (by have := HBk.out.size; omega) _) hc0 ((((Ext.refl wr).alloc _).heap hck2).trans HCk.out) (by omega) (by omega) (by omega) (by omega) (by omega))
            have Htk : Hid (t.args.take (k + 1) = t.args.take k ++ [t.args[k]'hlt]) := hide (List.take_succ_eq_append_getElem hlt)
            have HNo : Hid (¬ OkD (t.args[k]'hlt) (L - 1 - tsizes (t.args.take k)) (D - 1) → ¬ OkD t L D) := hide (fun hn ho => hn ⟨by have := ho.1; omega, by have := ho.2.1; omega, List.all_eq_true.1 (by have := ho.2.2; rw [HSh2.out] at this; exact this) _ hck⟩)
            have T9 : Hid (Tr c wz (.bool false) (wr.alloc (.cells #[encStr (t.args[k]'hlt).con, .int .i64 (t.args[k]'hlt).var, .slice (t.args[k]'hlt).A (t.args[k]'hlt).args.length (t.args[k]'hlt).cap] 53)) (.bool false)) := hide (HTk.out.trans (Tr.of_ext ((Ext.refl _).alloc _)))
            clear hck hcs hdd hs1 hss hl0
            generalize t.args[k]'hlt = x at *
            generalize tsizes (t.args.take k) = sk at *
            go_wp2_with fail
            refine HC9.out.mono ?_
            rintro e w7 ⟨hT7, (⟨rfl, hok, hc7⟩ | ⟨rfl, hno⟩)⟩
            · have T7 := hide (T9.out.trans hT7)
              have C7 := hide hc7
              have K7 := hide hok
              clear hT7 hc7 hok
              go_wp2
              go_roundw
              case rel =>
                have hok := K7.out
                refine ⟨k + 1, hlt, by go_num, hide ?_, hide ?_, hide (fun y hy => ?_), T7⟩
                · rw [Hst.out, show L - 1 - ((sk + x.size : Nat) : Int) = L - 1 - sk - x.size by omega]
                  exact C7.out
                · rw [Hst.out]; have := hok.1; omega
                · rw [Htk.out, List.mem_append, List.mem_singleton] at hy
                  rcases hy with hy | rfl
                  · exact HSk.out y hy
                  · exact ⟨hok.2.1, hok.2.2⟩
              case measure => simp [intOf]; omega
            · have T7 := hide (T9.out.trans hT7)
              have N7 := hide (HNo.out hno)
              clear hT7 hno
              go_wp2
              go_ret
              exact ⟨HTz.out.trans T7.out, .inr ⟨rfl, N7.out⟩⟩
          · have hge : ¬ (k : Int) < (t.args.length : Int) := by omega
            have hkk : t.args.take k = t.args := List.take_of_length_le (by omega)
            rw [hkk] at HCk HLk HSk
            have HOk : Hid (OkD t L D) := hide ⟨by have := HSs.out; have := HLk.out; omega, by
                rw [HDp.out]
                have h1 : (t.args.map Ty.depth).foldr max 0 ≤ (D - 1).toNat := (tmax_le _ _).2 (fun y hy => by
                  obtain ⟨z, hz, rfl⟩ := List.mem_map.1 hy
                  have := (HSk.out z hz).1
                  omega)
                omega, by rw [HSh2.out]; exact List.all_eq_true.2 (fun y hy => (HSk.out y hy).2)⟩
            have HCf : Hid (wr.heap[c]? = some (.cells #[.int .i64 (L - t.size)] 136 (0, 0))) := hide (by
              have := HCk.out
              rwa [show L - 1 - (tsizes t.args : Int) = L - t.size by have := HSs.out; omega] at this)
            clear hkk HCk HLk HSk
            go_wp2
            go_ret
            exact ⟨HTz.out.trans HTk.out, .inl ⟨rfl, HOk.out, HCf.out⟩⟩
  · rw [hdi] at HF HSh
    have HSh2 : Hid (shapeD t = t.args.all shapeD) := hide (by rw [HSh.out]; rfl)
    go_enter Tryz.func76, Tryz.ntmps76
    go_upto_region 2 with fail
    rw [← HW.out]
    clear hcell hfree
    have hcW := HcW.out
    have b0 := HB.out.c0
    have b1 := HB.out.c1
    have b2 := HB.out.c2
    go_wp2_with fail
    refine (HF.out _ (Ext.refl W)).out.mono ?_
    rintro e w2 ⟨rfl, hx2⟩
    have X2 := hide hx2
    have B2 := hide (HB.out.ext hx2)
    have d0 := B2.out.c0
    have d1 := B2.out.c1
    have d2 := B2.out.c2
    have hlt2 : w.heap.size < w2.heap.size := B2.out.lt
    clear hx2 b0 b1 b2 hcW
    go_upto_region 9 with fail
    obtain ⟨wz, hwz⟩ : ∃ wz, wz = w2.alloc (.cells #[encStr au.con, .int .i64 au.var, .slice au.A au.args.length au.cap] 53) := ⟨_, rfl⟩
    have HXz : Hid (Ext W wz) := hide (by rw [hwz]; exact X2.out.alloc _)
    have hwz2 : w2.alloc (.cells #[.string ⟨au.con.toArray⟩, .int .i64 au.var, .slice au.A au.args.length au.cap] 53) = wz := hwz.symm
    rw [hwz2]
    clear hwz hwz2 d0 d1 d2 hlt2
    have HBz := hide (HB.out.ext HXz.out)
    have HBw : Hid (Below w0.heap.size w0 wz) := hide (HBW.out.trans (HXz.out.below.mono (by have := HBW.out.size; omega)))
    have HCz : Hid (wz.heap[c]? = some (.cells #[.int .i64 (L - 1)] 136 (0, 0))) := hide ((HXz.out.heap (lt_of_obj HC.out)).trans HC.out)
    have HTz : Hid (Tr c w (.bool false) wz (.bool false)) := hide (HT.out.trans (Tr.of_ext HXz.out))
    have z2 := HBz.out.c2
    have hcz := lt_of_obj HCz.out
    have S0 : Hid (∀ x ∈ t.args.take 0, (x.depth : Int) ≤ D - 1 ∧ shapeD x = true) := hide (by simp)
    have C0 : Hid (wz.heap[c]? = some (.cells #[.int .i64 (L - 1 - tsizes (t.args.take 0))] 136 (0, 0))) := hide (by have := HCz.out; simpa [tsizes] using this)
    have L0 : Hid ((0 : Int) ≤ L - 1 - tsizes (t.args.take 0)) := hide (by simp [tsizes]; omega)
    have T0 : Hid (Tr c wz (.bool false) wz (.bool false)) := hide (Tr.refl _ _ _)
    have HSt := hide (fun k (hk : k < t.args.length) => tsizes_take t.args hk)
    have HSl := hide (fun k => tsizes_le t.args k)
    have HSz := hide (fun k (hk : k ∈ t.args) => Ty.size_arg hk)
    have HSs : Hid (t.size = tsizes t.args + 1) := hide hS
    have HDd := hide (fun k (hk : k ∈ t.args) => tdepth_arg hk)
    have HDp := hide hDp
    clear hS hDp
    generalize hA0 : t.A = A0 at *
    have HA0 := hide hA0
    clear hA0
    go_wp2
    go_loopw [53] (fun i wr => ∃ k : Nat, k ≤ t.args.length ∧ i = .int .i64 k ∧ Hid (wr.heap[c]? = some (.cells #[.int .i64 (L - 1 - tsizes (t.args.take k))] 136 (0, 0))) ∧ Hid ((0 : Int) ≤ L - 1 - tsizes (t.args.take k)) ∧ Hid (∀ x ∈ t.args.take k, (x.depth : Int) ≤ D - 1 ∧ shapeD x = true) ∧ Hid (Tr c wz (.bool false) wr (.bool false))) (fun i _ => t.args.length - (intOf i).toNat)
    case atStart => exact ⟨0, Nat.zero_le _, rfl, C0, L0, S0, T0⟩
    case round =>
      obtain ⟨k, hk, rfl, HCk, HLk, HSk, HTk⟩ := hrel
      by_cases hlt : k < t.args.length
      · have hlt' : (k : Int) < (t.args.length : Int) := by omega
        have hk0 : (0 : Int) ≤ (k : Int) := by omega
        have HBk : Hid (Below w0.heap.size w0 wr) := hide (HBw.out.trans (HTk.out.below HBw.out.size hc0 (fun k e => by cases e)))
        obtain ⟨b9, o9, hA9, hb9, q0, q1, q2⟩ := (Ht.out.all.old HBk.out).at_ hlt
        rw [HA0.out] at hA9
        subst hA9
        have hck := List.getElem_mem hlt
        have hcs := HSz.out _ hck
        have hdd := HDd.out _ hck
        have Hst := hide (HSt.out k hlt)
        have hs1 := HSl.out (k + 1)
        rw [Hst.out] at hs1
        have hss := HSs.out
        have hl0 := HLk.out
        have hck2 := lt_of_obj HCk.out
        have HC9 := hide (IH.out _ hck w0 (wr.alloc (.cells #[encStr (t.args[k]'hlt).con, .int .i64 (t.args[k]'hlt).var, .slice (t.args[k]'hlt).A (t.args[k]'hlt).args.length (t.args[k]'hlt).cap] 53)) c (L - 1 - tsizes (t.args.take k)) (D - 1) (Ht.out.all.args _ hck) (HBk.out.alloc (by have := HBk.out.size; omega) _) hc0 ((((Ext.refl wr).alloc _).heap hck2).trans HCk.out) (by omega) (by omega) (by omega) (by omega) (by omega))
        have Htk : Hid (t.args.take (k + 1) = t.args.take k ++ [t.args[k]'hlt]) := hide (List.take_succ_eq_append_getElem hlt)
        have HNo : Hid (¬ OkD (t.args[k]'hlt) (L - 1 - tsizes (t.args.take k)) (D - 1) → ¬ OkD t L D) := hide (fun hn ho => hn ⟨by have := ho.1; omega, by have := ho.2.1; omega, List.all_eq_true.1 (by have := ho.2.2; rw [HSh2.out] at this; exact this) _ hck⟩)
        have T9 : Hid (Tr c wz (.bool false) (wr.alloc (.cells #[encStr (t.args[k]'hlt).con, .int .i64 (t.args[k]'hlt).var, .slice (t.args[k]'hlt).A (t.args[k]'hlt).args.length (t.args[k]'hlt).cap] 53)) (.bool false)) := hide (HTk.out.trans (Tr.of_ext ((Ext.refl _).alloc _)))
        clear hck hcs hdd hs1 hss hl0
        generalize t.args[k]'hlt = x at *
        generalize tsizes (t.args.take k) = sk at *
        go_wp2_with fail
        refine HC9.out.mono ?_
        rintro e w7 ⟨hT7, (⟨rfl, hok, hc7⟩ | ⟨rfl, hno⟩)⟩
        · have T7 := hide (T9.out.trans hT7)
          have C7 := hide hc7
          have K7 := hide hok
          clear hT7 hc7 hok
          go_wp2
          go_roundw
          case rel =>
            have hok := K7.out
            refine ⟨k + 1, hlt, by go_num, hide ?_, hide ?_, hide (fun y hy => ?_), T7⟩
            · rw [Hst.out, show L - 1 - ((sk + x.size : Nat) : Int) = L - 1 - sk - x.size by omega]
              exact C7.out
            · rw [Hst.out]; have := hok.1; omega
            · rw [Htk.out, List.mem_append, List.mem_singleton] at hy
              rcases hy with hy | rfl
              · exact HSk.out y hy
              · exact ⟨hok.2.1, hok.2.2⟩
          case measure => simp [intOf]; omega
        · have T7 := hide (T9.out.trans hT7)
          have N7 := hide (HNo.out hno)
          clear hT7 hno
          go_wp2
          go_ret
          exact ⟨HTz.out.trans T7.out, .inr ⟨rfl, N7.out⟩⟩
      · have hge : ¬ (k : Int) < (t.args.length : Int) := by omega
        have hkk : t.args.take k = t.args := List.take_of_length_le (by omega)
        rw [hkk] at HCk HLk HSk
        have HOk : Hid (OkD t L D) := hide ⟨by have := HSs.out; have := HLk.out; omega, by
            rw [HDp.out]
            have h1 : (t.args.map Ty.depth).foldr max 0 ≤ (D - 1).toNat := (tmax_le _ _).2 (fun y hy => by
              obtain ⟨z, hz, rfl⟩ := List.mem_map.1 hy
              have := (HSk.out z hz).1
              omega)
            omega, by rw [HSh2.out]; exact List.all_eq_true.2 (fun y hy => (HSk.out y hy).2)⟩
        have HCf : Hid (wr.heap[c]? = some (.cells #[.int .i64 (L - t.size)] 136 (0, 0))) := hide (by
          have := HCk.out
          rwa [show L - 1 - (tsizes t.args : Int) = L - t.size by have := HSs.out; omega] at this)
        clear hkk HCk HLk HSk
        go_wp2
        go_ret
        exact ⟨HTz.out.trans HTk.out, .inl ⟨rfl, HOk.out, HCf.out⟩⟩

end Go.Proofs.YtcnkfkjgpdmebaaGreatDoor

/- Contracts: whether a type of System F may be; of the program, and of the reference. -/
namespace Go.Proofs.YtcnkfkjgpdmebaaGreatDoor
open Go.RowKit Go.Shelf

theorem legalD_iff (t : Ty) : legalD t = true ↔ OkD t 4096 100 := by
  unfold legalD OkD
  simp only [Bool.and_eq_true, decide_eq_true_eq]
  constructor
  · rintro ⟨⟨h1, h2⟩, h3⟩
    exact ⟨by omega, by omega, h3⟩
  · rintro ⟨h1, h2, h3⟩
    exact ⟨⟨by omega, by omega⟩, h3⟩

set_option maxRecDepth 10000 in
set_option maxHeartbeats 2000000 in
theorem f_legal (t : Ty) (w : World) (h : TyIn w t) (hsz : t.size ≤ 90000) : Calls Tryz.prog 47 #[tyV t] w fun e w' => e = .returned (.bool (legalD t)) ∧ Ext w w' := by
  have X1 : Ext w ((w.alloc (.cells #[encStr t.con, .int .i64 t.var, .slice t.A t.args.length t.cap] 53)).alloc (.cells #[.int .i64 4096] 136)) := ((Ext.refl w).alloc _).alloc _
  have hc : ((w.alloc (.cells #[encStr t.con, .int .i64 t.var, .slice t.A t.args.length t.cap] 53)).alloc (.cells #[.int .i64 4096] 136)).heap[w.heap.size + 1]? = some (.cells #[.int .i64 4096] 136 (0, 0)) := at_newB _ _ _ (by simp)
  have HW := hide (f_legalI t w _ (w.heap.size + 1) 4096 100 h X1.below (by omega) hc (by omega) (by omega) (by omega) (by omega) hsz)
  have HL := hide (legalD_iff t)
  have HX := hide X1
  clear h hc X1
  generalize legalD t = R at *
  unfold tyV at *
  go_enter Tryz.func47, Tryz.ntmps47
  go_wp2_with fail
  refine HW.out.mono ?_
  rintro e w2 ⟨hT, (⟨rfl, hok, -⟩ | ⟨rfl, hno⟩)⟩
  · have HE := hide (Ext.of_below (HX.out.below.trans (hT.below HX.out.size (by omega) (fun k e => by cases e))) (Nat.le_refl _))
    have HR := hide (HL.out.2 hok)
    clear hT hok
    go_wp2
    go_ret
    exact ⟨by rw [HR.out]; rfl, HE.out⟩
  · have HE := hide (Ext.of_below (HX.out.below.trans (hT.below HX.out.size (by omega) (fun k e => by cases e))) (Nat.le_refl _))
    have HR : Hid (R = false) := hide (by rw [← Bool.not_eq_true]; exact fun h => hno (HL.out.1 h))
    clear hT hno
    go_wp2
    go_ret
    exact ⟨by rw [HR.out]; rfl, HE.out⟩

end Go.Proofs.YtcnkfkjgpdmebaaGreatDoor

/- Types for all of some variables, in memory; their texts. (A program of ours has printed a part.) -/
namespace Go.Proofs.YtcnkfkjgpdmebaaGreatDoor
open Go.RowKit

/-- A type for all of some variables. -/
structure Po where
  vars : List Int
  A : Option Addr
  cap : Nat
  ty : Ty
/-- The value of one. -/
def poV (p : Po) : Value := .agg #[.slice p.A p.vars.length p.cap, encStr p.ty.con, .int .i64 p.ty.var, .slice p.ty.A p.ty.args.length p.ty.cap]
structure PoIn (w : World) (p : Po) : Prop where
  le : p.vars.length ≤ p.cap
  max : p.cap ≤ 9223372036854775807
  row : Ints w p.A p.vars
  ty : TyIn w p.ty
theorem PoIn.ext {w w' : World} {p : Po} (h : PoIn w p) (e : Ext w w') : PoIn w' p := ⟨h.le, h.max, RowOf.ext intC h.row e, h.ty.ext e⟩
def PBox (w : World) (b : Nat) (p : Po) : Prop := w.heap[b]? = some (.cells #[.slice p.A p.vars.length p.cap, encStr p.ty.con, .int .i64 p.ty.var, .slice p.ty.A p.ty.args.length p.ty.cap] 76 (0, 0))
section
variable {w w' : World} {b : Nat} {p : Po}
theorem PBox.new (w : World) (p : Po) : PBox (w.alloc (.cells #[.slice p.A p.vars.length p.cap, encStr p.ty.con, .int .i64 p.ty.var, .slice p.ty.A p.ty.args.length p.ty.cap] 76)) w.heap.size p := at_newB _ _ _ rfl
theorem PBox.lt (h : PBox w b p) : b < w.heap.size := lt_of_obj h
theorem PBox.ext (h : PBox w b p) (e : Ext w w') : PBox w' b p := (e.heap h.lt).trans h
theorem PBox.cells (h : PBox w b p) : w.cell? ⟨b, 0, none⟩ = some (.slice p.A p.vars.length p.cap) ∧ w.cell? ⟨b, 1, none⟩ = some (encStr p.ty.con) ∧ w.cell? ⟨b, 2, none⟩ = some (.int .i64 p.ty.var) ∧ w.cell? ⟨b, 3, none⟩ = some (.slice p.ty.A p.ty.args.length p.ty.cap) :=
  ⟨bytes_block h 0, bytes_block h 1, bytes_block h 2, bytes_block h 3⟩
end
/-- The text of the variables. -/
def varsT (l : List Int) : Str := (l.map fun v => ([32] : Str) ++ varS v).flatten
/-- The text of one. -/
noncomputable def polyS (p : Po) : Str :=
  if legalD p.ty then (if p.vars = [] then textT p.ty else ([102, 111, 114, 97, 108, 108] : Str) ++ varsT p.vars ++ ([46, 32] : Str) ++ textT p.ty) else []
set_option maxRecDepth 10000 in
set_option maxHeartbeats 2000000 in
theorem f_Text0 (p : Po) (w : World) (h : PoIn w p) (ok : okI p.ty = true) (hsz : p.ty.size ≤ 20000) (h0 : p.vars = []) : Calls Tryz.prog 27 #[poV p] w fun e w' => e = .returned (encStr (polyS p)) ∧ Ext w w' := by
  have X0 : Hid (Ext w (w.alloc (.cells #[.slice p.A p.vars.length p.cap, encStr p.ty.con, .int .i64 p.ty.var, .slice p.ty.A p.ty.args.length p.ty.cap] 76))) := hide ((Ext.refl w).alloc _)
  have HB := hide (PBox.new w p)
  obtain ⟨c0, c1, c2, c3⟩ := HB.out.cells
  have HL := hide (fun w' (e : Ext w w') => hide (f_legal p.ty w' (h.ty.ext e) (by omega)))
  have HT := hide (fun w' (e : Ext w w') => hide (f_text p.ty w' (h.ty.ext e) ok hsz))
  have HP : Hid (polyS p = if legalD p.ty then textT p.ty else []) := hide (by unfold polyS; rw [if_pos h0])
  have HV : Hid (p.vars.length = 0) := hide (by rw [h0]; rfl)
  rw [HP.out]
  clear HP h ok hsz h0
  unfold poV tyV at *
  generalize textT p.ty = s at *
  rw [HV.out] at X0 HB c0 c1 c2 c3 ⊢
  cases hl : legalD p.ty
  · rw [hl] at HL
    go_enter Tryz.func27, Tryz.ntmps27
    go_wp2_with fail
    refine (HL.out _ X0.out).out.mono ?_
    rintro e w2 ⟨rfl, hx⟩
    go_wp2
    go_ret
    exact ⟨rfl, X0.out.trans hx⟩
  · rw [hl] at HL
    go_enter Tryz.func27, Tryz.ntmps27
    go_wp2_with fail
    refine (HL.out _ X0.out).out.mono ?_
    rintro e w2 ⟨rfl, hx⟩
    have X2 := hide (X0.out.trans hx)
    obtain ⟨d0, d1, d2, d3⟩ := (HB.out.ext hx).cells
    rw [HV.out] at d0
    clear hx c0 c1 c2 c3
    go_wp2_with fail
    refine (HT.out _ X2.out).out.mono ?_
    rintro e w3 ⟨rfl, hx⟩
    go_wp2
    go_ret
    exact ⟨rfl, X2.out.trans hx⟩

end Go.Proofs.YtcnkfkjgpdmebaaGreatDoor

/- Contract: a type with others in the place of variables; of the reference. -/
namespace Go.Proofs.YtcnkfkjgpdmebaaGreatDoor
open Go.RowKit

theorem Row.ty3 {w : World} {b : Nat} {t : TypeId} {fr : Nat × Nat} (x0 x1 x2 : Value) (h : w.heap[b]? = some (.cells #[x0, x1, x2] t fr)) : Row w (some ⟨b, 0, none⟩) 3 1 [x0, x1, x2] := by
  refine ⟨rfl, fun _ => ⟨b, 0, rfl, lt_of_obj h, fun j u hu => ?_⟩⟩
  rw [Nat.zero_add]
  simp only [World.cell?, h]
  simpa using hu
theorem flat_snoc (us : List Ty) (u : Ty) : (us ++ [u]).flatMap tyC.f = us.flatMap tyC.f ++ [encStr u.con, .int .i64 u.var, .slice u.A u.args.length u.cap] := by
  rw [List.flatMap_append, List.flatMap_cons, List.flatMap_nil, List.append_nil]
  rfl
theorem ty_info3 : (Tryz.prog.info? 53).map (fun i => (i.zero, i.size, i.bytes)) = some (some (.agg #[.string ⟨#[]⟩, .int .i64 0, .slice none 0 0]), 3, 48) := by kernel_rfl


end Go.Proofs.YtcnkfkjgpdmebaaGreatDoor

/- Contract: a scheme's type; of the program. -/
namespace Go.Proofs.YtcnkfkjgpdmebaaGreatDoor
open Go.RowKit

def dictP (c : Str) (p : Ty.Pure) : Ty.Pure := .mk ([123] ++ c ++ [125]) 0 [p]
theorem dictT_pure (c : Str) (t : Ty) (b : Nat) : (dictT c t b).pure = dictP c t.pure := by rw [Ty.pure_eq]; rfl
theorem dictT_away {c : Str} {t : Ty} {b k : Nat} (hb : b ≠ k) (ht : awayB k t = true) : awayB k (dictT c t b) = true :=
  awayB_mk (fun _ a e => by injection e with e; subst e; exact hb) (by intro x hx; simp at hx; subst hx; exact ht)
/-- Types of what is known, made of predicates, in memory. -/
structure DsOk (w0 wB w : World) (row : Option Nat) (l : List Pd) (ds : List Ty) : Prop where
  len : ds.length = l.length
  ty : ∀ d ∈ ds, TyIn w d
  is : ds.map Ty.pure = l.map fun p => dictP p.cls p.ty.pure
  row : ∀ d ∈ ds, ∀ c, row = some c → awayB c d = true
  away : ∀ d ∈ ds, ∀ c, c < wB.heap.size → (∀ p ∈ l, awayB c p.ty = true) → awayB c d = true
theorem DsOk.nil (w0 wB w : World) (row : Option Nat) : DsOk w0 wB w row [] [] := ⟨rfl, by simp, rfl, by simp, by simp⟩
theorem DsOk.ext {w0 wB w w' : World} {row : Option Nat} {l : List Pd} {ds : List Ty} (h : DsOk w0 wB w row l ds) (e : Ext w w') : DsOk w0 wB w' row l ds := ⟨h.len, fun d hd => (h.ty d hd).ext e, h.is, h.row, h.away⟩
theorem DsOk.snoc {w0 wB w w' w4 : World} {row row' : Option Nat} {l : List Pd} {ds : List Ty} {p : Pd} {b : Nat} (h : DsOk w0 wB w row l ds) (e : Ext w w') (hd : TyIn w' (dictT p.cls p.ty b)) (hb : w.heap.size ≤ b) (hp : TyIn w0 p.ty) (h0 : w0.heap.size ≤ wB.heap.size) (hB : wB.heap.size ≤ w.heap.size)
    (hr : ∀ c, row = some c → wB.heap.size ≤ c ∧ c < w.heap.size) (hg : w'.grownBy w4 row) (hr' : row' = row ∨ ∀ c, row' = some c → w'.heap.size ≤ c) : DsOk w0 wB w4 row' (l ++ [p]) (ds ++ [dictT p.cls p.ty b]) := by
  have hall : ∀ d ∈ ds ++ [dictT p.cls p.ty b], TyIn w' d ∧ (∀ c, row = some c → awayB c d = true) ∧ ∀ c, c < wB.heap.size → (∀ x ∈ l ++ [p], awayB c x.ty = true) → awayB c d = true := by
    intro d hd2
    rcases List.mem_append.1 hd2 with hd2 | hd2
    · exact ⟨(h.ty d hd2).ext e, h.row d hd2, fun c h1 h2 => h.away d hd2 c h1 (fun x hx => h2 x (List.mem_append.2 (.inl hx)))⟩
    · rw [List.mem_singleton] at hd2
      subst hd2
      exact ⟨hd, fun c hc => dictT_away (by have := hr c hc; omega) (away_new hp (by have := hr c hc; omega)), fun c h1 h2 => dictT_away (by omega) (h2 p (by simp))⟩
  refine ⟨by simp [h.len], fun d hd2 => (hall d hd2).1.grown hg (hall d hd2).2.1, by rw [List.map_append, List.map_append, h.is]; simp [dictT_pure], fun d hd2 c hc => ?_, fun d hd2 => (hall d hd2).2.2⟩
  rcases hr' with rfl | hr'
  · exact (hall d hd2).2.1 c hc
  · exact away_new (hall d hd2).1 (hr' c hc)
end Go.Proofs.YtcnkfkjgpdmebaaGreatDoor

/- Contracts: what is free in a type for all of some variables; whether numbers are unlike; whether some are free; of the program. -/
namespace Go.Proofs.YtcnkfkjgpdmebaaGreatDoor
open Go.RowKit Go.Sort Go.Shelf

end Go.Proofs.YtcnkfkjgpdmebaaGreatDoor

/- Contracts: whether numbers are unlike; whether two types for all of some variables are alike; of the program. -/
namespace Go.Proofs.YtcnkfkjgpdmebaaGreatDoor
open Go.RowKit Go.Sort Go.Shelf

end Go.Proofs.YtcnkfkjgpdmebaaGreatDoor

/- Contract: whether two types for all of some variables are alike; of the program. (A program of ours has printed a part.) -/
namespace Go.Proofs.YtcnkfkjgpdmebaaGreatDoor
open Go.RowKit

end Go.Proofs.YtcnkfkjgpdmebaaGreatDoor

/- A scheme's type is alike itself. No program in sight. -/
namespace Go.Proofs.YtcnkfkjgpdmebaaGreatDoor
open Go.RowKit

end Go.Proofs.YtcnkfkjgpdmebaaGreatDoor
