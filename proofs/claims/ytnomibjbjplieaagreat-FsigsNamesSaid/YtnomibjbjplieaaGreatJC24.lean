/- Contract: whether a type of System F may be: the program's walk. -/
import Derived.Test.YtnomibjbjplieaaGreatJC23
import Derived.Deep.DeepCutAuto
import Derived.RegionTactic
import Derived.Deep.Cut
/- Contract: whether a type of System F may be: the program's walk. -/
namespace Go.Proofs.YtnomibjbjplieaaGreat
open Go.RowKit Go.Shelf

def LegD (t : Ty) : Prop := ∀ (w0 w : World) (c : Nat) (L D : Int), TyIn w0 t → Below w0.heap.size w0 w → w0.heap.size ≤ c → w.heap[c]? = some (.cells #[.int .i64 L] 127 (0, 0)) →
  -1000000 ≤ L → L ≤ 1000000 → -1000000 ≤ D → D ≤ 1000000 → t.size ≤ 90000 →
  Calls Tryz.prog 74 #[.pointer (some ⟨c, 0, none⟩), tyV t, .int .i64 D] w fun e w' => Tr c w (.bool false) w' (.bool false) ∧
    ((e = .returned (.bool true) ∧ OkD t L D ∧ w'.heap[c]? = some (.cells #[.int .i64 (L - t.size)] 127 (0, 0))) ∨ (e = .returned (.bool false) ∧ ¬ OkD t L D))

set_option maxRecDepth 10000 in
set_option maxHeartbeats 4000000 in
theorem f_legalI (t : Ty) : LegD t := by
  induction t using Ty.ind with
  | h t ih =>
  intro w0 w c L D ht hB hc0 hc hL0 hL hD0 hD hsz
  have IH := hide ih
  have hlt := lt_of_obj hc
  have hcell : w.cell? ⟨c, 0, none⟩ = some (.int .i64 L) := bytes_block hc 0
  have hfree : w.frozen? ⟨c, 0, none⟩ = false := free_block hc 0
  have hs1 : (w.setCell ⟨c, 0, none⟩ (.int .i64 (L - 1))).heap.size = w.heap.size := by simp [World.setCell]
  obtain ⟨W, hW⟩ : ∃ W, W = (w.setCell ⟨c, 0, none⟩ (.int .i64 (L - 1))).alloc (.cells #[encStr t.con, .int .i64 t.var, .slice t.A t.args.length t.cap] 32) := ⟨_, rfl⟩
  have HC : Hid (W.heap[c]? = some (.cells #[.int .i64 (L - 1)] 127 (0, 0))) := hide (by
    have h1 := blk_setCell hc 0 (.int .i64 (L - 1))
    rw [hW]
    exact (((Ext.refl _).alloc _).heap (by rw [hs1]; exact hlt)).trans h1)
  have HT : Hid (Tr c w (.bool false) W (.bool false)) := hide (by
    have h1 : Tr c w (.bool false) (w.setCell ⟨c, 0, none⟩ (.int .i64 (L - 1))) (.bool false) := ⟨rfl, rfl, rfl, by rw [hs1]; exact Nat.le_refl _, fun k _ hk _ => Below.heap_setCell _ ⟨c, 0, none⟩ _ k hk, .inl rfl⟩
    rw [hW]
    exact h1.trans (Tr.of_ext ((Ext.refl _).alloc _)))
  have HB : Hid (TBox W w.heap.size t) := hide (by
    have := TBox.new (w.setCell ⟨c, 0, none⟩ (.int .i64 (L - 1))) t
    rw [hs1] at this
    rw [hW]
    exact this)
  have HBW : Hid (Below w0.heap.size w0 W) := hide (hB.trans (HT.out.below hB.size hc0 (fun k e => by cases e)))
  have HcW := hide (show W.cell? ⟨c, 0, none⟩ = some (.int .i64 (L - 1)) from bytes_block HC.out 0)
  have HW := hide hW
  clear hW
  have Ht := hide ht
  have htx := ht.txt
  have hle := ht.le
  have hmx := ht.max
  have hS := Ty.size_eq t
  have hDp := Ty.depth_eq t
  have hpos := t.size_pos
  have HF := hide (fun w' (e : Ext W w') => hide (f_class t w' ((ht.old HBW.out).ext e)))
  have HSh := hide (shapeD_eq t)
  have hal := Ty.args_len t
  clear ih hc ht hB
  unfold tyV classV at *
  by_cases hl : L - 1 < 0
  · have hno : Hid (¬ OkD t L D) := hide (fun h => by have := h.1; omega)
    go_enter Tryz.func74, Tryz.ntmps74
    go_upto_region 2 with fail
    rw [← HW.out]
    clear hcell hfree
    have hcW := HcW.out
    go_wp2
    go_ret
    exact ⟨HT.out, .inr ⟨rfl, hno.out⟩⟩
  by_cases hd : D < 1
  · have hno : Hid (¬ OkD t L D) := hide (fun h => by have := h.2.1; omega)
    go_enter Tryz.func74, Tryz.ntmps74
    go_upto_region 2 with fail
    rw [← HW.out]
    clear hcell hfree
    have hcW := HcW.out
    go_wp2
    go_ret
    exact ⟨HT.out, .inr ⟨rfl, hno.out⟩⟩
  generalize argOf t = au at *
  generalize clsOf t = cu at *
  cases hdi : dictB t
  · rw [hdi] at HF HSh
    obtain ⟨m, Hm⟩ : ∃ m, Hid (m = min t.args.length 4095) := ⟨_, hide rfl⟩
    have hmin : (if (4095 : Int) < (t.args.length : Int) then (4095 : Int) else (t.args.length : Int)) = (m : Int) := by have := Hm.out; split <;> omega
    have hmin2 : min (t.args.length : Int) 4095 = (m : Int) := by have := Hm.out; omega
    have hmk := make_zeros m (by have := Hm.out; omega)
    go_enter Tryz.func74, Tryz.ntmps74
    go_upto_region 2 with fail
    rw [← HW.out]
    clear hcell hfree
    have hcW := HcW.out
    have b0 := HB.out.c0
    have b1 := HB.out.c1
    have b2 := HB.out.c2
    go_wp2_with fail
    refine (HF.out _ (Ext.refl W)).out.mono ?_
    rintro e w2 ⟨rfl, hx2⟩
    have X2 := hide hx2
    have B2 := hide (HB.out.ext hx2)
    have d0 := B2.out.c0
    have d1 := B2.out.c1
    have d2 := B2.out.c2
    have hlt2 : w.heap.size < w2.heap.size := B2.out.lt
    clear hx2 b0 b1 b2 hcW
    go_upto_region 6 with fail
    go_cut [10] (fun s10 wx => ∃ p b : Nat, s10 = .pointer (some ⟨p, 0, none⟩) ∧ Hid (Ext w2 wx) ∧ Hid (wx.heap[p]? = some (.cells #[encStr t.con, .int .i64 t.var, .slice (some ⟨b, 0, none⟩) m m] 32 (0, 0))) ∧ Hid (wx.heap[b]? = some (.cells (zerosT m) 32 (0, 0))))
    case first =>
      go_region
      all_goals (go_wp2_with fail; go_meet; first
        | exact ⟨w2.heap.size + 1, w2.heap.size + 1 + 1, rfl, hide (by repeat (first | exact Ext.refl _ | exact Ext.pre (by simp) | exact Ext.alloc (by assumption) _ | refine Ext.alloc ?_ _ |  refine Ext.more ?_ _ _ | refine Ext.drew ?_ | refine Ext.drewN ?_ _)), hide ((((Ext.refl _).alloc _).drew.heap (by simp)).trans (at_newB _ _ _ (by simp))), hide (at_newB _ _ _ (by simp))⟩
        | exact ⟨w2.heap.size + 1 + 1, w2.heap.size + 1, rfl, hide (by repeat (first | exact Ext.refl _ | exact Ext.pre (by simp) | exact Ext.alloc (by assumption) _ | refine Ext.alloc ?_ _ |  refine Ext.more ?_ _ _ | refine Ext.drew ?_ | refine Ext.drewN ?_ _)), hide (at_newB _ _ _ (by simp)), hide ((((Ext.refl _).alloc _).drew.heap (by simp)).trans (at_newB _ _ _ (by simp)))⟩)
    case rest =>
      obtain ⟨p, b, rfl, HX, HP, HZ⟩ := hcut
      have HL : Hid (∀ w', Ext wc w' → Calls Tryz.prog 79 #[.agg #[encStr t.con, .int .i64 t.var, .slice (some ⟨b, 0, none⟩) m m]] w' fun e w'' => e = .returned (.bool (headOk t.con t.var t.args.length)) ∧ Ext w' w'') := hide (fun w' e => by
        have hm := Hm.out
        have h1 := t_legal (flatT t b) w' (flat_in htx (by rw [← hm]; exact (e.heap (lt_of_obj HZ.out)).trans HZ.out)) (by have := flat_size t b; omega)
        rw [flat_legal] at h1
        have e1 : tyV (flatT t b) = .agg #[encStr t.con, .int .i64 t.var, .slice (some ⟨b, 0, none⟩) m m] := by
          unfold tyV flatT
          simp only [Ty.con, Ty.var, Ty.A, Ty.args, Ty.cap, List.length_replicate, hm]
        rwa [e1] at h1)
      have p0 := bytes_block HP.out 0
      have p1 := bytes_block HP.out 1
      have p2 := bytes_block HP.out 2
      simp only [List.getElem?_toArray, List.getElem?_cons_zero, List.getElem?_cons_succ] at p0 p1 p2
      cases hq : headOk t.con t.var t.args.length
      · rw [hq] at HL HSh
        have HN : Hid (¬ OkD t L D) := hide (fun h => by have := h.2.2; rw [HSh.out] at this; cases this)
        go_wp2_with fail
        refine (HL.out _ (Ext.refl _)).mono ?_
        rintro e w5 ⟨rfl, hx5⟩
        have X5 := hide (X2.out.trans (HX.out.trans hx5))
        clear hx5
        go_wp2
        go_ret
        exact ⟨HT.out.trans (Tr.of_ext X5.out), .inr ⟨rfl, HN.out⟩⟩
      · rw [hq] at HL HSh
        have HSh2 : Hid (shapeD t = t.args.all shapeD) := hide (by rw [HSh.out]; rfl)
        go_wp2_with fail
        refine (HL.out _ (Ext.refl _)).mono ?_
        rintro e wz ⟨rfl, hx5⟩
        have HXz := hide (X2.out.trans (HX.out.trans hx5))
        clear hx5 p0 p1 p2
        have HBz := hide (HB.out.ext HXz.out)
        have HBw : Hid (Below w0.heap.size w0 wz) := hide (HBW.out.trans (HXz.out.below.mono (by have := HBW.out.size; omega)))
        have HCz : Hid (wz.heap[c]? = some (.cells #[.int .i64 (L - 1)] 127 (0, 0))) := hide ((HXz.out.heap (lt_of_obj HC.out)).trans HC.out)
        have HTz : Hid (Tr c w (.bool false) wz (.bool false)) := hide (HT.out.trans (Tr.of_ext HXz.out))
        have z2 := HBz.out.c2
        have hcz := lt_of_obj HCz.out
        have S0 : Hid (∀ x ∈ t.args.take 0, (x.depth : Int) ≤ D - 1 ∧ shapeD x = true) := hide (by simp)
        have C0 : Hid (wz.heap[c]? = some (.cells #[.int .i64 (L - 1 - tsizes (t.args.take 0))] 127 (0, 0))) := hide (by have := HCz.out; simpa [tsizes] using this)
        have L0 : Hid ((0 : Int) ≤ L - 1 - tsizes (t.args.take 0)) := hide (by simp [tsizes]; omega)
        have T0 : Hid (Tr c wz (.bool false) wz (.bool false)) := hide (Tr.refl _ _ _)
        have HSt := hide (fun k (hk : k < t.args.length) => tsizes_take t.args hk)
        have HSl := hide (fun k => tsizes_le t.args k)
        have HSz := hide (fun k (hk : k ∈ t.args) => Ty.size_arg hk)
        have HSs : Hid (t.size = tsizes t.args + 1) := hide hS
        have HDd := hide (fun k (hk : k ∈ t.args) => tdepth_arg hk)
        have HDp := hide hDp
        clear hS hDp
        generalize hA0 : t.A = A0 at *
        have HA0 := hide hA0
        clear hA0
        go_wp2
        go_loopw [53] (fun i wr => ∃ k : Nat, k ≤ t.args.length ∧ i = .int .i64 k ∧ Hid (wr.heap[c]? = some (.cells #[.int .i64 (L - 1 - tsizes (t.args.take k))] 127 (0, 0))) ∧ Hid ((0 : Int) ≤ L - 1 - tsizes (t.args.take k)) ∧ Hid (∀ x ∈ t.args.take k, (x.depth : Int) ≤ D - 1 ∧ shapeD x = true) ∧ Hid (Tr c wz (.bool false) wr (.bool false))) (fun i _ => t.args.length - (intOf i).toNat)
        case atStart => exact ⟨0, Nat.zero_le _, rfl, C0, L0, S0, T0⟩
        case round =>
          obtain ⟨k, hk, rfl, HCk, HLk, HSk, HTk⟩ := hrel
          by_cases hlt : k < t.args.length
          · have hlt' : (k : Int) < (t.args.length : Int) := by omega
            have hk0 : (0 : Int) ≤ (k : Int) := by omega
            have HBk : Hid (Below w0.heap.size w0 wr) := hide (HBw.out.trans (HTk.out.below HBw.out.size hc0 (fun k e => by cases e)))
            obtain ⟨b9, o9, hA9, hb9, q0, q1, q2⟩ := (Ht.out.all.old HBk.out).at_ hlt
            rw [HA0.out] at hA9
            subst hA9
            have hck := List.getElem_mem hlt
            have hcs := HSz.out _ hck
            have hdd := HDd.out _ hck
            have Hst := hide (HSt.out k hlt)
            have hs1 := HSl.out (k + 1)
            rw [Hst.out] at hs1
            have hss := HSs.out
            have hl0 := HLk.out
            have hck2 := lt_of_obj HCk.out
            have HC9 := hide (IH.out _ hck w0 (wr.alloc (.cells #[encStr (t.args[k]'hlt).con, .int .i64 (t.args[k]'hlt).var, .slice (t.args[k]'hlt).A (t.args[k]'hlt).args.length (t.args[k]'hlt).cap] 32)) c (L - 1 - tsizes (t.args.take k)) (D - 1) (Ht.out.all.args _ hck) (HBk.out.alloc (by have := HBk.out.size; omega) _) hc0 ((((Ext.refl wr).alloc _).heap hck2).trans HCk.out) (by omega) (by omega) (by omega) (by omega) (by omega))
            have Htk : Hid (t.args.take (k + 1) = t.args.take k ++ [t.args[k]'hlt]) := hide (List.take_succ_eq_append_getElem hlt)
            have HNo : Hid (¬ OkD (t.args[k]'hlt) (L - 1 - tsizes (t.args.take k)) (D - 1) → ¬ OkD t L D) := hide (fun hn ho => hn ⟨by have := ho.1; omega, by have := ho.2.1; omega, List.all_eq_true.1 (by have := ho.2.2; rw [HSh2.out] at this; exact this) _ hck⟩)
            have T9 : Hid (Tr c wz (.bool false) (wr.alloc (.cells #[encStr (t.args[k]'hlt).con, .int .i64 (t.args[k]'hlt).var, .slice (t.args[k]'hlt).A (t.args[k]'hlt).args.length (t.args[k]'hlt).cap] 32)) (.bool false)) := hide (HTk.out.trans (Tr.of_ext ((Ext.refl _).alloc _)))
            clear hck hcs hdd hs1 hss hl0
            generalize t.args[k]'hlt = x at *
            generalize tsizes (t.args.take k) = sk at *
            go_wp2_with fail
            refine HC9.out.mono ?_
            rintro e w7 ⟨hT7, (⟨rfl, hok, hc7⟩ | ⟨rfl, hno⟩)⟩
            · have T7 := hide (T9.out.trans hT7)
              have C7 := hide hc7
              have K7 := hide hok
              clear hT7 hc7 hok
              go_wp2
              go_roundw
              case rel =>
                have hok := K7.out
                refine ⟨k + 1, hlt, by go_num, hide ?_, hide ?_, hide (fun y hy => ?_), T7⟩
                · rw [Hst.out, show L - 1 - ((sk + x.size : Nat) : Int) = L - 1 - sk - x.size by omega]
                  exact C7.out
                · rw [Hst.out]; have := hok.1; omega
                · rw [Htk.out, List.mem_append, List.mem_singleton] at hy
                  rcases hy with hy | rfl
                  · exact HSk.out y hy
                  · exact ⟨hok.2.1, hok.2.2⟩
              case measure => simp [intOf]; omega
            · have T7 := hide (T9.out.trans hT7)
              have N7 := hide (HNo.out hno)
              clear hT7 hno
              go_wp2
              go_ret
              exact ⟨HTz.out.trans T7.out, .inr ⟨rfl, N7.out⟩⟩
          · have hge : ¬ (k : Int) < (t.args.length : Int) := by omega
            have hkk : t.args.take k = t.args := List.take_of_length_le (by omega)
            rw [hkk] at HCk HLk HSk
            have HOk : Hid (OkD t L D) := hide ⟨by have := HSs.out; have := HLk.out; omega, by
                rw [HDp.out]
                have h1 : (t.args.map Ty.depth).foldr max 0 ≤ (D - 1).toNat := (tmax_le _ _).2 (fun y hy => by
                  obtain ⟨z, hz, rfl⟩ := List.mem_map.1 hy
                  have := (HSk.out z hz).1
                  omega)
                omega, by rw [HSh2.out]; exact List.all_eq_true.2 (fun y hy => (HSk.out y hy).2)⟩
            have HCf : Hid (wr.heap[c]? = some (.cells #[.int .i64 (L - t.size)] 127 (0, 0))) := hide (by
              have := HCk.out
              rwa [show L - 1 - (tsizes t.args : Int) = L - t.size by have := HSs.out; omega] at this)
            clear hkk HCk HLk HSk
            go_wp2
            go_ret
            exact ⟨HTz.out.trans HTk.out, .inl ⟨rfl, HOk.out, HCf.out⟩⟩
  · rw [hdi] at HF HSh
    have HSh2 : Hid (shapeD t = t.args.all shapeD) := hide (by rw [HSh.out]; rfl)
    go_enter Tryz.func74, Tryz.ntmps74
    go_upto_region 2 with fail
    rw [← HW.out]
    clear hcell hfree
    have hcW := HcW.out
    have b0 := HB.out.c0
    have b1 := HB.out.c1
    have b2 := HB.out.c2
    go_wp2_with fail
    refine (HF.out _ (Ext.refl W)).out.mono ?_
    rintro e w2 ⟨rfl, hx2⟩
    have X2 := hide hx2
    have B2 := hide (HB.out.ext hx2)
    have d0 := B2.out.c0
    have d1 := B2.out.c1
    have d2 := B2.out.c2
    have hlt2 : w.heap.size < w2.heap.size := B2.out.lt
    clear hx2 b0 b1 b2 hcW
    go_upto_region 9 with fail
    obtain ⟨wz, hwz⟩ : ∃ wz, wz = w2.alloc (.cells #[encStr au.con, .int .i64 au.var, .slice au.A au.args.length au.cap] 32) := ⟨_, rfl⟩
    have HXz : Hid (Ext W wz) := hide (by rw [hwz]; exact X2.out.alloc _)
    have hwz2 : w2.alloc (.cells #[.string ⟨au.con.toArray⟩, .int .i64 au.var, .slice au.A au.args.length au.cap] 32) = wz := hwz.symm
    rw [hwz2]
    clear hwz hwz2 d0 d1 d2 hlt2
    have HBz := hide (HB.out.ext HXz.out)
    have HBw : Hid (Below w0.heap.size w0 wz) := hide (HBW.out.trans (HXz.out.below.mono (by have := HBW.out.size; omega)))
    have HCz : Hid (wz.heap[c]? = some (.cells #[.int .i64 (L - 1)] 127 (0, 0))) := hide ((HXz.out.heap (lt_of_obj HC.out)).trans HC.out)
    have HTz : Hid (Tr c w (.bool false) wz (.bool false)) := hide (HT.out.trans (Tr.of_ext HXz.out))
    have z2 := HBz.out.c2
    have hcz := lt_of_obj HCz.out
    have S0 : Hid (∀ x ∈ t.args.take 0, (x.depth : Int) ≤ D - 1 ∧ shapeD x = true) := hide (by simp)
    have C0 : Hid (wz.heap[c]? = some (.cells #[.int .i64 (L - 1 - tsizes (t.args.take 0))] 127 (0, 0))) := hide (by have := HCz.out; simpa [tsizes] using this)
    have L0 : Hid ((0 : Int) ≤ L - 1 - tsizes (t.args.take 0)) := hide (by simp [tsizes]; omega)
    have T0 : Hid (Tr c wz (.bool false) wz (.bool false)) := hide (Tr.refl _ _ _)
    have HSt := hide (fun k (hk : k < t.args.length) => tsizes_take t.args hk)
    have HSl := hide (fun k => tsizes_le t.args k)
    have HSz := hide (fun k (hk : k ∈ t.args) => Ty.size_arg hk)
    have HSs : Hid (t.size = tsizes t.args + 1) := hide hS
    have HDd := hide (fun k (hk : k ∈ t.args) => tdepth_arg hk)
    have HDp := hide hDp
    clear hS hDp
    generalize hA0 : t.A = A0 at *
    have HA0 := hide hA0
    clear hA0
    go_wp2
    go_loopw [53] (fun i wr => ∃ k : Nat, k ≤ t.args.length ∧ i = .int .i64 k ∧ Hid (wr.heap[c]? = some (.cells #[.int .i64 (L - 1 - tsizes (t.args.take k))] 127 (0, 0))) ∧ Hid ((0 : Int) ≤ L - 1 - tsizes (t.args.take k)) ∧ Hid (∀ x ∈ t.args.take k, (x.depth : Int) ≤ D - 1 ∧ shapeD x = true) ∧ Hid (Tr c wz (.bool false) wr (.bool false))) (fun i _ => t.args.length - (intOf i).toNat)
    case atStart => exact ⟨0, Nat.zero_le _, rfl, C0, L0, S0, T0⟩
    case round =>
      obtain ⟨k, hk, rfl, HCk, HLk, HSk, HTk⟩ := hrel
      by_cases hlt : k < t.args.length
      · have hlt' : (k : Int) < (t.args.length : Int) := by omega
        have hk0 : (0 : Int) ≤ (k : Int) := by omega
        have HBk : Hid (Below w0.heap.size w0 wr) := hide (HBw.out.trans (HTk.out.below HBw.out.size hc0 (fun k e => by cases e)))
        obtain ⟨b9, o9, hA9, hb9, q0, q1, q2⟩ := (Ht.out.all.old HBk.out).at_ hlt
        rw [HA0.out] at hA9
        subst hA9
        have hck := List.getElem_mem hlt
        have hcs := HSz.out _ hck
        have hdd := HDd.out _ hck
        have Hst := hide (HSt.out k hlt)
        have hs1 := HSl.out (k + 1)
        rw [Hst.out] at hs1
        have hss := HSs.out
        have hl0 := HLk.out
        have hck2 := lt_of_obj HCk.out
        have HC9 := hide (IH.out _ hck w0 (wr.alloc (.cells #[encStr (t.args[k]'hlt).con, .int .i64 (t.args[k]'hlt).var, .slice (t.args[k]'hlt).A (t.args[k]'hlt).args.length (t.args[k]'hlt).cap] 32)) c (L - 1 - tsizes (t.args.take k)) (D - 1) (Ht.out.all.args _ hck) (HBk.out.alloc (by have := HBk.out.size; omega) _) hc0 ((((Ext.refl wr).alloc _).heap hck2).trans HCk.out) (by omega) (by omega) (by omega) (by omega) (by omega))
        have Htk : Hid (t.args.take (k + 1) = t.args.take k ++ [t.args[k]'hlt]) := hide (List.take_succ_eq_append_getElem hlt)
        have HNo : Hid (¬ OkD (t.args[k]'hlt) (L - 1 - tsizes (t.args.take k)) (D - 1) → ¬ OkD t L D) := hide (fun hn ho => hn ⟨by have := ho.1; omega, by have := ho.2.1; omega, List.all_eq_true.1 (by have := ho.2.2; rw [HSh2.out] at this; exact this) _ hck⟩)
        have T9 : Hid (Tr c wz (.bool false) (wr.alloc (.cells #[encStr (t.args[k]'hlt).con, .int .i64 (t.args[k]'hlt).var, .slice (t.args[k]'hlt).A (t.args[k]'hlt).args.length (t.args[k]'hlt).cap] 32)) (.bool false)) := hide (HTk.out.trans (Tr.of_ext ((Ext.refl _).alloc _)))
        clear hck hcs hdd hs1 hss hl0
        generalize t.args[k]'hlt = x at *
        generalize tsizes (t.args.take k) = sk at *
        go_wp2_with fail
        refine HC9.out.mono ?_
        rintro e w7 ⟨hT7, (⟨rfl, hok, hc7⟩ | ⟨rfl, hno⟩)⟩
        · have T7 := hide (T9.out.trans hT7)
          have C7 := hide hc7
          have K7 := hide hok
          clear hT7 hc7 hok
          go_wp2
          go_roundw
          case rel =>
            have hok := K7.out
            refine ⟨k + 1, hlt, by go_num, hide ?_, hide ?_, hide (fun y hy => ?_), T7⟩
            · rw [Hst.out, show L - 1 - ((sk + x.size : Nat) : Int) = L - 1 - sk - x.size by omega]
              exact C7.out
            · rw [Hst.out]; have := hok.1; omega
            · rw [Htk.out, List.mem_append, List.mem_singleton] at hy
              rcases hy with hy | rfl
              · exact HSk.out y hy
              · exact ⟨hok.2.1, hok.2.2⟩
          case measure => simp [intOf]; omega
        · have T7 := hide (T9.out.trans hT7)
          have N7 := hide (HNo.out hno)
          clear hT7 hno
          go_wp2
          go_ret
          exact ⟨HTz.out.trans T7.out, .inr ⟨rfl, N7.out⟩⟩
      · have hge : ¬ (k : Int) < (t.args.length : Int) := by omega
        have hkk : t.args.take k = t.args := List.take_of_length_le (by omega)
        rw [hkk] at HCk HLk HSk
        have HOk : Hid (OkD t L D) := hide ⟨by have := HSs.out; have := HLk.out; omega, by
            rw [HDp.out]
            have h1 : (t.args.map Ty.depth).foldr max 0 ≤ (D - 1).toNat := (tmax_le _ _).2 (fun y hy => by
              obtain ⟨z, hz, rfl⟩ := List.mem_map.1 hy
              have := (HSk.out z hz).1
              omega)
            omega, by rw [HSh2.out]; exact List.all_eq_true.2 (fun y hy => (HSk.out y hy).2)⟩
        have HCf : Hid (wr.heap[c]? = some (.cells #[.int .i64 (L - t.size)] 127 (0, 0))) := hide (by
          have := HCk.out
          rwa [show L - 1 - (tsizes t.args : Int) = L - t.size by have := HSs.out; omega] at this)
        clear hkk HCk HLk HSk
        go_wp2
        go_ret
        exact ⟨HTz.out.trans HTk.out, .inl ⟨rfl, HOk.out, HCf.out⟩⟩

end Go.Proofs.YtnomibjbjplieaaGreat

/- Contracts: whether a type of System F may be; of the program, and of the reference. -/
namespace Go.Proofs.YtnomibjbjplieaaGreat
open Go.RowKit Go.Shelf

theorem legalD_iff (t : Ty) : legalD t = true ↔ OkD t 4096 100 := by
  unfold legalD OkD
  simp only [Bool.and_eq_true, decide_eq_true_eq]
  constructor
  · rintro ⟨⟨h1, h2⟩, h3⟩
    exact ⟨by omega, by omega, h3⟩
  · rintro ⟨h1, h2, h3⟩
    exact ⟨⟨by omega, by omega⟩, h3⟩

set_option maxRecDepth 10000 in
set_option maxHeartbeats 2000000 in
theorem f_legal (t : Ty) (w : World) (h : TyIn w t) (hsz : t.size ≤ 90000) : Calls Tryz.prog 49 #[tyV t] w fun e w' => e = .returned (.bool (legalD t)) ∧ Ext w w' := by
  have X1 : Ext w ((w.alloc (.cells #[encStr t.con, .int .i64 t.var, .slice t.A t.args.length t.cap] 32)).alloc (.cells #[.int .i64 4096] 127)) := ((Ext.refl w).alloc _).alloc _
  have hc : ((w.alloc (.cells #[encStr t.con, .int .i64 t.var, .slice t.A t.args.length t.cap] 32)).alloc (.cells #[.int .i64 4096] 127)).heap[w.heap.size + 1]? = some (.cells #[.int .i64 4096] 127 (0, 0)) := at_newB _ _ _ (by simp)
  have HW := hide (f_legalI t w _ (w.heap.size + 1) 4096 100 h X1.below (by omega) hc (by omega) (by omega) (by omega) (by omega) hsz)
  have HL := hide (legalD_iff t)
  have HX := hide X1
  clear h hc X1
  generalize legalD t = R at *
  unfold tyV at *
  go_enter Tryz.func49, Tryz.ntmps49
  go_wp2_with fail
  refine HW.out.mono ?_
  rintro e w2 ⟨hT, (⟨rfl, hok, -⟩ | ⟨rfl, hno⟩)⟩
  · have HE := hide (Ext.of_below (HX.out.below.trans (hT.below HX.out.size (by omega) (fun k e => by cases e))) (Nat.le_refl _))
    have HR := hide (HL.out.2 hok)
    clear hT hok
    go_wp2
    go_ret
    exact ⟨by rw [HR.out]; rfl, HE.out⟩
  · have HE := hide (Ext.of_below (HX.out.below.trans (hT.below HX.out.size (by omega) (fun k e => by cases e))) (Nat.le_refl _))
    have HR : Hid (R = false) := hide (by rw [← Bool.not_eq_true]; exact fun h => hno (HL.out.1 h))
    clear hT hno
    go_wp2
    go_ret
    exact ⟨by rw [HR.out]; rfl, HE.out⟩

end Go.Proofs.YtnomibjbjplieaaGreat

/- Types for all of some variables, in memory; their texts. (A program of ours has printed a part.) -/
namespace Go.Proofs.YtnomibjbjplieaaGreat
open Go.RowKit

/-- A type for all of some variables. -/
structure Po where
  vars : List Int
  A : Option Addr
  cap : Nat
  ty : Ty
/-- The value of one. -/
def poV (p : Po) : Value := .agg #[.slice p.A p.vars.length p.cap, encStr p.ty.con, .int .i64 p.ty.var, .slice p.ty.A p.ty.args.length p.ty.cap]
structure PoIn (w : World) (p : Po) : Prop where
  le : p.vars.length ≤ p.cap
  max : p.cap ≤ 9223372036854775807
  row : Ints w p.A p.vars
  ty : TyIn w p.ty
theorem PoIn.ext {w w' : World} {p : Po} (h : PoIn w p) (e : Ext w w') : PoIn w' p := ⟨h.le, h.max, RowOf.ext intC h.row e, h.ty.ext e⟩
def PBox (w : World) (b : Nat) (p : Po) : Prop := w.heap[b]? = some (.cells #[.slice p.A p.vars.length p.cap, encStr p.ty.con, .int .i64 p.ty.var, .slice p.ty.A p.ty.args.length p.ty.cap] 34 (0, 0))
section
variable {w w' : World} {b : Nat} {p : Po}
theorem PBox.new (w : World) (p : Po) : PBox (w.alloc (.cells #[.slice p.A p.vars.length p.cap, encStr p.ty.con, .int .i64 p.ty.var, .slice p.ty.A p.ty.args.length p.ty.cap] 34)) w.heap.size p := at_newB _ _ _ rfl
theorem PBox.lt (h : PBox w b p) : b < w.heap.size := lt_of_obj h
theorem PBox.ext (h : PBox w b p) (e : Ext w w') : PBox w' b p := (e.heap h.lt).trans h
theorem PBox.cells (h : PBox w b p) : w.cell? ⟨b, 0, none⟩ = some (.slice p.A p.vars.length p.cap) ∧ w.cell? ⟨b, 1, none⟩ = some (encStr p.ty.con) ∧ w.cell? ⟨b, 2, none⟩ = some (.int .i64 p.ty.var) ∧ w.cell? ⟨b, 3, none⟩ = some (.slice p.ty.A p.ty.args.length p.ty.cap) :=
  ⟨bytes_block h 0, bytes_block h 1, bytes_block h 2, bytes_block h 3⟩
end
/-- The text of the variables. -/
def varsT (l : List Int) : Str := (l.map fun v => ([32] : Str) ++ varS v).flatten
/-- The text of one. -/
noncomputable def polyS (p : Po) : Str :=
  if legalD p.ty then (if p.vars = [] then textT p.ty else ([102, 111, 114, 97, 108, 108] : Str) ++ varsT p.vars ++ ([46, 32] : Str) ++ textT p.ty) else []
theorem varT_text (v : Int) : textT (varT v) = varS v := by
  rw [textT_else (by rintro ⟨h, -⟩; cases h)]
  show (if ([] : Str) = [] then varS v else []) ++ restT [] = _
  simp [restT]
theorem varT_ok {v : Int} (h0 : -9223372036854775808 ≤ v) (h1 : v ≤ 9223372036854775807) : okI (varT v) = true := okI_mk h0 h1 (by decide) (by simp)
theorem varsT_take (l : List Int) {k : Nat} (h : k < l.length) : varsT (l.take (k + 1)) = varsT (l.take k) ++ (([32] : Str) ++ varS (l[k]'h)) := by
  unfold varsT
  rw [List.take_succ_eq_append_getElem h, List.map_append, List.flatten_append]
  simp
theorem varsT_len (l : List Int) (h : ∀ v ∈ l, -9223372036854775808 ≤ v ∧ v ≤ 9223372036854775807) : (varsT l).length ≤ 31 * l.length := by
  unfold varsT
  induction l with
  | nil => simp
  | cons v l ih =>
    have h1 := varS_len (h v (List.mem_cons_self)).1 (h v (List.mem_cons_self)).2
    have h2 := ih (fun x hx => h x (List.mem_cons_of_mem _ hx))
    rw [List.map_cons, List.flatten_cons, List.length_append, List.length_append, List.length_cons]
    simp only [List.length_cons, List.length_nil]
    omega

set_option maxRecDepth 10000 in
set_option maxHeartbeats 2000000 in
theorem f_Text0 (p : Po) (w : World) (h : PoIn w p) (ok : okI p.ty = true) (hsz : p.ty.size ≤ 20000) (h0 : p.vars = []) : Calls Tryz.prog 24 #[poV p] w fun e w' => e = .returned (encStr (polyS p)) ∧ Ext w w' := by
  have X0 : Hid (Ext w (w.alloc (.cells #[.slice p.A p.vars.length p.cap, encStr p.ty.con, .int .i64 p.ty.var, .slice p.ty.A p.ty.args.length p.ty.cap] 34))) := hide ((Ext.refl w).alloc _)
  have HB := hide (PBox.new w p)
  obtain ⟨c0, c1, c2, c3⟩ := HB.out.cells
  have HL := hide (fun w' (e : Ext w w') => hide (f_legal p.ty w' (h.ty.ext e) (by omega)))
  have HT := hide (fun w' (e : Ext w w') => hide (f_text p.ty w' (h.ty.ext e) ok hsz))
  have HP : Hid (polyS p = if legalD p.ty then textT p.ty else []) := hide (by unfold polyS; rw [if_pos h0])
  have HV : Hid (p.vars.length = 0) := hide (by rw [h0]; rfl)
  rw [HP.out]
  clear HP h ok hsz h0
  unfold poV tyV at *
  generalize textT p.ty = s at *
  rw [HV.out] at X0 HB c0 c1 c2 c3 ⊢
  cases hl : legalD p.ty
  · rw [hl] at HL
    go_enter Tryz.func24, Tryz.ntmps24
    go_wp2_with fail
    refine (HL.out _ X0.out).out.mono ?_
    rintro e w2 ⟨rfl, hx⟩
    go_wp2
    go_ret
    exact ⟨rfl, X0.out.trans hx⟩
  · rw [hl] at HL
    go_enter Tryz.func24, Tryz.ntmps24
    go_wp2_with fail
    refine (HL.out _ X0.out).out.mono ?_
    rintro e w2 ⟨rfl, hx⟩
    have X2 := hide (X0.out.trans hx)
    obtain ⟨d0, d1, d2, d3⟩ := (HB.out.ext hx).cells
    rw [HV.out] at d0
    clear hx c0 c1 c2 c3
    go_wp2_with fail
    refine (HT.out _ X2.out).out.mono ?_
    rintro e w3 ⟨rfl, hx⟩
    go_wp2
    go_ret
    exact ⟨rfl, X2.out.trans hx⟩

set_option maxRecDepth 10000 in
set_option maxHeartbeats 2000000 in
theorem f_Text1 (p : Po) (w : World) (h : PoIn w p) (ok : okI p.ty = true) (hsz : p.ty.size ≤ 20000) (h0 : p.vars ≠ []) (hn : p.vars.length ≤ 1000) (hv : ∀ v ∈ p.vars, -9223372036854775808 ≤ v ∧ v ≤ 9223372036854775807) : Calls Tryz.prog 24 #[poV p] w fun e w' => e = .returned (encStr (polyS p)) ∧ Ext w w' := by
  have X0 : Hid (Ext w (w.alloc (.cells #[.slice p.A p.vars.length p.cap, encStr p.ty.con, .int .i64 p.ty.var, .slice p.ty.A p.ty.args.length p.ty.cap] 34))) := hide ((Ext.refl w).alloc _)
  have HB := hide (PBox.new w p)
  obtain ⟨c0, c1, c2, c3⟩ := HB.out.cells
  have HL := hide (fun w' (e : Ext w w') => hide (f_legal p.ty w' (h.ty.ext e) (by omega)))
  have HT := hide (fun w' (e : Ext w w') => hide (f_text p.ty w' (h.ty.ext e) ok hsz))
  have HTv := hide (fun (v : Int) (hm : v ∈ p.vars) (w' : World) => hide (f_text (varT v) w' (varT_in w' v) (varT_ok (hv v hm).1 (hv v hm).2) (by rw [varT_size]; omega)))
  simp only [varT_text] at HTv
  have HP : Hid (polyS p = if legalD p.ty then ([102, 111, 114, 97, 108, 108] : Str) ++ varsT p.vars ++ ([46, 32] : Str) ++ textT p.ty else []) := hide (by unfold polyS; rw [if_neg h0])
  have HLt := hide (textT_few ok hsz)
  have HLv : Hid (∀ k, (varsT (p.vars.take k)).length ≤ 31000) := hide (fun k => by
    have := varsT_len (p.vars.take k) (fun v hm => hv v (List.mem_of_mem_take hm))
    rw [List.length_take] at this
    omega)
  have hz : ((p.vars.length : Int) == 0) = false := by
    rw [← Bool.not_eq_true]
    intro e
    exact h0 (List.eq_nil_of_length_eq_zero (by have := eq_of_beq e; omega))
  have HR := hide h.row
  have hmx := h.max
  have hle := h.le
  clear h ok hsz h0 hv
  unfold poV
  generalize polyS p = R at *
  unfold tyV at HL HT HTv
  simp only [varT, Ty.con, Ty.var, Ty.A, Ty.cap, Ty.args, List.length_nil, encStr] at HTv
  generalize textT p.ty = s at *
  cases hl : legalD p.ty
  · rw [hl] at HL HP
    have hR : R = [] := by rw [HP.out]; rfl
    clear HP
    subst hR
    go_enter Tryz.func24, Tryz.ntmps24
    go_wp2_with fail
    refine (HL.out _ X0.out).out.mono ?_
    rintro e w2 ⟨rfl, hx⟩
    go_wp2
    go_ret
    exact ⟨rfl, X0.out.trans hx⟩
  · rw [hl] at HL HP
    have HF : Hid (R = ([102, 111, 114, 97, 108, 108] : Str) ++ varsT p.vars ++ ([46, 32] : Str) ++ s) := hide (by rw [HP.out]; rfl)
    clear HP
    go_enter Tryz.func24, Tryz.ntmps24
    go_wp2_with fail
    refine (HL.out _ X0.out).out.mono ?_
    rintro e w2 ⟨rfl, hx⟩
    have X2 := hide (X0.out.trans hx)
    have HB2 := hide (HB.out.ext hx)
    obtain ⟨d0, d1, d2, d3⟩ := HB2.out.cells
    clear hx c0 c1 c2 c3 HL
    go_wp2
    go_loopw [3, 20] (fun u i wr => ∃ k : Nat, k ≤ p.vars.length ∧ i = .int .i64 k ∧ u = encStr (([102, 111, 114, 97, 108, 108] : Str) ++ varsT (p.vars.take k)) ∧ Hid (Ext w2 wr)) (fun _ i _ => p.vars.length - (intOf i).toNat)
    case atStart => exact ⟨0, Nat.zero_le _, rfl, by simp [varsT, encStr], hide (Ext.refl _)⟩
    case round =>
      obtain ⟨k, hk, rfl, rfl, HX⟩ := hrel
      by_cases hlt : k < p.vars.length
      · have hlt' : (k : Int) < (p.vars.length : Int) := by omega
        have hk0 : (0 : Int) ≤ (k : Int) := by omega
        obtain ⟨b, o, hA, hb, q0⟩ := Ints.at_ (RowOf.ext intC HR.out (X2.out.trans HX.out)) hlt
        have hm := List.getElem_mem hlt
        have HC := hide (HTv.out _ hm wr).out
        have hcat : ([102, 111, 114, 97, 108, 108] : Str) ++ varsT (p.vars.take (k + 1)) = (([102, 111, 114, 97, 108, 108] : Str) ++ varsT (p.vars.take k)) ++ (([32] : Str) ++ varS (p.vars[k]'hlt)) := by rw [varsT_take _ hlt, List.append_assoc]
        have hlen := HLv.out (k + 1)
        have hlen2 : (([102, 111, 114, 97, 108, 108] : Str) ++ varsT (p.vars.take (k + 1))).length ≤ 40000 := by rw [List.length_append]; simp only [List.length_cons, List.length_nil]; omega
        rw [hcat] at hlen2
        rw [hA]
        clear hA hm hlen
        generalize p.vars[k]'hlt = v at *
        generalize varS v = sc at *
        have HR2 : Hid (encStr (([102, 111, 114, 97, 108, 108] : Str) ++ varsT (p.vars.take k) ++ (([32] : Str) ++ sc)) = encStr (([102, 111, 114, 97, 108, 108] : Str) ++ varsT (p.vars.take (k + 1)))) := hide (by rw [hcat])
        clear hcat
        generalize ([102, 111, 114, 97, 108, 108] : Str) ++ varsT (p.vars.take k) = S0 at *
        have hs1 : ¬ ((⟨#[32]⟩ : ByteArray).size + (⟨sc.toArray⟩ : ByteArray).size > 9223372036854775807) := by
          rw [List.length_append, List.length_append] at hlen2
          rw [ba_size sc]
          show ¬ (1 + sc.length > _)
          omega
        have e1 : (ByteArray.mk #[32] ++ ByteArray.mk sc.toArray) = ByteArray.mk (([32] : Str) ++ sc).toArray := ByteArray.mk_append_mk [32] sc
        have hs2 : ¬ ((⟨S0.toArray⟩ : ByteArray).size + (⟨(([32] : Str) ++ sc).toArray⟩ : ByteArray).size > 9223372036854775807) := by
          rw [List.length_append] at hlen2
          rw [ba_size S0, ba_size (([32] : Str) ++ sc)]
          omega
        have e2 : (ByteArray.mk S0.toArray ++ ByteArray.mk (([32] : Str) ++ sc).toArray) = ByteArray.mk (S0 ++ (([32] : Str) ++ sc)).toArray := ByteArray.mk_append_mk S0 (([32] : Str) ++ sc)
        clear hlen2
        generalize S0 ++ (([32] : Str) ++ sc) = S2 at *
        generalize ([32] : Str) ++ sc = S1 at *
        go_wp2_with fail
        refine HC.out.mono ?_
        rintro e w3 ⟨rfl, hx3⟩
        have X3 : Hid (Ext w2 w3) := hide (HX.out.trans hx3)
        clear hx3
        go_wp2
        go_roundw
        case rel => exact ⟨k + 1, hlt, by go_num, HR2.out, X3⟩
        case measure => simp [intOf]; omega
      · have hge : ¬ (k : Int) < (p.vars.length : Int) := by omega
        have HTk : Hid (p.vars.take k = p.vars) := hide (List.take_of_length_le (by omega))
        have hlen := HLv.out k
        rw [HTk.out] at hlen ⊢
        obtain ⟨d0, d1, d2, d3⟩ := (HB2.out.ext HX.out).cells
        have hlS : (([102, 111, 114, 97, 108, 108] : Str) ++ varsT p.vars).length ≤ 40000 := by rw [List.length_append]; simp only [List.length_cons, List.length_nil]; omega
        clear hlen
        generalize ([102, 111, 114, 97, 108, 108] : Str) ++ varsT p.vars = S0 at *
        have hs1 : ¬ ((⟨S0.toArray⟩ : ByteArray).size + (⟨#[46, 32]⟩ : ByteArray).size > 9223372036854775807) := by rw [ba_size S0]; show ¬ (S0.length + 2 > _); omega
        have e1 : (ByteArray.mk S0.toArray ++ ByteArray.mk #[46, 32]) = ByteArray.mk (S0 ++ ([46, 32] : Str)).toArray := ByteArray.mk_append_mk S0 [46, 32]
        have hs2 : ¬ ((⟨(S0 ++ ([46, 32] : Str)).toArray⟩ : ByteArray).size + (⟨s.toArray⟩ : ByteArray).size > 9223372036854775807) := by
          have := HLt.out
          rw [ba_size (S0 ++ ([46, 32] : Str)), ba_size s, List.length_append]
          simp only [List.length_cons, List.length_nil]
          omega
        have e2 : (ByteArray.mk (S0 ++ ([46, 32] : Str)).toArray ++ ByteArray.mk s.toArray) = ByteArray.mk (S0 ++ ([46, 32] : Str) ++ s).toArray := ByteArray.mk_append_mk (S0 ++ ([46, 32] : Str)) s
        clear hlS
        generalize S0 ++ ([46, 32] : Str) ++ s = S2 at *
        generalize S0 ++ ([46, 32] : Str) = S1 at *
        go_wp2_with fail
        refine (HT.out _ (X2.out.trans HX.out)).out.mono ?_
        rintro e w4 ⟨rfl, hx4⟩
        go_wp2
        go_ret
        exact ⟨by rw [HF.out]; rfl, X2.out.trans (HX.out.trans hx4)⟩

end Go.Proofs.YtnomibjbjplieaaGreat

/- Contract: a type with others in the place of variables; of the reference. -/
namespace Go.Proofs.YtnomibjbjplieaaGreat
open Go.RowKit

theorem Row.ty3 {w : World} {b : Nat} {t : TypeId} {fr : Nat × Nat} (x0 x1 x2 : Value) (h : w.heap[b]? = some (.cells #[x0, x1, x2] t fr)) : Row w (some ⟨b, 0, none⟩) 3 1 [x0, x1, x2] := by
  refine ⟨rfl, fun _ => ⟨b, 0, rfl, lt_of_obj h, fun j u hu => ?_⟩⟩
  rw [Nat.zero_add]
  simp only [World.cell?, h]
  simpa using hu
theorem flat_snoc (us : List Ty) (u : Ty) : (us ++ [u]).flatMap tyC.f = us.flatMap tyC.f ++ [encStr u.con, .int .i64 u.var, .slice u.A u.args.length u.cap] := by
  rw [List.flatMap_append, List.flatMap_cons, List.flatMap_nil, List.append_nil]
  rfl
theorem ty_info3 : (Tryz.prog.info? 32).map (fun i => (i.zero, i.size, i.bytes)) = some (some (.agg #[.string ⟨#[]⟩, .int .i64 0, .slice none 0 0]), 3, 48) := by kernel_rfl


end Go.Proofs.YtnomibjbjplieaaGreat

/- Contract: a scheme's type; of the program. -/
namespace Go.Proofs.YtnomibjbjplieaaGreat
open Go.RowKit

def dictP (c : Str) (p : Ty.Pure) : Ty.Pure := .mk ([123] ++ c ++ [125]) 0 [p]
theorem dictT_pure (c : Str) (t : Ty) (b : Nat) : (dictT c t b).pure = dictP c t.pure := by rw [Ty.pure_eq]; rfl
theorem dictT_away {c : Str} {t : Ty} {b k : Nat} (hb : b ≠ k) (ht : awayB k t = true) : awayB k (dictT c t b) = true :=
  awayB_mk (fun _ a e => by injection e with e; subst e; exact hb) (by intro x hx; simp at hx; subst hx; exact ht)
def funPP (l : List Ty.Pure) (q : Ty.Pure) : Ty.Pure := l.foldr arrP q
theorem funP_eq (l : List Ty) (q : Ty.Pure) : funP l q = funPP (l.map Ty.pure) q := by
  unfold funP funPP
  rw [List.foldr_map]
def rangeI (k : Nat) : List Int := (List.range k).map fun i => ((i : Nat) : Int)
theorem rangeI_succ (k : Nat) : rangeI (k + 1) = rangeI k ++ [(k : Int)] := by unfold rangeI; rw [List.range_succ, List.map_append]; rfl
theorem rangeI_len (k : Nat) : (rangeI k).length = k := by unfold rangeI; simp
noncomputable def ofVs (s : Sc) : List Int := if scB s then rangeI s.n.toNat else []
noncomputable def ofTyP (s : Sc) : Ty.Pure := if scB s then funPP (s.preds.map fun p => dictP p.cls p.ty.pure) s.ty.pure else Ty.zero.pure
/-- A scheme's type, in memory. -/
structure OfOk (w0 w : World) (s : Sc) (p : Po) : Prop where
  po : PoIn w p
  vars : p.vars = ofVs s
  ty : p.ty.pure = ofTyP s
  new : p.vars ≠ [] → ∀ a, p.A = some a → w0.heap.size ≤ a.block
  away : ∀ c, c < w0.heap.size → awayB c s.ty = true → (∀ x ∈ s.preds, awayB c x.ty = true) → awayB c p.ty = true
theorem away_zero (c : Nat) : awayB c Ty.zero = true := awayB_mk (fun h => absurd rfl h) (by simp)
/-- Types of what is known, made of predicates, in memory. -/
structure DsOk (w0 wB w : World) (row : Option Nat) (l : List Pd) (ds : List Ty) : Prop where
  len : ds.length = l.length
  ty : ∀ d ∈ ds, TyIn w d
  is : ds.map Ty.pure = l.map fun p => dictP p.cls p.ty.pure
  row : ∀ d ∈ ds, ∀ c, row = some c → awayB c d = true
  away : ∀ d ∈ ds, ∀ c, c < wB.heap.size → (∀ p ∈ l, awayB c p.ty = true) → awayB c d = true
theorem DsOk.nil (w0 wB w : World) (row : Option Nat) : DsOk w0 wB w row [] [] := ⟨rfl, by simp, rfl, by simp, by simp⟩
theorem DsOk.ext {w0 wB w w' : World} {row : Option Nat} {l : List Pd} {ds : List Ty} (h : DsOk w0 wB w row l ds) (e : Ext w w') : DsOk w0 wB w' row l ds := ⟨h.len, fun d hd => (h.ty d hd).ext e, h.is, h.row, h.away⟩
theorem DsOk.snoc {w0 wB w w' w4 : World} {row row' : Option Nat} {l : List Pd} {ds : List Ty} {p : Pd} {b : Nat} (h : DsOk w0 wB w row l ds) (e : Ext w w') (hd : TyIn w' (dictT p.cls p.ty b)) (hb : w.heap.size ≤ b) (hp : TyIn w0 p.ty) (h0 : w0.heap.size ≤ wB.heap.size) (hB : wB.heap.size ≤ w.heap.size)
    (hr : ∀ c, row = some c → wB.heap.size ≤ c ∧ c < w.heap.size) (hg : w'.grownBy w4 row) (hr' : row' = row ∨ ∀ c, row' = some c → w'.heap.size ≤ c) : DsOk w0 wB w4 row' (l ++ [p]) (ds ++ [dictT p.cls p.ty b]) := by
  have hall : ∀ d ∈ ds ++ [dictT p.cls p.ty b], TyIn w' d ∧ (∀ c, row = some c → awayB c d = true) ∧ ∀ c, c < wB.heap.size → (∀ x ∈ l ++ [p], awayB c x.ty = true) → awayB c d = true := by
    intro d hd2
    rcases List.mem_append.1 hd2 with hd2 | hd2
    · exact ⟨(h.ty d hd2).ext e, h.row d hd2, fun c h1 h2 => h.away d hd2 c h1 (fun x hx => h2 x (List.mem_append.2 (.inl hx)))⟩
    · rw [List.mem_singleton] at hd2
      subst hd2
      exact ⟨hd, fun c hc => dictT_away (by have := hr c hc; omega) (away_new hp (by have := hr c hc; omega)), fun c h1 h2 => dictT_away (by omega) (h2 p (by simp))⟩
  refine ⟨by simp [h.len], fun d hd2 => (hall d hd2).1.grown hg (hall d hd2).2.1, by rw [List.map_append, List.map_append, h.is]; simp [dictT_pure], fun d hd2 c hc => ?_, fun d hd2 => (hall d hd2).2.2⟩
  rcases hr' with rfl | hr'
  · exact (hall d hd2).2.1 c hc
  · exact away_new (hall d hd2).1 (hr' c hc)
theorem zero_pure : Ty.zero.pure = .mk [] 0 [] := by rw [Ty.pure_eq]; rfl
def zeroPo : Array Value := #[.slice none 0 0, .string ⟨#[]⟩, .int .i64 0, .slice none 0 0]
theorem grown2 {a b c : World} {row : Option Nat} (h : a.grownBy b row) (k : b.grownBy c row) : a.grownBy c row := ⟨k.os.trans h.os, k.tape.trans h.tape, k.output.trans h.output, Nat.le_trans h.size k.size, fun j hj hne => (k.block j (Nat.lt_of_lt_of_le hj h.size) hne).trans (h.block j hj hne)⟩


end Go.Proofs.YtnomibjbjplieaaGreat

/- Contracts: what is free in a type for all of some variables; whether numbers are unlike; whether some are free; of the program. -/
namespace Go.Proofs.YtnomibjbjplieaaGreat
open Go.RowKit Go.Sort Go.Shelf

/-- What is free. -/
noncomputable def freeL (p : Po) : List Int := (onceI p.ty.vars).filter fun v => !(p.vars.any (· == v))
theorem freeL_len (p : Po) : (freeL p).length ≤ p.ty.size := Nat.le_trans (List.length_filter_le _ _) (Nat.le_trans (onceI_len _) (vars_len _))
/-- Is one of some variables among others? -/
def meetsI (vars l : List Int) : Bool := l.any fun v => vars.any (· == v)





theorem ints_keep {w W : World} {A : Option Addr} {l : List Int} (h : Ints w A l) (hs : w.heap.size ≤ W.heap.size) (hb : ∀ k, k < w.heap.size → W.heap[k]? = w.heap[k]?) : Ints W A l := Row.old h hb hs



end Go.Proofs.YtnomibjbjplieaaGreat

/- Contracts: whether numbers are unlike; whether two types for all of some variables are alike; of the program. -/
namespace Go.Proofs.YtnomibjbjplieaaGreat
open Go.RowKit Go.Sort Go.Shelf



end Go.Proofs.YtnomibjbjplieaaGreat

/- Contract: whether two types for all of some variables are alike; of the program. (A program of ours has printed a part.) -/
namespace Go.Proofs.YtnomibjbjplieaaGreat
open Go.RowKit

noncomputable def eqP (x y : Ty.Pure) : Bool := @decide (x = y) (Classical.propDecidable _)
theorem eqP_same {a u : Ty} {x : Ty.Pure} (h : u.pure = x) : sameB a u = eqP a.pure x := by subst h; rfl
/-- Are two the same, but for the names of own variables? -/
noncomputable def alikeP (a b : Po) : Bool :=
  decide (a.vars.length = b.vars.length) && decide a.vars.Nodup && decide b.vars.Nodup && !meetsI a.vars (freeL b) && !meetsI b.vars (freeL a) && eqP a.ty.pure (putP b.vars (a.vars.map varT) b.ty)
theorem set1 (us : List Ty) (n : Nat) (v : Int) : (rowT us (n + 1)).setIfInBounds (us.length * 3 + 1) (.int .i64 v) = rowT (us ++ [varT v]) n := by
  unfold rowT
  have h1 : (us ++ List.replicate (n + 1) Ty.zero).flatMap tyC.f = us.flatMap tyC.f ++ (tyC.f Ty.zero ++ (List.replicate n Ty.zero).flatMap tyC.f) := by
    rw [List.flatMap_append, List.replicate_succ, List.flatMap_cons]
  have h2 : (us ++ [varT v] ++ List.replicate n Ty.zero).flatMap tyC.f = us.flatMap tyC.f ++ (tyC.f (varT v) ++ (List.replicate n Ty.zero).flatMap tyC.f) := by
    rw [List.flatMap_append, List.flatMap_append, List.flatMap_cons, List.flatMap_nil, List.append_nil, List.append_assoc]
  have hl : (us.flatMap tyC.f).length = us.length * 3 := flat_len _ _ tyC.hf _
  rw [h1, h2, ← hl]
  generalize us.flatMap tyC.f = a
  generalize (List.replicate n Ty.zero).flatMap tyC.f = b
  show ((a ++ (([.string ⟨#[]⟩, .int .i64 0, .slice none 0 0] : List Value) ++ b)).toArray.setIfInBounds _ _) = (a ++ (([.string ⟨#[]⟩, .int .i64 v, .slice none 0 0] : List Value) ++ b)).toArray
  simp only [List.setIfInBounds_toArray]
  congr 1
  rw [List.set_append_right _ _ (by omega)]
  simp
theorem varsT_in (w : World) (A : Option Addr) (l : List Int) (h : RowOf tyC w A (l.map varT)) : TysIn w A (l.map varT) := ⟨h, fun k hk => by obtain ⟨v, _, rfl⟩ := List.mem_map.1 hk; exact varT_in w v⟩


end Go.Proofs.YtnomibjbjplieaaGreat

/- The values of chapter 31's example: plain facts. -/
namespace Go.Proofs.YtnomibjbjplieaaGreat
open Go.RowKit

theorem inv0 {t : Ty} {s : Str} {v : Int} (h : t.pure = .mk s v []) : ∃ A c, t = .mk s v A c [] := by
  cases t with
  | mk s' v' A c l =>
  rw [Ty.pure_eq] at h
  injection h with h1 h2 h3
  have h1' : s' = s := h1
  have h2' : v' = v := h2
  have h3' : l = [] := List.map_eq_nil_iff.1 h3
  subst h1' h2' h3'
  exact ⟨A, c, rfl⟩
theorem inv1 {t : Ty} {s : Str} {v : Int} {p : Ty.Pure} (h : t.pure = .mk s v [p]) : ∃ A c a, t = .mk s v A c [a] ∧ a.pure = p := by
  cases t with
  | mk s' v' A c l =>
  rw [Ty.pure_eq] at h
  injection h with h1 h2 h3
  have h1' : s' = s := h1
  have h2' : v' = v := h2
  have h3' : l.map Ty.pure = [p] := h3
  subst h1' h2'
  match l, h3' with
  | [a], h => simp at h; exact ⟨A, c, a, rfl, h⟩
theorem inv2 {t : Ty} {s : Str} {v : Int} {p q : Ty.Pure} (h : t.pure = .mk s v [p, q]) : ∃ A c a b, t = .mk s v A c [a, b] ∧ a.pure = p ∧ b.pure = q := by
  cases t with
  | mk s' v' A c l =>
  rw [Ty.pure_eq] at h
  injection h with h1 h2 h3
  have h1' : s' = s := h1
  have h2' : v' = v := h2
  have h3' : l.map Ty.pure = [p, q] := h3
  subst h1' h2'
  match l, h3' with
  | [a, b], h => simp at h; exact ⟨A, c, a, b, rfl, h.1, h.2⟩

/-- The scheme of the example. -/
def exSc (b : Nat) : Sc := ⟨1, some ⟨b, 0, none⟩, 1, [⟨[67], Ty.zero⟩], Ty.zero⟩
theorem zero_legal : legalT Ty.zero = true := by
  unfold legalT
  rw [zero_size, zero_depth, zero_shape]
  rfl
theorem ex_pd : pdB ⟨[67], Ty.zero⟩ = true := by
  unfold pdB
  rw [zero_legal]
  decide
theorem zero_vars : Ty.zero.vars = [0] := by rw [vars_eq]; rfl
theorem ex_scB (b : Nat) : scB (exSc b) = true := by
  unfold scB sVars pvars pvarsAll
  have h1 : legalT (exSc b).ty = true := zero_legal
  have h2 : (exSc b).preds.all pdB = true := by show ([⟨[67], Ty.zero⟩] : List Pd).all pdB = true; rw [List.all_cons, ex_pd]; rfl
  rw [h1, h2]
  show (true && true && decide ((0 : Int) ≤ 1) && decide ((1 : Int) ≤ 4096) && ([0] : List Nat).all fun i => (onceI ((([⟨[], Ty.zero⟩, ⟨[67], Ty.zero⟩] : List Pd).map fun p => onceI p.ty.vars).flatten)).any (· == (i : Int))) = true
  simp only [List.map_cons, List.map_nil, zero_vars]
  decide
theorem ex_vs (b : Nat) : ofVs (exSc b) = [0] := by unfold ofVs; rw [ex_scB]; rfl
theorem ex_ty (b : Nat) : ofTyP (exSc b) = .mk [45, 62] 0 [.mk [123, 67, 125] 0 [.mk [] 0 []], .mk [] 0 []] := by
  unfold ofTyP
  rw [ex_scB, if_pos rfl]
  show funPP [dictP [67] Ty.zero.pure] Ty.zero.pure = _
  rw [zero_pure]
  rfl

theorem putP_con {vars : List Int} {types : List Ty} {t : Ty} (h : t.con ≠ []) : putP vars types t = .mk t.con t.var (t.args.map (putP vars types)) := by rw [putP_eq, if_neg h]
/-- The type of the example, of a variable. -/
def exT (v : Int) (A : Option Addr) (c : Nat) (A1 : Option Addr) (c1 : Nat) (A2 : Option Addr) (c2 : Nat) (A3 : Option Addr) (c3 : Nat) : Ty :=
  .mk [45, 62] 0 A c [.mk [123, 67, 125] 0 A1 c1 [.mk [] v A2 c2 []], .mk [] v A3 c3 []]
theorem exT_of {t : Ty} {v : Int} (h : t.pure = .mk [45, 62] 0 [.mk [123, 67, 125] 0 [.mk [] v []], .mk [] v []]) : ∃ A c A1 c1 A2 c2 A3 c3, t = exT v A c A1 c1 A2 c2 A3 c3 := by
  obtain ⟨A, c, a, b, rfl, ha, hb⟩ := inv2 h
  obtain ⟨A1, c1, d, rfl, hd⟩ := inv1 ha
  obtain ⟨A2, c2, rfl⟩ := inv0 hd
  obtain ⟨A3, c3, rfl⟩ := inv0 hb
  exact ⟨A, c, A1, c1, A2, c2, A3, c3, rfl⟩
section
variable (v : Int) (A : Option Addr) (c : Nat) (A1 : Option Addr) (c1 : Nat) (A2 : Option Addr) (c2 : Nat) (A3 : Option Addr) (c3 : Nat)
theorem lf_size : (Ty.mk [] v A2 c2 []).size = 1 := by rw [Ty.size_eq]; rfl
theorem lf_depth : (Ty.mk [] v A2 c2 []).depth = 1 := by rw [Ty.depth_eq]; rfl
theorem lf_vars : (Ty.mk [] v A2 c2 []).vars = [v] := by rw [vars_eq]; rfl
theorem lf_shapeD : shapeD (Ty.mk [] v A2 c2 []) = true := by
  rw [shapeD_eq]
  show ((dictB (Ty.mk [] v A2 c2 []) || headOk [] v 0) && true) = true
  rw [show headOk [] v 0 = true from rfl]
  simp
theorem lf_text : textT (Ty.mk [] v A2 c2 []) = varS v := by
  rw [textT_else (by rintro ⟨h, -⟩; cases h)]
  show (if ([] : Str) = [] then varS v else []) ++ restT [] = _
  simp [restT]
theorem exT_size : (exT v A c A1 c1 A2 c2 A3 c3).size = 4 := by
  unfold exT
  rw [Ty.size_eq]
  show ([Ty.mk [123, 67, 125] 0 A1 c1 [.mk [] v A2 c2 []], .mk [] v A3 c3 []].map Ty.size).sum + 1 = 4
  rw [List.map_cons, List.map_cons, lf_size, Ty.size_eq]
  show (([Ty.mk [] v A2 c2 []].map Ty.size).sum + 1 + (1 + 0)) + 1 = 4
  rw [List.map_cons, lf_size]
  rfl
theorem exT_depth : (exT v A c A1 c1 A2 c2 A3 c3).depth = 3 := by
  unfold exT
  rw [Ty.depth_eq]
  show ([Ty.mk [123, 67, 125] 0 A1 c1 [.mk [] v A2 c2 []], .mk [] v A3 c3 []].map Ty.depth).foldr max 0 + 1 = 3
  rw [List.map_cons, List.map_cons, lf_depth, Ty.depth_eq]
  show (List.foldr max 0 [([Ty.mk [] v A2 c2 []].map Ty.depth).foldr max 0 + 1, 1]) + 1 = 3
  rw [List.map_cons, lf_depth]
  rfl
theorem exT_shape : shapeD (exT v A c A1 c1 A2 c2 A3 c3) = true := by
  unfold exT
  rw [shapeD_eq]
  show ((dictB _ || headOk [45, 62] 0 2) && [Ty.mk [123, 67, 125] 0 A1 c1 [.mk [] v A2 c2 []], .mk [] v A3 c3 []].all shapeD) = true
  rw [List.all_cons, List.all_cons, lf_shapeD, shapeD_eq]
  show ((dictB _ || headOk [45, 62] 0 2) && ((dictB (Ty.mk [123, 67, 125] 0 A1 c1 [.mk [] v A2 c2 []]) || headOk _ _ _) && [Ty.mk [] v A2 c2 []].all shapeD && (true && true))) = true
  rw [List.all_cons, lf_shapeD, show headOk [45, 62] 0 2 = true from rfl, show dictB (Ty.mk [123, 67, 125] 0 A1 c1 [.mk [] v A2 c2 []]) = true from by unfold dictB; show (!(classS [123, 67, 125] == []) && (1 == 1) && ((0 : Int) == 0)) = true; decide]
  simp
theorem exT_legal : legalD (exT v A c A1 c1 A2 c2 A3 c3) = true := by
  unfold legalD
  rw [exT_size, exT_depth, exT_shape]
  rfl
theorem exT_term : legalT (exT v A c A1 c1 A2 c2 A3 c3) = false := by
  unfold legalT
  have : shapeT (exT v A c A1 c1 A2 c2 A3 c3) = false := by
    unfold exT
    rw [shapeT_eq]
    show (headOk [45, 62] 0 2 && [Ty.mk [123, 67, 125] 0 A1 c1 [.mk [] v A2 c2 []], .mk [] v A3 c3 []].all shapeT) = false
    rw [List.all_cons, shapeT_eq]
    show (headOk [45, 62] 0 2 && (headOk [123, 67, 125] 0 1 && _ && _)) = false
    rw [show headOk [123, 67, 125] 0 1 = false from by decide]
    simp
  rw [this, Bool.and_false]
theorem exT_vars : (exT v A c A1 c1 A2 c2 A3 c3).vars = [v, v] := by
  unfold exT
  rw [vars_eq]
  show ([] : List Int) ++ ([Ty.mk [123, 67, 125] 0 A1 c1 [.mk [] v A2 c2 []], .mk [] v A3 c3 []].map Ty.vars).flatten = [v, v]
  rw [List.map_cons, List.map_cons, lf_vars, vars_eq]
  show ([] : List Int) ++ [([] : List Int) ++ ([Ty.mk [] v A2 c2 []].map Ty.vars).flatten, [v]].flatten = [v, v]
  rw [List.map_cons, lf_vars]
  rfl
theorem exT_text : textT (exT v A c A1 c1 A2 c2 A3 c3) = ([123, 67, 125, 32] : Str) ++ varS v ++ ([32, 45, 62, 32] : Str) ++ varS v := by
  unfold exT
  have hd : textT (Ty.mk [123, 67, 125] 0 A1 c1 [.mk [] v A2 c2 []]) = ([123, 67, 125, 32] : Str) ++ varS v := by
    rw [textT_else (by rintro ⟨h, -⟩; cases h)]
    show (if ([123, 67, 125] : Str) = [] then varS 0 else [123, 67, 125]) ++ restT [Ty.mk [] v A2 c2 []] = _
    unfold restT
    rw [List.map_cons, lf_text]
    simp [brack, Ty.args]
  rw [textT_fun rfl (by show 0 < 2; decide) (by show 1 < 2; decide) rfl]
  show brack (decide (([123, 67, 125] : Str) = [45, 62])) (textT (Ty.mk [123, 67, 125] 0 A1 c1 [.mk [] v A2 c2 []])) ++ ([32, 45, 62, 32] : Str) ++ textT (Ty.mk [] v A3 c3 []) = _
  rw [hd, lf_text]
  rfl
theorem exT_ok (h0 : -9223372036854775808 ≤ v) (h1 : v ≤ 9223372036854775807) : okI (exT v A c A1 c1 A2 c2 A3 c3) = true := by
  have hl : ∀ B k, okI (Ty.mk [] v B k []) = true := fun B k => okI_mk h0 h1 (by decide) (by simp)
  refine okI_mk (by decide) (by decide) (by decide) (fun k hk => ?_)
  simp at hk
  rcases hk with rfl | rfl
  · exact okI_mk (by decide) (by decide) (by decide) (fun k hk => by simp at hk; subst hk; exact hl _ _)
  · exact hl _ _
theorem exT_pure : (exT v A c A1 c1 A2 c2 A3 c3).pure = .mk [45, 62] 0 [.mk [123, 67, 125] 0 [.mk [] v []], .mk [] v []] := by
  unfold exT
  rw [Ty.pure_eq]
  show Ty.Pure.mk [45, 62] 0 ([Ty.mk [123, 67, 125] 0 A1 c1 [.mk [] v A2 c2 []], .mk [] v A3 c3 []].map Ty.pure) = _
  rw [List.map_cons, List.map_cons, Ty.pure_eq (.mk [] v A3 c3 []), Ty.pure_eq (.mk [123, 67, 125] 0 A1 c1 [.mk [] v A2 c2 []])]
  show Ty.Pure.mk [45, 62] 0 [Ty.Pure.mk [123, 67, 125] 0 ([Ty.mk [] v A2 c2 []].map Ty.pure), Ty.Pure.mk [] v []] = _
  rw [List.map_cons, Ty.pure_eq (.mk [] v A2 c2 [])]
  rfl
/-- Another variable in the place of its own. -/
theorem exT_put (x : Int) : putP [v] [varT x] (exT v A c A1 c1 A2 c2 A3 c3) = .mk [45, 62] 0 [.mk [123, 67, 125] 0 [.mk [] x []], .mk [] x []] := by
  have hl : ∀ B k, putP [v] [varT x] (Ty.mk [] v B k []) = .mk [] x [] := fun B k => by
    rw [putP_eq, if_pos (show (Ty.mk [] v B k []).con = [] from rfl)]
    have : putAt [v] [varT x] (Ty.mk [] v B k []).var = some (varT x) := by
      show putAt [v] [varT x] v = some (varT x)
      unfold putAt idxI
      simp
    rw [this]
    show (varT x).pure = _
    rw [Ty.pure_eq]
    rfl
  unfold exT
  rw [putP_con (show (Ty.mk [45, 62] 0 A c [Ty.mk [123, 67, 125] 0 A1 c1 [.mk [] v A2 c2 []], .mk [] v A3 c3 []]).con ≠ [] from by show ([45, 62] : Str) ≠ []; decide)]
  show Ty.Pure.mk [45, 62] 0 ([Ty.mk [123, 67, 125] 0 A1 c1 [.mk [] v A2 c2 []], .mk [] v A3 c3 []].map (putP [v] [varT x])) = _
  rw [List.map_cons, List.map_cons, hl, putP_con (show (Ty.mk [123, 67, 125] 0 A1 c1 [.mk [] v A2 c2 []]).con ≠ [] from by show ([123, 67, 125] : Str) ≠ []; decide)]
  show Ty.Pure.mk [45, 62] 0 [Ty.Pure.mk [123, 67, 125] 0 ([Ty.mk [] v A2 c2 []].map (putP [v] [varT x])), .mk [] x []] = _
  rw [List.map_cons, hl]
  rfl
end

end Go.Proofs.YtnomibjbjplieaaGreat

/- Contract: chapter 31's example. -/
namespace Go.Proofs.YtnomibjbjplieaaGreat
open Go.RowKit

theorem ex_text {p : Po} (hv : p.vars = [0]) (ht : p.ty.pure = .mk [45, 62] 0 [.mk [123, 67, 125] 0 [.mk [] 0 []], .mk [] 0 []]) :
    polyS p = [102, 111, 114, 97, 108, 108, 32, 97, 46, 32, 123, 67, 125, 32, 97, 32, 45, 62, 32, 97] := by
  obtain ⟨A, c, A1, c1, A2, c2, A3, c3, e⟩ := exT_of ht
  unfold polyS
  rw [e, exT_legal, hv, exT_text]
  rfl
theorem ex_free {p : Po} (hv : p.vars = []) (ht : p.ty.pure = .mk [45, 62] 0 [.mk [123, 67, 125] 0 [.mk [] 0 []], .mk [] 0 []]) : freeL p = [0] := by
  obtain ⟨A, c, A1, c1, A2, c2, A3, c3, e⟩ := exT_of ht
  unfold freeL
  rw [e, exT_vars, hv]
  rfl
theorem ex_none {p : Po} {v : Int} (hv : p.vars = [v]) (ht : p.ty.pure = .mk [45, 62] 0 [.mk [123, 67, 125] 0 [.mk [] v []], .mk [] v []]) : freeL p = [] := by
  obtain ⟨A, c, A1, c1, A2, c2, A3, c3, e⟩ := exT_of ht
  unfold freeL
  rw [e, exT_vars, hv]
  simp [onceI, onceGo]
theorem ex_alike {p q : Po} (hv : p.vars = [0]) (ht : p.ty.pure = .mk [45, 62] 0 [.mk [123, 67, 125] 0 [.mk [] 0 []], .mk [] 0 []]) (hv' : q.vars = [5]) (ht' : q.ty.pure = .mk [45, 62] 0 [.mk [123, 67, 125] 0 [.mk [] 5 []], .mk [] 5 []]) : alikeP p q = true := by
  unfold alikeP
  rw [ex_none hv ht, ex_none hv' ht', hv, hv', ht]
  obtain ⟨A, c, A1, c1, A2, c2, A3, c3, e⟩ := exT_of ht'
  rw [e, show ([0] : List Int).map varT = [varT 0] from rfl, exT_put]
  have : eqP (.mk [45, 62] 0 [.mk [123, 67, 125] 0 [.mk [] 0 []], .mk [] 0 []]) (.mk [45, 62] 0 [.mk [123, 67, 125] 0 [.mk [] 0 []], .mk [] 0 []]) = true := by unfold eqP; exact @decide_eq_true _ (Classical.propDecidable _) rfl
  rw [this]
  rfl
theorem ex_unlike {p q : Po} (hv : p.vars = [0]) (hv' : q.vars = []) : alikeP p q = false := by
  unfold alikeP
  rw [hv, hv']
  rfl

theorem ex_cls (b : Nat) : dictB (dictT [67] (varT 3) b) = true ∧ clsOf (dictT [67] (varT 3) b) = [67] ∧ argOf (dictT [67] (varT 3) b) = varT 3 := by
  have h : dictB (dictT [67] (varT 3) b) = true := by
    unfold dictB
    show (!(classS [123, 67, 125] == []) && ((1 : Nat) == 1) && ((0 : Int) == 0)) = true
    decide
  refine ⟨h, ?_, ?_⟩
  · unfold clsOf
    rw [h, if_pos rfl]
    show classS [123, 67, 125] = [67]
    decide
  · unfold argOf
    rw [h, if_pos rfl]
    rfl
theorem ex_cls0 : dictB (Ty.mk [67] 0 none 0 []) = false := by
  unfold dictB
  show (!(classS [67] == []) && ((0 : Nat) == 1) && ((0 : Int) == 0)) = false
  decide
theorem ex_bad : legalD (Ty.mk [123, 99, 125] 0 none 0 []) = false := by
  unfold legalD
  rw [shapeD_eq]
  show (_ && _ && ((dictB (Ty.mk [123, 99, 125] 0 none 0 []) || headOk [123, 99, 125] 0 0) && _)) = false
  have : dictB (Ty.mk [123, 99, 125] 0 none 0 []) = false := by
    unfold dictB
    show (!(classS [123, 99, 125] == []) && ((0 : Nat) == 1) && ((0 : Int) == 0)) = false
    decide
  rw [this, show headOk [123, 99, 125] 0 0 = false from by decide]
  simp


end Go.Proofs.YtnomibjbjplieaaGreat

/- Contract: a variable's type, of the reference. -/
namespace Go.Proofs.YtnomibjbjplieaaGreat
open Go.RowKit

theorem r_V16 (v : Int) (w : World) : Calls Tryz.prog 66 #[.int .i64 v] w fun e w' => e = .returned (tyV (.mk [] v none 0 [])) ∧ Ext w w' := by
  go_enter Tryz.func66, Tryz.ntmps66
  go_wp2
  refine bodyPost_ret (v := tyV (.mk [] v none 0 [])) ?_ rfl ⟨rfl, (by repeat (first | exact Ext.refl _ | exact Ext.pre (by simp) | exact Ext.alloc (by assumption) _ | refine Ext.alloc ?_ _ |  refine Ext.more ?_ _ _ | refine Ext.drew ?_ | refine Ext.drewN ?_ _))⟩
  simp [results, Tryz.f66, tyV, Ty.con, Ty.var, Ty.A, Ty.args, Ty.cap, go_sem]

end Go.Proofs.YtnomibjbjplieaaGreat

/- Contracts on the reference: a type's text. (A program of ours has printed a part.) -/
namespace Go.Proofs.YtnomibjbjplieaaGreat
open Go.RowKit

/-- May a type's text be told? -/
noncomputable def goodT : Ty → Bool := Ty.allB fun t => (!(t.con == [45, 62]) || decide (t.args.length = 2)) && (!(t.con == []) || decide (t.args.length = 0))
theorem goodT_eq (t : Ty) : goodT t = (((!(t.con == [45, 62]) || decide (t.args.length = 2)) && (!(t.con == []) || decide (t.args.length = 0))) && t.args.all goodT) := allB_eq _ t
theorem goodT_arg {t : Ty} (h : goodT t = true) {k : Ty} (hk : k ∈ t.args) : goodT k = true := by
  rw [goodT_eq, Bool.and_eq_true] at h
  exact List.all_eq_true.1 h.2 k hk
theorem goodT_fun {t : Ty} (h : goodT t = true) (hc : (t.con == [45, 62]) = true) : t.args.length = 2 := by
  rw [goodT_eq, hc, Bool.and_eq_true, Bool.and_eq_true] at h
  simpa using h.1.1
theorem goodT_var {t : Ty} (h : goodT t = true) (hc : (t.con == []) = true) : t.args = [] := by
  rw [goodT_eq, hc, Bool.and_eq_true, Bool.and_eq_true] at h
  have := h.1.2
  exact List.eq_nil_of_length_eq_zero (by simpa using this)



end Go.Proofs.YtnomibjbjplieaaGreat
