/- Contracts on the reference: whether a type of System F may be. (A program of ours has printed a part.) -/
import Derived.Test.YtcnepaiapefggaaGreatJF23
import Derived.Deep.DeepCutAuto
/- Contracts on the reference: whether a type of System F may be. (A program of ours has printed a part.) -/
namespace Go.Proofs.YtcnepaiapefggaaGreat
open Go.RowKit Go.Sort

def zrow (k : Nat) : List Value := (List.replicate k Ty.zero).flatMap tyC.f
theorem zrow_succ (k : Nat) : zrow (k + 1) = zrow k ++ [.string ⟨#[]⟩, .int .i64 0, .slice none 0 0] := by
  unfold zrow
  rw [List.replicate_succ', List.flatMap_append]
  rfl
/-- A type whose args are empty, as many as there are. -/
def flatA (t : Ty) (A : Option Addr) (c : Nat) : Ty := .mk t.con t.var A c (List.replicate t.args.length Ty.zero)
theorem flatA_legal (t : Ty) (A : Option Addr) (c : Nat) (h : t.args.length < 4096) : legalT (flatA t A c) = headOk t.con t.var t.args.length := by
  have e : (flatA t A c).size = (flatT t 0).size := by
    rw [Ty.size_eq, Ty.size_eq]
    show ((List.replicate t.args.length Ty.zero).map Ty.size).sum + 1 = ((List.replicate (min t.args.length 4095) Ty.zero).map Ty.size).sum + 1
    rw [show min t.args.length 4095 = t.args.length by omega]
  have e2 : (flatA t A c).depth = (flatT t 0).depth := by
    rw [Ty.depth_eq, Ty.depth_eq]
    show ((List.replicate t.args.length Ty.zero).map Ty.depth).foldr max 0 + 1 = ((List.replicate (min t.args.length 4095) Ty.zero).map Ty.depth).foldr max 0 + 1
    rw [show min t.args.length 4095 = t.args.length by omega]
  have e3 : shapeT (flatA t A c) = shapeT (flatT t 0) := by
    rw [shapeT_eq, shapeT_eq]
    show (headOk t.con t.var (List.replicate t.args.length Ty.zero).length && (List.replicate t.args.length Ty.zero).all shapeT) = (headOk t.con t.var (List.replicate (min t.args.length 4095) Ty.zero).length && (List.replicate (min t.args.length 4095) Ty.zero).all shapeT)
    rw [show min t.args.length 4095 = t.args.length by omega]
  have := flat_legal t 0
  unfold legalT at this ⊢
  rw [e, e2, e3]
  exact this
theorem flatA_size (t : Ty) (A : Option Addr) (c : Nat) : (flatA t A c).size = t.args.length + 1 := by
  rw [Ty.size_eq]
  show ((List.replicate t.args.length Ty.zero).map Ty.size).sum + 1 = _
  rw [List.map_replicate, List.sum_replicate_nat, zero_size]
  omega
/-- What the reference tells of a type: all of it is right, where none has too many args. -/
noncomputable def shapeR : Ty → Bool := Ty.allB fun t => dictB t || decide (4096 ≤ t.args.length) || headOk t.con t.var t.args.length
theorem shapeR_eq (t : Ty) : shapeR t = ((dictB t || decide (4096 ≤ t.args.length) || headOk t.con t.var t.args.length) && t.args.all shapeR) := allB_eq _ t
theorem shapeR_D (t : Ty) (h : t.size ≤ 4096) : shapeR t = shapeD t := by
  induction t using Ty.ind with
  | h t ih =>
  rw [shapeR_eq, shapeD_eq]
  have h1 := Ty.args_len t
  have h2 : decide (4096 ≤ t.args.length) = false := by simp; omega
  rw [h2, Bool.or_false]
  congr 1
  rw [Bool.eq_iff_iff, List.all_eq_true, List.all_eq_true]
  exact ⟨fun k x hx => by rw [← ih x hx (by have := Ty.size_arg hx; omega)]; exact k x hx, fun k x hx => by rw [ih x hx (by have := Ty.size_arg hx; omega)]; exact k x hx⟩

set_option maxRecDepth 10000 in
set_option maxHeartbeats 2000000 in
theorem r_shape31 (t : Ty) : ∀ (w : World), TyIn w t → t.size ≤ 90000 →
    Calls Tryz.prog 43 #[tyV t] w fun e w' => e = .returned (.bool (shapeR t)) ∧ Ext w w' := by
  induction t using Ty.ind with
  | h t ih =>
  intro w h hsz
  have IH := hide ih
  have Hk := hide h.all
  have hle := h.le
  have hmx := h.max
  have HB0 := hide (TBox.new w t)
  have X0 : Hid (Ext w (w.alloc (.cells #[encStr t.con, .int .i64 t.var, .slice t.A t.args.length t.cap] 24))) := hide ((Ext.refl w).alloc _)
  obtain ⟨i0, hi, hz0, hz1, hz2⟩ := info_parts ty_info
  have HP := hide (shapeR_eq t)
  have htx := h.txt
  have hal := Ty.args_len t
  have HSz := hide (fun k (hk : k ∈ t.args) => Ty.size_arg hk)
  have HCl := hide (fun w' (e : Ext w w') => hide (r_class31 t w' (h.ext e)))
  unfold classV at HCl
  generalize shapeR t = R at *
  generalize argOf t = au at *
  generalize clsOf t = cu at *
  clear ih h
  unfold tyV at *
  go_enter Tryz.func43, Tryz.ntmps43
  go_wp2
  generalize (w.alloc (.cells #[encStr t.con, .int .i64 t.var, .slice t.A t.args.length t.cap] 24)) = w0 at *
  go_loopw [3] (fun i wr => ∃ k : Nat, k ≤ t.args.length ∧ i = .int .i64 k ∧ Hid (∀ x ∈ t.args.take k, shapeR x = true) ∧ Hid (Ext w0 wr)) (fun i _ => t.args.length - (intOf i).toNat)
  case atStart => exact ⟨0, Nat.zero_le _, rfl, hide (by simp), hide (Ext.refl _)⟩
  case round =>
    obtain ⟨k, hk, rfl, HA, HX⟩ := hrel
    have HB := hide (HB0.out.ext HX.out)
    have hc2 := HB.out.c2
    by_cases hlt : k < t.args.length
    · have hlt' : (k : Int) < (t.args.length : Int) := by omega
      have hk0 : (0 : Int) ≤ (k : Int) := by omega
      obtain ⟨b, o, hA, hb, q0, q1, q2⟩ := (Hk.out.ext (X0.out.trans HX.out)).at_ hlt
      have hkm := List.getElem_mem hlt
      have Htk : Hid (t.args.take (k + 1) = t.args.take k ++ [t.args[k]'hlt]) := hide (List.take_succ_eq_append_getElem hlt)
      have Hmem := hide (List.getElem_mem hlt)
      have hcs := HSz.out _ hkm
      have HC := hide (IH.out _ hkm wr ((Hk.out.args _ hkm).ext (X0.out.trans HX.out)) (by omega))
      rw [hA] at hc2; clear hA hkm
      clear hcs
      generalize t.args[k]'hlt = c at *
      cases hs : shapeR c
      · rw [hs] at HC
        have hR : R = false := by
          rw [HP.out, Bool.and_eq_false_iff]
          right
          rw [← Bool.not_eq_true, List.all_eq_true]
          intro h
          rw [h _ Hmem.out] at hs
          cases hs
        clear HP
        subst hR
        go_wp2_with fail
        refine HC.out.mono ?_
        rintro e w3 ⟨rfl, hx3⟩
        have X3 := hide (HX.out.trans hx3)
        clear hx3
        go_wp2
        go_ret
        exact ⟨rfl, X0.out.trans X3.out⟩
      · rw [hs] at HC
        go_wp2_with fail
        refine HC.out.mono ?_
        rintro e w3 ⟨rfl, hx3⟩
        have X3 := hide (HX.out.trans hx3)
        clear hx3
        go_wp2
        go_roundw
        case rel =>
          refine ⟨k + 1, hlt, by go_num, hide (fun x hx => ?_), X3⟩
          rw [Htk.out, List.mem_append, List.mem_singleton] at hx
          rcases hx with hx | rfl
          · exact HA.out x hx
          · exact hs
        case measure => simp [intOf]; omega
    · have hge : ¬ (k : Int) < (t.args.length : Int) := by omega
      have HR : Hid (R = (dictB t || decide (4096 ≤ t.args.length) || headOk t.con t.var t.args.length)) := hide (by
        rw [HP.out]
        have : t.args.all shapeR = true := List.all_eq_true.2 (fun x hx => HA.out x (by rw [List.take_of_length_le (by omega)]; exact hx))
        rw [this, Bool.and_true])
      clear HP HA
      have hc0 := HB.out.c0
      have hc1 := HB.out.c1
      cases hdi : dictB t
      rotate_left 1
      · rw [hdi] at HCl HR
        have hR : R = true := by rw [HR.out]; rfl
        clear HR
        subst hR
        go_wp2_with fail
        refine (HCl.out _ (X0.out.trans HX.out)).out.mono ?_
        rintro e w3 ⟨rfl, hx3⟩
        have X3 := hide (HX.out.trans hx3)
        clear hx3
        go_wp2
        go_ret
        exact ⟨rfl, (X0.out.trans X3.out).alloc _⟩
      · rw [hdi] at HCl HR
        go_wp2_with fail
        refine (HCl.out _ (X0.out.trans HX.out)).out.mono ?_
        rintro e w3 ⟨rfl, hx3⟩
        have X3 := hide (HX.out.trans hx3)
        have HB3 := hide (HB.out.ext hx3)
        have d0 := HB3.out.c0
        have d1 := HB3.out.c1
        have hlt3 : w.heap.size < w3.heap.size := HB3.out.lt
        clear hx3 hc0 hc1 hc2
        obtain ⟨wb, hwb⟩ : ∃ wb, wb = (w3.alloc (.cells #[.string ⟨au.con.toArray⟩, .int .i64 au.var, .slice au.A au.args.length au.cap] 24)).alloc (.cells #[.string ⟨t.con.toArray⟩, .int .i64 t.var, .slice none 0 0] 24) := ⟨_, rfl⟩
        have hsb : wb.heap.size = w3.heap.size + 1 + 1 := by rw [hwb]; simp
        have XB : Hid (Ext w3 wb) := hide (by rw [hwb]; exact ((Ext.refl _).alloc _).alloc _)
        have XC : Hid (Ext w wb) := hide (X0.out.trans (X3.out.trans XB.out))
        have BB : Hid (TBox wb w.heap.size t) := hide (HB3.out.ext XB.out)
        obtain ⟨pu, hpu⟩ : ∃ pu, pu = w3.heap.size + 1 := ⟨_, rfl⟩
        have UB : Hid (wb.heap[pu]? = some (.cells #[encStr t.con, .int .i64 t.var, .slice none 0 0] 24 (0, 0))) := hide (by rw [hwb]; exact at_newB _ _ _ (by simp [hpu]))
        have hpl : pu < wb.heap.size := by omega
        have hpw : w.heap.size < pu := by omega
        have O0 : Hid (wb.ownsRow wb.heap.size 24 3 (.slice none 0 0) 0 (zrow 0)) := hide (World.ownsRow_nil _ _ _ _)
        have T0 : Hid (Tr pu wb (.slice none 0 0) wb (.slice none 0 0)) := hide (Tr.refl _ _ _)
        go_upto_region 11 with fail
        rw [← hwb]
        rw [← hpu]
        clear hwb hsb d0 d1 hlt3 hpu XB
        go_loopw [8] (fun i wr => ∃ (k : Nat) (v : Value), k ≤ t.args.length ∧ i = .int .i64 k ∧ Hid (wr.heap[pu]? = some (.cells #[encStr t.con, .int .i64 t.var, v] 24 (0, 0))) ∧ Hid (wr.ownsRow wb.heap.size 24 3 v k (zrow k)) ∧ Hid (Tr pu wb (.slice none 0 0) wr v)) (fun i _ => t.args.length - (intOf i).toNat)
        case atStart => exact ⟨0, .slice none 0 0, Nat.zero_le _, rfl, UB, O0, T0⟩
        case round =>
          rename World => wr2
          obtain ⟨j, v, hj, rfl, HU, HO, HT⟩ := hrel
          have BR := hide (BB.out.tr HT.out (by omega) (fun e => by cases e))
          have b2 := BR.out.c2
          have hul := lt_of_obj HU.out
          have hnv : v.ownBlock ≠ some pu := fun e => by have := (HO.out.lt pu e).1; omega
          by_cases hltj : j < t.args.length
          · have hltj' : (j : Int) < (t.args.length : Int) := by omega
            have hu2 := bytes_block HU.out 2
            simp only [List.getElem?_toArray, List.getElem?_cons_zero, List.getElem?_cons_succ] at hu2
            have hS0 : (wr2.drew).cell? ⟨pu, 2, none⟩ = some v := hu2
            go_wp2
            refine but_startN 6 7 #[false, false, false, false, false, false, false] (fun w' => w'.cell? ⟨pu, 2, none⟩ = some v) (by kernel_rfl) (by kernel_rfl) (by kernel_rfl) ?_
            (refine but_takeL (i := 0) (v := ?_) rfl (by kernel_rfl) (by kernel_rfl) (by kernel_rfl) (by kernel_rfl) (fun _ _ _ h => h) (Or.inl ⟨by kernel_rfl, ?_⟩) (by assumption) ?_; rotate_left 1; (focus (intro w hSw; (try dsimp only at hSw); (try obtain ⟨g1, g2, g3⟩ := hSw); (try obtain ⟨g1, g2⟩ := hSw); go_simp; try with_reducible rfl)); simp only [Act.put, List.setIfInBounds_toArray, List.set_cons_zero, List.set_cons_succ])
            (refine but_takeL (i := 1) (v := ?_) rfl (by kernel_rfl) (by kernel_rfl) (by kernel_rfl) (by kernel_rfl) (fun _ _ _ h => h) (Or.inl ⟨by kernel_rfl, ?_⟩) (by assumption) ?_; rotate_left 1; (focus (intro w hSw; (try dsimp only at hSw); (try obtain ⟨g1, g2, g3⟩ := hSw); (try obtain ⟨g1, g2⟩ := hSw); go_simp; try with_reducible rfl)); simp only [Act.put, List.setIfInBounds_toArray, List.set_cons_zero, List.set_cons_succ])
            refine but_step (i := 2) (by kernel_rfl) rfl (fun KK hK => ?_)
            go_simp
            refine Calls.mono (r_V16 0 _) ?_
            rintro e w8 ⟨rfl, hx8⟩
            have X8 : Hid (Ext wr2 w8) := hide (((Ext.refl wr2).drew).trans hx8)
            have hS8 : w8.cell? ⟨pu, 2, none⟩ = some v := X8.out.cell hu2
            clear hx8
            refine hK.out _ _ (fun _ => hS8) ?_
            clear hK KK
            simp only [List.setIfInBounds_toArray, List.set_cons_zero, List.set_cons_succ]
            refine but_step (i := 3) (by kernel_rfl) rfl (fun KK hK => ?_)
            go_simp
            refine hK.out _ _ (fun _ => ((Ext.refl w8).alloc _).cell hS8) ?_
            clear hK KK
            simp only [List.setIfInBounds_toArray, List.set_cons_zero, List.set_cons_succ]
            refine but_step (i := 4) (by kernel_rfl) rfl (fun KK hK => ?_)
            refine step_append_rowB _ rfl (.tmp 43) (.tmp 45) 22 rfl wb.heap.size 24 i0 _ 3 48 Tryz.underlying22 hi hz0 hz1 hz2 rfl (by decide) v j (zrow j) rfl (own_extB HO.out (X8.out.alloc _)) (some ⟨w8.heap.size, 0, none⟩) 1 1 [.string ⟨#[]⟩, .int .i64 0, .slice none 0 0] rfl (RowOf.block tyC [Ty.zero] (at_newB _ _ _ rfl)) ?_ (by unfold maxLen; omega) (by omega) (by have := HT.out.size; have := X8.out.size; simp; omega) ?_
            · intro y hy
              simp at hy
              rcases hy with rfl | rfl | rfl <;> rfl
            intro v9 w9 hown9 hg9 hat9
            have hown9' : w9.ownsRow wb.heap.size 24 3 v9 (List.replicate (j + 1) Ty.zero).length ((List.replicate (j + 1) Ty.zero).flatMap tyC.f) := by
              rw [List.length_replicate]
              have := zrow_succ j
              unfold zrow at this
              rw [this]
              exact hown9
            obtain ⟨A9, cp9, hv9, -⟩ := RowOf.own tyC hown9'
            rw [List.length_replicate] at hv9
            subst hv9
            clear hown9'
            have X9 : Ext wr2 (w8.alloc (.cells #[.string ⟨#[]⟩, .int .i64 0, .slice none 0 0] 24)) := X8.out.alloc _
            have hp9 : w9.heap[pu]? = some (.cells #[encStr t.con, .int .i64 t.var, v] 24 (0, 0)) := (hg9.block pu (Nat.lt_of_lt_of_le hul X9.size) (fun e => hnv e.symm)).trans ((X9.heap hul).trans HU.out)
            have hS9 : w9.cell? ⟨pu, 2, none⟩ = some v := bytes_block hp9 2
            have hf9 : w9.frozen? ⟨pu, 2, none⟩ = false := free_block hp9 2
            have HP9 : Hid ((w9.setCell ⟨pu, 2, none⟩ (.slice A9 (j + 1) cp9)).heap[pu]? = some (.cells #[encStr t.con, .int .i64 t.var, .slice A9 (j + 1) cp9] 24 (0, 0))) := hide (by have := blk_setCell hp9 2 (.slice A9 (j + 1) cp9); simpa using this)
            have T9 : Hid (Tr pu wb (.slice none 0 0) (w9.setCell ⟨pu, 2, none⟩ (.slice A9 (j + 1) cp9)) (.slice A9 (j + 1) cp9)) := hide (HT.out.trans ⟨hg9.os.trans X9.below.os, hg9.tape.trans X9.below.tape, hg9.output.trans X9.below.output, by rw [show (w9.setCell ⟨pu, 2, none⟩ (.slice A9 (j + 1) cp9)).heap.size = w9.heap.size by simp [World.setCell]]; exact Nat.le_trans X9.size hg9.size,
              fun k hk hkc hkv => (Below.heap_setCell w9 ⟨pu, 2, none⟩ (.slice A9 (j + 1) cp9) k hkc).trans ((hg9.block k (Nat.lt_of_lt_of_le hk X9.size) (fun e => hkv e.symm)).trans (X9.heap hk)),
              by
                rcases hat9 with h1 | h1
                · exact .inl h1
                · exact .inr (fun k hk => by rw [h1] at hk; injection hk with hk; rw [← hk]; exact X9.size)⟩)
            have O9 : Hid ((w9.setCell ⟨pu, 2, none⟩ (.slice A9 (j + 1) cp9)).ownsRow wb.heap.size 24 3 (.slice A9 (j + 1) cp9) (j + 1) (zrow (j + 1))) := hide (by
              have h5 := ownsRow_setCell_below (a := ⟨pu, 2, none⟩) hown9 hpl (.slice A9 (j + 1) cp9)
              rw [zrow_succ]
              exact h5)
            clear hown9 hg9 hat9 X9 hp9
            refine hK.out _ _ (fun _ => hS9) ?_
            clear hK KK
            simp only [List.setIfInBounds_toArray, List.set_cons_zero, List.set_cons_succ]
            refine but_step (i := 5) (by kernel_rfl) rfl (fun KK hK => ?_)
            go_simp
            refine hK.out _ _ (fun _ => hS9) ?_
            clear hK KK
            simp only [List.setIfInBounds_toArray, List.set_cons_zero, List.set_cons_succ]
            refine but_step (i := 6) (by kernel_rfl) rfl (fun KK hK => ?_)
            go_simp
            refine hK.out _ _ (fun h => absurd rfl h) ?_
            clear hK KK
            simp only [List.setIfInBounds_toArray, List.set_cons_zero, List.set_cons_succ]
            refine but_done (by kernel_rfl) ?_ _
            clear hS0 hS8 hS9 hf9 hu2
            go_wp2
            go_roundw
            case rel => exact ⟨j + 1, .slice A9 (j + 1) cp9, hltj, by go_num, HP9, O9, T9⟩
            case measure => simp [intOf]; omega
          · have hgej : ¬ (j : Int) < (t.args.length : Int) := by omega
            have hjt : j = t.args.length := by omega
            subst hjt
            have XW : Hid (Ext w wr2) := hide (Ext.of_below (XC.out.below.trans (HT.out.below XC.out.size (by omega) (fun k e => by cases e))) (Nat.le_refl _))
            have HO2 : wr2.ownsRow wb.heap.size 24 3 v (List.replicate t.args.length Ty.zero).length ((List.replicate t.args.length Ty.zero).flatMap tyC.f) := by
              rw [List.length_replicate]
              exact HO.out
            obtain ⟨A9, cp9, hv9, hle9, hmx9, hrow9, -⟩ := RowOf.own tyC HO2
            clear HO2
            rw [List.length_replicate] at hv9
            subst hv9
            have hUin : TyIn wr2 (flatA t A9 cp9) := TyIn.of hle9 hmx9 htx hrow9 (fun k hk => by rw [(List.mem_replicate.1 hk).2]; exact TyIn.zero _)
            have HG := hide (r_legal16 (flatA t A9 cp9) wr2 hUin)
            rw [flatA_size] at HG
            have hu0 := bytes_block HU.out 0
            have hu1 := bytes_block HU.out 1
            have hu2 := bytes_block HU.out 2
            simp only [List.getElem?_toArray, List.getElem?_cons_zero, List.getElem?_cons_succ] at hu0 hu1 hu2
            clear hUin hrow9 hle9 hmx9 HO HT BR hnv hul HCl HSz
            cases h4 : decide (4096 ≤ t.args.length)
            · have hlen : decide ((t.args.length : Int) ≥ 4096) = false := decide_eq_false (by have := of_decide_eq_false h4; omega)
              have hR : R = headOk t.con t.var t.args.length := by rw [HR.out, h4]; rfl
              have HG2 := hide (HG.out (by omega))
              rw [flatA_legal _ _ _ (by have := of_decide_eq_false h4; omega), ← hR] at HG2
              simp only [tyV, flatA, Ty.con, Ty.var, Ty.A, Ty.cap, Ty.args, List.length_replicate] at HG2
              clear HG HR h4 hR
              go_wp2_with fail
              refine HG2.out.mono ?_
              rintro e w4 ⟨rfl, hx4⟩
              have X4 := hide (XW.out.trans hx4)
              clear hx4
              go_wp2
              go_ret
              exact ⟨rfl, X4.out⟩
            · have hlen : decide ((t.args.length : Int) ≥ 4096) = true := decide_eq_true (by have := of_decide_eq_true h4; omega)
              have hR : R = true := by rw [HR.out, h4]; rfl
              subst hR
              clear HG HR h4
              go_wp2
              go_ret
              exact ⟨rfl, XW.out⟩

end Go.Proofs.YtcnepaiapefggaaGreat

/- Contracts on the reference: whether a type of System F is legal. -/
namespace Go.Proofs.YtcnepaiapefggaaGreat
open Go.RowKit Go.Sort

theorem legalR_eq (t : Ty) : legalD t = (decide (t.size ≤ 4096) && decide (t.depth ≤ 100) && shapeR t) := by
  unfold legalD
  by_cases h : t.size ≤ 4096
  · rw [shapeR_D t h]
  · rw [show decide (t.size ≤ 4096) = false by simpa using h]
    rfl

set_option maxRecDepth 10000 in
set_option maxHeartbeats 1000000 in
theorem r_legal31 (t : Ty) (w : World) (h : TyIn w t) (hsz : t.size ≤ 90000) : Calls Tryz.prog 15 #[tyV t] w fun e w' => e = .returned (.bool (legalD t)) ∧ Ext w w' := by
  have HB := hide (TBox.new w t)
  have X0 : Hid (Ext w (w.alloc (.cells #[encStr t.con, .int .i64 t.var, .slice t.A t.args.length t.cap] 24))) := hide ((Ext.refl w).alloc _)
  have H1 := hide (fun w' (e : Ext w w') => hide (r_size16 t w' (h.ext e) (by omega)))
  have H2 := hide (fun w' (e : Ext w w') => hide (r_depth16 t w' (h.ext e) (by omega)))
  have H3 := hide (fun w' (e : Ext w w') => hide (r_shape31 t w' (h.ext e) hsz))
  have HL : Hid (legalD t = (decide (t.size ≤ 4096) && decide (t.depth ≤ 100) && shapeR t)) := hide (legalR_eq t)
  clear h
  generalize legalD t = R at *
  generalize shapeR t = Q at *
  unfold tyV at *
  have hi1 : decide ((t.size : Int) ≤ 4096) = decide (t.size ≤ 4096) := by rw [Bool.eq_iff_iff]; simp; omega
  have hi2 : decide ((t.depth : Int) ≤ 100) = decide (t.depth ≤ 100) := by rw [Bool.eq_iff_iff]; simp; omega
  generalize t.size = sz at *
  generalize t.depth = dp at *
  cases h1 : decide (sz ≤ 4096)
  · rw [h1] at HL hi1
    have hR : R = false := by rw [HL.out]; rfl
    clear HL h1 hi2 hsz
    subst hR
    go_enter Tryz.func15, Tryz.ntmps15
    go_wp2_with fail
    refine (H1.out _ X0.out).out.mono ?_
    rintro e w2 ⟨rfl, hx2⟩
    go_wp2
    go_ret
    exact ⟨rfl, X0.out.trans hx2⟩
  · rw [h1] at HL hi1
    cases h2 : decide (dp ≤ 100)
    · rw [h2] at HL hi2
      have hR : R = false := by rw [HL.out]; rfl
      clear HL h1 h2 hsz
      subst hR
      go_enter Tryz.func15, Tryz.ntmps15
      go_wp2_with fail
      refine (H1.out _ X0.out).out.mono ?_
      rintro e w2 ⟨rfl, hx2⟩
      have X2 := hide (X0.out.trans hx2)
      have B2 := hide (HB.out.ext hx2)
      have c0 := B2.out.c0
      have c1 := B2.out.c1
      have c2 := B2.out.c2
      clear hx2
      go_wp2_with fail
      refine (H2.out _ X2.out).out.mono ?_
      rintro e w3 ⟨rfl, hx3⟩
      go_wp2
      go_ret
      exact ⟨rfl, X2.out.trans hx3⟩
    · rw [h2] at HL hi2
      have hR : R = Q := by rw [HL.out]; rfl
      clear HL h1 h2 hsz
      subst hR
      go_enter Tryz.func15, Tryz.ntmps15
      go_wp2_with fail
      refine (H1.out _ X0.out).out.mono ?_
      rintro e w2 ⟨rfl, hx2⟩
      have X2 := hide (X0.out.trans hx2)
      have B2 := hide (HB.out.ext hx2)
      have c0 := B2.out.c0
      have c1 := B2.out.c1
      have c2 := B2.out.c2
      clear hx2
      go_wp2_with fail
      refine (H2.out _ X2.out).out.mono ?_
      rintro e w3 ⟨rfl, hx3⟩
      have X3 := hide (X2.out.trans hx3)
      have B3 := hide (B2.out.ext hx3)
      have d0 := B3.out.c0
      have d1 := B3.out.c1
      have d2 := B3.out.c2
      clear hx3 c0 c1 c2
      go_wp2_with fail
      refine (H3.out _ X3.out).out.mono ?_
      rintro e w4 ⟨rfl, hx4⟩
      go_wp2
      go_ret
      exact ⟨rfl, X3.out.trans hx4⟩

end Go.Proofs.YtcnepaiapefggaaGreat

/- Contracts on the reference: the text of a type for all of some variables. -/
namespace Go.Proofs.YtcnepaiapefggaaGreat
open Go.RowKit

theorem varT_good (v : Int) : goodT (varT v) = true := by rw [goodT_eq]; rfl
theorem varsT_nil : varsT [] = [] := rfl
theorem varsT_ne {l : List Int} (h : l ≠ []) : varsT l ≠ [] := by
  cases l with
  | nil => exact absurd rfl h
  | cons v l => unfold varsT; simp

set_option maxRecDepth 10000 in
set_option maxHeartbeats 2000000 in
theorem r_Text (p : Po) (w : World) (h : PoIn w p) (ok : okI p.ty = true) (hsz : p.ty.size ≤ 20000) (hn : p.vars.length ≤ 1000) (hv : ∀ v ∈ p.vars, -9223372036854775808 ≤ v ∧ v ≤ 9223372036854775807) : Calls Tryz.prog 17 #[poV p] w fun e w' => e = .returned (encStr (polyS p)) ∧ Ext w w' := by
  have X0 : Hid (Ext w (w.alloc (.cells #[.slice p.A p.vars.length p.cap, encStr p.ty.con, .int .i64 p.ty.var, .slice p.ty.A p.ty.args.length p.ty.cap] 31))) := hide ((Ext.refl w).alloc _)
  have HB := hide (PBox.new w p)
  obtain ⟨c0, c1, c2, c3⟩ := HB.out.cells
  have HL := hide (fun w' (e : Ext w w') => hide (r_legal31 p.ty w' (h.ty.ext e) (by omega)))
  have HT := hide (fun w' (e : Ext w w') (hg : legalD p.ty = true) => hide (r_type31 p.ty w' (h.ty.ext e) ok (good_of_legal hg) hsz))
  have HTv := hide (fun (v : Int) (hm : v ∈ p.vars) (w' : World) => hide (r_type31 (varT v) w' (varT_in w' v) (varT_ok (hv v hm).1 (hv v hm).2) (varT_good v) (by rw [varT_size]; omega)))
  have HVv := hide (fun (v : Int) (w' : World) => hide (r_V16 v w'))
  simp only [varT_text] at HTv
  have HP0 : Hid (p.vars = [] → polyS p = if legalD p.ty then textT p.ty else []) := hide (fun h0 => by unfold polyS; rw [if_pos h0])
  have HP1 : Hid (p.vars ≠ [] → polyS p = if legalD p.ty then ([102, 111, 114, 97, 108, 108] : Str) ++ varsT p.vars ++ ([46, 32] : Str) ++ textT p.ty else []) := hide (fun h0 => by unfold polyS; rw [if_neg h0])
  have HP2 : Hid (legalD p.ty = false → polyS p = []) := hide (fun h0 => by unfold polyS; rw [h0]; rfl)
  have HLt := hide (textT_few ok hsz)
  have HLv : Hid (∀ k, (varsT (p.vars.take k)).length ≤ 31000) := hide (fun k => by
    have := varsT_len (p.vars.take k) (fun v hm => hv v (List.mem_of_mem_take hm))
    rw [List.length_take] at this
    omega)
  have HR := hide h.row
  have hmx := h.max
  have hle := h.le
  clear h ok hsz hv
  unfold poV
  generalize polyS p = R at *
  unfold tyV at HL HT HTv HVv
  simp only [varT, Ty.con, Ty.var, Ty.A, Ty.cap, Ty.args, List.length_nil, encStr] at HTv HVv
  generalize textT p.ty = s at *
  cases hl : legalD p.ty
  · rw [hl] at HL
    have hR : R = [] := HP2.out hl
    clear HP0 HP1 HP2
    subst hR
    go_enter Tryz.func17, Tryz.ntmps17
    go_wp2_with fail
    refine (HL.out _ X0.out).out.mono ?_
    rintro e w2 ⟨rfl, hx⟩
    go_wp2
    go_ret
    exact ⟨rfl, X0.out.trans hx⟩
  · rw [hl] at HL HP0 HP1
    have HTl := hide (fun w' (e : Ext w w') => HT.out w' e hl)
    clear HT HP2
    go_enter Tryz.func17, Tryz.ntmps17
    go_wp2_with fail
    refine (HL.out _ X0.out).out.mono ?_
    rintro e w2 ⟨rfl, hx⟩
    have X2 := hide (X0.out.trans hx)
    have HB2 := hide (HB.out.ext hx)
    clear hx c0 c1 c2 c3 HL
    go_wp2
    go_loopw [3, 4] (fun u i wr => ∃ k : Nat, k ≤ p.vars.length ∧ i = .int .i64 k ∧ u = encStr (varsT (p.vars.take k)) ∧ Hid (Ext w2 wr)) (fun _ i _ => p.vars.length - (intOf i).toNat)
    case atStart => exact ⟨0, Nat.zero_le _, rfl, by simp [varsT, encStr], hide (Ext.refl _)⟩
    case round =>
      obtain ⟨k, hk, rfl, rfl, HX⟩ := hrel
      obtain ⟨d0, d1, d2, d3⟩ := (HB2.out.ext HX.out).cells
      by_cases hlt : k < p.vars.length
      · have hlt' : (k : Int) < (p.vars.length : Int) := by omega
        have hk0 : (0 : Int) ≤ (k : Int) := by omega
        obtain ⟨b, o, hA, hb, q0⟩ := Ints.at_ (RowOf.ext intC HR.out (X2.out.trans HX.out)) hlt
        have hm := List.getElem_mem hlt
        have HC := hide (fun w' => (HTv.out _ hm w').out)
        have hcat : varsT (p.vars.take (k + 1)) = varsT (p.vars.take k) ++ (([32] : Str) ++ varS (p.vars[k]'hlt)) := varsT_take _ hlt
        have hlen2 := HLv.out (k + 1)
        rw [hcat] at hlen2
        rw [hA] at d0
        clear hA hm
        generalize p.vars[k]'hlt = v at *
        generalize varS v = sc at *
        have HR2 : Hid (encStr (varsT (p.vars.take k) ++ (([32] : Str) ++ sc)) = encStr (varsT (p.vars.take (k + 1)))) := hide (by rw [hcat])
        clear hcat
        generalize varsT (p.vars.take k) = S0 at *
        have hs1 : ¬ ((⟨#[32]⟩ : ByteArray).size + (⟨sc.toArray⟩ : ByteArray).size > 9223372036854775807) := by
          rw [List.length_append, List.length_append] at hlen2
          rw [ba_size sc]
          show ¬ (1 + sc.length > _)
          omega
        have e1 : (ByteArray.mk #[32] ++ ByteArray.mk sc.toArray) = ByteArray.mk (([32] : Str) ++ sc).toArray := ByteArray.mk_append_mk [32] sc
        have hs2 : ¬ ((⟨S0.toArray⟩ : ByteArray).size + (⟨(([32] : Str) ++ sc).toArray⟩ : ByteArray).size > 9223372036854775807) := by
          rw [List.length_append] at hlen2
          rw [ba_size S0, ba_size (([32] : Str) ++ sc)]
          omega
        have e2 : (ByteArray.mk S0.toArray ++ ByteArray.mk (([32] : Str) ++ sc).toArray) = ByteArray.mk (S0 ++ (([32] : Str) ++ sc)).toArray := ByteArray.mk_append_mk S0 (([32] : Str) ++ sc)
        clear hlen2
        generalize S0 ++ (([32] : Str) ++ sc) = S2 at *
        generalize ([32] : Str) ++ sc = S1 at *
        go_wp2_with fail
        refine (HVv.out _ _).out.mono ?_
        rintro e w3 ⟨rfl, hx3⟩
        have X3 : Hid (Ext w2 w3) := hide (HX.out.trans hx3)
        clear hx3
        go_wp2_with fail
        refine (HC.out _).mono ?_
        rintro e w4 ⟨rfl, hx4⟩
        have X4 : Hid (Ext w2 w4) := hide (X3.out.trans hx4)
        clear hx4
        go_wp2
        go_roundw
        case rel => exact ⟨k + 1, hlt, by go_num, HR2.out, X4⟩
        case measure => simp [intOf]; omega
      · have hge : ¬ (k : Int) < (p.vars.length : Int) := by omega
        have HTk : Hid (p.vars.take k = p.vars) := hide (List.take_of_length_le (by omega))
        have hlen := HLv.out k
        rw [HTk.out] at hlen ⊢
        by_cases h0 : p.vars = []
        · have HF := hide (HP0.out h0)
          have hS : varsT p.vars = [] := by rw [h0]; rfl
          rw [hS]
          clear HP0 HP1 hlen h0 hS
          have hs2 : ¬ ((⟨#[]⟩ : ByteArray).size + (⟨s.toArray⟩ : ByteArray).size > 9223372036854775807) := by
            have := HLt.out
            rw [ba_size s]
            show ¬ (0 + s.length > _)
            omega
          have e2 : (ByteArray.mk #[] ++ ByteArray.mk s.toArray) = ByteArray.mk s.toArray := ByteArray.mk_append_mk [] s
          go_wp2_with fail
          refine (HTl.out _ (X2.out.trans HX.out)).out.mono ?_
          rintro e w4 ⟨rfl, hx4⟩
          go_wp2
          go_ret
          exact ⟨by rw [HF.out]; rfl, X2.out.trans (HX.out.trans hx4)⟩
        · have HF := hide (HP1.out h0)
          have hne := varsT_ne h0
          clear HP0 HP1 h0
          generalize varsT p.vars = V at *
          have hne1 : (V == ([] : Str)) = false := by rw [beq_eq_false_iff_ne]; exact hne
          have hs0 : ¬ ((⟨#[102, 111, 114, 97, 108, 108]⟩ : ByteArray).size + (⟨V.toArray⟩ : ByteArray).size > 9223372036854775807) := by rw [ba_size V]; show ¬ (6 + V.length > _); omega
          have e0 : (ByteArray.mk #[102, 111, 114, 97, 108, 108] ++ ByteArray.mk V.toArray) = ByteArray.mk (([102, 111, 114, 97, 108, 108] : Str) ++ V).toArray := ByteArray.mk_append_mk [102, 111, 114, 97, 108, 108] V
          have hlS : (([102, 111, 114, 97, 108, 108] : Str) ++ V).length ≤ 40000 := by rw [List.length_append]; simp only [List.length_cons, List.length_nil]; omega
          clear hlen
          generalize ([102, 111, 114, 97, 108, 108] : Str) ++ V = S0 at *
          have hs1 : ¬ ((⟨S0.toArray⟩ : ByteArray).size + (⟨#[46, 32]⟩ : ByteArray).size > 9223372036854775807) := by rw [ba_size S0]; show ¬ (S0.length + 2 > _); omega
          have e1 : (ByteArray.mk S0.toArray ++ ByteArray.mk #[46, 32]) = ByteArray.mk (S0 ++ ([46, 32] : Str)).toArray := ByteArray.mk_append_mk S0 [46, 32]
          have hs2 : ¬ ((⟨(S0 ++ ([46, 32] : Str)).toArray⟩ : ByteArray).size + (⟨s.toArray⟩ : ByteArray).size > 9223372036854775807) := by
            have := HLt.out
            rw [ba_size (S0 ++ ([46, 32] : Str)), ba_size s, List.length_append]
            simp only [List.length_cons, List.length_nil]
            omega
          have e2 : (ByteArray.mk (S0 ++ ([46, 32] : Str)).toArray ++ ByteArray.mk s.toArray) = ByteArray.mk (S0 ++ ([46, 32] : Str) ++ s).toArray := ByteArray.mk_append_mk (S0 ++ ([46, 32] : Str)) s
          clear hlS
          generalize S0 ++ ([46, 32] : Str) ++ s = S2 at *
          generalize S0 ++ ([46, 32] : Str) = S1 at *
          go_wp2_with fail
          refine (HTl.out _ (X2.out.trans HX.out)).out.mono ?_
          rintro e w4 ⟨rfl, hx4⟩
          go_wp2
          go_ret
          exact ⟨by rw [HF.out]; rfl, X2.out.trans (HX.out.trans hx4)⟩

end Go.Proofs.YtcnepaiapefggaaGreat

/- Contract: whether two types are the same, of the reference. -/
namespace Go.Proofs.YtcnepaiapefggaaGreat
open Go.RowKit

set_option maxRecDepth 10000 in
set_option maxHeartbeats 2000000 in
theorem r_same16 (a : Ty) : ∀ (b : Ty) (w : World), TyIn w a → TyIn w b → Calls Tryz.prog 11 #[tyV a, tyV b] w fun e w' => e = .returned (.bool (sameB a b)) ∧ Ext w w' := by
  induction a using Ty.ind with
  | h a ih =>
  intro b w ha hb
  have IH := hide ih
  have HKa := hide ha.all
  have HKb := hide hb.all
  have hla := ha.le
  have hma := ha.max
  have hlb := hb.le
  have hmb := hb.max
  obtain ⟨W, hW⟩ : ∃ W, W = (w.alloc (.cells #[encStr a.con, .int .i64 a.var, .slice a.A a.args.length a.cap] 24)).alloc (.cells #[encStr b.con, .int .i64 b.var, .slice b.A b.args.length b.cap] 24) := ⟨_, rfl⟩
  have X0 : Hid (Ext w W) := hide (by rw [hW]; exact ((Ext.refl _).alloc _).alloc _)
  have B1 : Hid (TBox W w.heap.size a) := hide (by rw [hW]; exact (TBox.new w a).ext ((Ext.refl _).alloc _))
  have B2 : Hid (TBox W (w.heap.size + 1) b) := hide (by rw [hW]; have := TBox.new (w.alloc (.cells #[encStr a.con, .int .i64 a.var, .slice a.A a.args.length a.cap] 24)) b; rwa [World.size_alloc] at this)
  have HP := hide (sameB_parts a b)
  clear ih ha hb
  unfold tyV at *
  have c0 := B1.out.c0
  have c1 := B1.out.c1
  have c2 := B1.out.c2
  have d0 := B2.out.c0
  have d1 := B2.out.c1
  have d2 := B2.out.c2
  have key : ∀ c, headB a b = c → (c = false → sameB a b = false) := fun c h e => by subst e; rw [HP.out]; unfold headB at h; rw [h]; rfl
  cases hc : (a.con == b.con)
  · have hR : sameB a b = false := key _ (by unfold headB; simp at hc; simp [hc]) rfl
    rw [hR]
    clear hR key HP
    go_enter Tryz.func11, Tryz.ntmps11
    go_wp2
    rw [← hW]
    clear hW
    go_ret
    exact ⟨rfl, X0.out⟩
  cases hv : (a.var == b.var)
  · have hR : sameB a b = false := key _ (by unfold headB; simp at hv; simp [hv]) rfl
    rw [hR]
    clear hR key HP
    go_enter Tryz.func11, Tryz.ntmps11
    go_wp2
    rw [← hW]
    clear hW
    go_ret
    exact ⟨rfl, X0.out⟩
  have hve : a.var = b.var := by simpa using hv
  cases hl : ((a.args.length : Int) == (b.args.length : Int))
  · have hR : sameB a b = false := key _ (by unfold headB; simp at hl; simp [show ¬ a.args.length = b.args.length by omega]) rfl
    rw [hR]
    clear hR key HP
    clear hv
    rw [← hve] at hW d1 ⊢
    clear hve
    go_enter Tryz.func11, Tryz.ntmps11
    go_wp2
    rw [← hW]
    clear hW
    go_ret
    exact ⟨rfl, X0.out⟩
  have HL : Hid (a.args.length = b.args.length) := hide (by simp at hl; omega)
  have HR : Hid (sameB a b = (a.args.zip b.args).all fun p => sameB p.1 p.2) := hide (by rw [HP.out]; simp at hc hv; simp [hc, hv, HL.out])
  clear key hv hl HP
  generalize sameB a b = R at *
  rw [← hve] at hW d1 ⊢
  rw [← HL.out] at hW d2 ⊢
  clear hve
  go_enter Tryz.func11, Tryz.ntmps11
  go_wp2
  rw [← hW]
  clear hW
  have O1 : Hid (∀ p ∈ (a.args.zip b.args).take 0, sameB p.1 p.2 = true) := hide (by simp)
  have X3' := hide (Ext.refl W)
  go_wp2
  go_loopw [5] (fun i wr => ∃ k : Nat, k ≤ a.args.length ∧ i = .int .i64 k ∧ Hid (∀ p ∈ (a.args.zip b.args).take k, sameB p.1 p.2 = true) ∧ Hid (Ext W wr)) (fun i _ => a.args.length - (intOf i).toNat)
  case atStart => exact ⟨0, Nat.zero_le _, rfl, O1, X3'⟩
  case round =>
    obtain ⟨k, hk, rfl, HA, HX⟩ := hrel
    have C1 := B1.out.ext HX.out
    have C2 := B2.out.ext HX.out
    have c0 := C1.c0
    have c1 := C1.c1
    have c2 := C1.c2
    have d0 := C2.c0
    have d1 := C2.c1
    have d2 := C2.c2
    clear C1 C2
    by_cases hlt : k < a.args.length
    · have hltb : k < b.args.length := by rw [← HL.out]; exact hlt
      have hlt' : (k : Int) < (a.args.length : Int) := by omega
      have hltb' : (k : Int) < (b.args.length : Int) := by omega
      have hk0 : (0 : Int) ≤ (k : Int) := by omega
      have XR := hide (HX.out)
      obtain ⟨p, o, hAa, hp, q0, q1, q2⟩ := (HKa.out.ext (X0.out.trans XR.out)).at_ hlt
      obtain ⟨p', o', hAb, hp', r0, r1, r2⟩ := (HKb.out.ext (X0.out.trans XR.out)).at_ hltb
      have HC := hide (fun w' (e : Ext wr w') => hide (IH.out _ (List.getElem_mem hlt) (b.args[k]'hltb) w' ((HKa.out.args _ (List.getElem_mem hlt)).ext (X0.out.trans (XR.out.trans e))) ((HKb.out.args _ (List.getElem_mem hltb)).ext (X0.out.trans (XR.out.trans e)))))
      have Htk : Hid ((a.args.zip b.args).take (k + 1) = (a.args.zip b.args).take k ++ [(a.args[k]'hlt, b.args[k]'hltb)]) := hide (by
        rw [List.take_succ_eq_append_getElem (by rw [List.length_zip]; omega), List.getElem_zip])
      have Hmem : Hid ((a.args[k]'hlt, b.args[k]'hltb) ∈ a.args.zip b.args) := hide (by rw [List.mem_iff_getElem]; exact ⟨k, by rw [List.length_zip]; omega, List.getElem_zip⟩)
      rw [hAa] at c2
      rw [hAb, ← HL.out] at d2
      clear hAa hAb
      have HSa := hide (fun w' (e : Ext wr w') => And.intro (e.cell c2) (And.intro (e.cell d2) (And.intro (e.cell q0) (And.intro (e.cell q1) (And.intro (e.cell q2) (And.intro (e.cell r0) (And.intro (e.cell r1) (e.cell r2))))))))
      generalize a.args[k]'hlt = x at *
      generalize b.args[k]'hltb = y at *
      go_wp2
      go_region_held3 (fun w' => w'.cell? ⟨w.heap.size, 2, none⟩ = some (.slice (some ⟨p, o, none⟩) a.args.length a.cap) ∧ w'.cell? ⟨w.heap.size + 1, 2, none⟩ = some (.slice (some ⟨p', o', none⟩) a.args.length b.cap) ∧ w'.cell? ⟨p, o + k * 3, none⟩ = some (.string ⟨x.con.toArray⟩) ∧ w'.cell? ⟨p, o + k * 3 + 1, none⟩ = some (.int .i64 x.var) ∧ w'.cell? ⟨p, o + k * 3 + 2, none⟩ = some (.slice x.A x.args.length x.cap) ∧ w'.cell? ⟨p', o' + k * 3, none⟩ = some (.string ⟨y.con.toArray⟩) ∧ w'.cell? ⟨p', o' + k * 3 + 1, none⟩ = some (.int .i64 y.var) ∧ w'.cell? ⟨p', o' + k * 3 + 2, none⟩ = some (.slice y.A y.args.length y.cap)) (first | assumption | go_keep) (first
        | (go_at_call 11
           refine Calls.mono (HC.out _ ((Ext.refl _).drew)).out ?_
           rintro e w5 ⟨rfl, hx5⟩
           have X5 := hide (HX.out.trans (((Ext.refl wr).drew).trans hx5))
           have k5 := HSa.out _ (((Ext.refl wr).drew).trans hx5)
           clear hx5))
      clear k5
      cases hs : sameB x y
      · have hR : R = false := by
          rw [HR.out, ← Bool.not_eq_true, List.all_eq_true]
          intro h
          have := h _ Hmem.out
          rw [hs] at this
          cases this
        clear HR
        subst hR
        go_wp2
        go_ret
        exact ⟨rfl, X0.out.trans (X5.out)⟩
      · go_wp2
        go_roundw
        case rel =>
          refine ⟨k + 1, hlt, by go_num, hide (fun p hp => ?_), X5⟩
          rw [Htk.out, List.mem_append, List.mem_singleton] at hp
          rcases hp with hp | rfl
          · exact HA.out p hp
          · exact hs
        case measure => simp [intOf]; omega
    · have hge : ¬ (k : Int) < (a.args.length : Int) := by omega
      have hR : R = true := by
        rw [HR.out, List.all_eq_true]
        intro p hp
        exact HA.out p (by rw [List.take_of_length_le (by rw [List.length_zip]; omega)]; exact hp)
      clear HR
      subst hR
      go_wp2
      go_ret
      exact ⟨rfl, X0.out.trans (HX.out)⟩

end Go.Proofs.YtcnepaiapefggaaGreat

/- The law of what is known of classes at types. -/
namespace Go.Proofs.YtcnepaiapefggaaGreat
open Go.RowKit

theorem dict_same (c : Str) (t : Ty) (b b' : Nat) : sameB (dictT c t b) (dictT c t b') = true := sameB_iff.2 (by rw [dictT_pure, dictT_pure])
theorem arg_in {w : World} {t : Ty} (h : TyIn w t) : TyIn w (argOf t) := by
  unfold argOf
  split
  · cases hl : t.args with
    | nil => exact TyIn.zero w
    | cons x l => exact h.all.args x (by rw [hl]; simp)
  · exact TyIn.zero w
theorem few_one {w : World} {t : Ty} {b : Nat} (h : TyIn w t) (hb : w.heap[b]? = some (.cells #[encStr t.con, .int .i64 t.var, .slice t.A t.args.length t.cap] 24)) : TysIn w (some ⟨b, 0, none⟩) [t] := ⟨RowOf.block (t := 24) (fr := (0, 0)) tyC [t] (by simpa [tyC, Ty.cells] using hb), by simpa using h⟩

set_option maxRecDepth 10000 in
set_option maxHeartbeats 8000000 in
theorem law_dicts (c : Str) (t : Ty) (w : World) (h : TyIn w t) (ok : okI t = true) (hc : c.length ≤ 9223372036854775807) : Calls Tryz.prog 3 #[encStr c, tyV t] w fun e w' => e = .returned (.bool true) ∧ Ext w w' := by
  obtain ⟨W, hW⟩ : ∃ W, W = w.alloc (.cells #[encStr t.con, .int .i64 t.var, .slice t.A t.args.length t.cap] 24) := ⟨_, rfl⟩
  have HW := hide hW.symm
  have X0 : Hid (Ext w W) := hide (by rw [hW]; exact (Ext.refl _).alloc _)
  have HB : Hid (TBox W w.heap.size t) := hide (by rw [hW]; exact TBox.new w t)
  have E1 : Ext W (W.alloc (.cells #[encStr t.con, .int .i64 t.var, .slice t.A t.args.length t.cap] 24)) := (Ext.refl _).alloc _
  have X1 := hide E1
  have H := hide h
  have HFew := hide (l_few16 (some ⟨W.heap.size, 0, none⟩) 1 [t] (W.alloc (.cells #[encStr t.con, .int .i64 t.var, .slice t.A t.args.length t.cap] 24)) (few_one ((h.ext X0.out).ext E1) (at_newB _ _ _ rfl)) (by show 1 ≤ 100000; omega))
  have HAw := hide (fun w' => hide (l_awake31 w'))
  simp only [List.length_cons, List.length_nil, Nat.zero_add] at HFew
  have c0 := HB.out.c0
  have c1 := HB.out.c1
  have c2 := HB.out.c2
  clear h hW E1
  unfold tyV at *
  go_enter Tryz.func3, Tryz.ntmps3
  go_upto_region 1 with fail
  rw [HW.out]
  go_wp2_with fail
  refine HFew.out.mono ?_
  rintro e w2 ⟨⟨r, rfl, hr⟩, hx2⟩
  have X2 := hide (X1.out.trans hx2)
  clear hx2 HFew
  rcases hr with rfl | ⟨rfl, hsz, -⟩
  · go_wp2_with fail
    refine (HAw.out _).out.mono ?_
    rintro e w3 ⟨rfl, hx⟩
    go_wp2
    go_ret
    exact ⟨rfl, X0.out.trans (X2.out.trans hx)⟩
  have hsz2 : t.size ≤ 20000 := by unfold tsizes at hsz; simpa using hsz
  by_cases hl : (c.length : Int) > 100
  · clear hsz
    go_wp2_with fail
    refine (HAw.out _).out.mono ?_
    rintro e w3 ⟨rfl, hx⟩
    go_wp2
    go_ret
    exact ⟨rfl, X0.out.trans (X2.out.trans hx)⟩
  have hcl : c.length ≤ 1000000 := by omega
  have HC := hide (fun w' (e : Ext w w') => hide (f_class t w' (H.out.ext e)))
  have HR := hide (fun w' (e : Ext w w') => hide (r_class31 t w' (H.out.ext e)))
  have HA : Hid (∀ w', Ext w w' → TyIn w' (argOf t)) := hide (fun w' e => arg_in (H.out.ext e))
  have HD := hide (fun w' (e : Ext w w') => hide (f_dict c t w' (H.out.ext e) hcl))
  have HE := hide (fun w' (e : Ext w w') => hide (r_dict31 c t w' (H.out.ext e) hcl))
  have HS1 := hide (fun b b' w' (h : TyIn w' (dictT c t b)) (h' : TyIn w' (dictT c t b')) => hide (r_same16 (dictT c t b) (dictT c t b') w' h h'))
  simp only [dict_same] at HS1
  have HS2 := hide (fun w' (e : Ext w w') => hide (r_same16 (argOf t) (argOf t) w' (HA.out w' e) (HA.out w' e)))
  rw [sameB_refl] at HS2
  have HL := hide (fun w' (e : Ext w w') => hide (f_legal t w' (H.out.ext e) (by omega)))
  have HM := hide (fun w' (e : Ext w w') => hide (r_legal31 t w' (H.out.ext e) (by omega)))
  have HPo : Hid (∀ w', Ext w w' → PoIn w' ⟨[], none, 0, t⟩) := hide (fun w' e => ⟨Nat.le_refl _, Nat.zero_le _, RowOf.nil _ _ _, H.out.ext e⟩)
  have HT := hide (fun w' (e : Ext w w') => hide (f_Text0 ⟨[], none, 0, t⟩ w' (HPo.out w' e) ok (by show t.size ≤ 20000; omega) rfl))
  have HU := hide (fun w' (e : Ext w w') => hide (r_Text ⟨[], none, 0, t⟩ w' (HPo.out w' e) ok (by show t.size ≤ 20000; omega) (by show 0 ≤ 1000; omega) (by intro v hv; cases hv)))
  generalize polyS ⟨[], none, 0, t⟩ = S at *
  generalize legalD t = L at *
  unfold classV at HC HR
  generalize clsOf t = cl at *
  generalize dictB t = D at *
  unfold tyV at HD HE HS1 HS2 HL HM
  unfold poV at HT HU
  simp only [List.length_nil] at HT HU
  generalize argOf t = u at *
  clear hsz c0 c1 c2
  have HB2 := hide (HB.out.ext X2.out)
  have c0 := HB2.out.c0
  have c1 := HB2.out.c1
  have c2 := HB2.out.c2
  go_wp2_with fail
  refine (HC.out _ (X0.out.trans X2.out)).out.mono ?_
  rintro e w3 ⟨rfl, hx3⟩
  have X3 := hide ((X0.out.trans X2.out).trans hx3)
  have HB3 := hide (HB2.out.ext hx3)
  obtain ⟨W4, hW4⟩ : ∃ W4, W4 = w3.alloc (.cells #[encStr u.con, .int .i64 u.var, .slice u.A u.args.length u.cap] 24) := ⟨_, rfl⟩
  have E4 : Ext w3 W4 := by rw [hW4]; exact (Ext.refl _).alloc _
  have HU4 : Hid (TBox W4 w3.heap.size u) := hide (by rw [hW4]; exact TBox.new w3 u)
  have X4 := hide (X3.out.trans E4)
  have HB4 := hide (HB3.out.ext E4)
  clear c0 c1 c2 E4
  have c0 := HB4.out.c0
  have c1 := HB4.out.c1
  have c2 := HB4.out.c2
  clear hx3
  go_upto_region 4 with fail
  rw [← hW4]
  clear hW4
  go_wp2_with fail
  refine (HR.out _ X4.out).out.mono ?_
  rintro e w5 ⟨rfl, hx5⟩
  obtain ⟨W6, hW6⟩ : ∃ W6, W6 = w5.alloc (.cells #[encStr u.con, .int .i64 u.var, .slice u.A u.args.length u.cap] 24) := ⟨_, rfl⟩
  have E6 : Ext w5 W6 := by rw [hW6]; exact (Ext.refl _).alloc _
  have HV6 : Hid (TBox W6 w5.heap.size u) := hide (by rw [hW6]; exact TBox.new w5 u)
  have X6 := hide ((X4.out.trans hx5).trans E6)
  have HB6 := hide ((HB4.out.ext hx5).ext E6)
  have HU6 := hide ((HU4.out.ext hx5).ext E6)
  clear c0 c1 c2 E6 hx5 HC HR
  have c0 := HB6.out.c0
  have c1 := HB6.out.c1
  have c2 := HB6.out.c2
  go_upto_region 5 with fail
  rw [← hW6]
  clear hW6
  obtain ⟨W7, hW7⟩ : ∃ W7, W7 = W6.alloc (.cells #[.slice none 0 0, encStr t.con, .int .i64 t.var, .slice t.A t.args.length t.cap] 31) := ⟨_, rfl⟩
  have E7 : Ext W6 W7 := by rw [hW7]; exact (Ext.refl _).alloc _
  have HP7 : Hid (W7.heap[W6.heap.size]? = some (.cells #[.slice none 0 0, encStr t.con, .int .i64 t.var, .slice t.A t.args.length t.cap] 31 (0, 0))) := hide (by rw [hW7]; exact at_newB _ _ _ rfl)
  have XW7 := hide (X6.out.trans E7)
  have HB7 := hide (HB6.out.ext E7)
  have HU7 := hide (HU6.out.ext E7)
  have HV7 := hide (HV6.out.ext E7)
  clear E7
  have HS := hide (fun w' (e : Ext W7 w') => And.intro ((HB7.out.ext e).c0) (And.intro ((HB7.out.ext e).c1) (And.intro ((HB7.out.ext e).c2) (And.intro ((HU7.out.ext e).c0) (And.intro ((HU7.out.ext e).c1) (And.intro ((HU7.out.ext e).c2) (And.intro ((HV7.out.ext e).c0) (And.intro ((HV7.out.ext e).c1) (And.intro ((HV7.out.ext e).c2) (And.intro (bytes_block ((e.heap (lt_of_obj HP7.out)).trans HP7.out) 0) (And.intro (bytes_block ((e.heap (lt_of_obj HP7.out)).trans HP7.out) 1) (And.intro (bytes_block ((e.heap (lt_of_obj HP7.out)).trans HP7.out) 2) (bytes_block ((e.heap (lt_of_obj HP7.out)).trans HP7.out) 3)))))))))))))
  go_upto_region 6 with fail
  rw [← hW7]
  clear hW7 c0 c1 c2
  obtain ⟨s0, s1, s2, s3, s4, s5, s6, s7, s8, s9, s10, s11, s12⟩ := HS.out W7 (Ext.refl _)
  go_region_held3 (fun w' => w'.cell? ⟨w.heap.size, 0, none⟩ = some (encStr t.con) ∧ w'.cell? ⟨w.heap.size, 1, none⟩ = some (.int .i64 t.var) ∧ w'.cell? ⟨w.heap.size, 2, none⟩ = some (.slice t.A t.args.length t.cap) ∧ w'.cell? ⟨w3.heap.size, 0, none⟩ = some (encStr u.con) ∧ w'.cell? ⟨w3.heap.size, 1, none⟩ = some (.int .i64 u.var) ∧ w'.cell? ⟨w3.heap.size, 2, none⟩ = some (.slice u.A u.args.length u.cap) ∧ w'.cell? ⟨w5.heap.size, 0, none⟩ = some (encStr u.con) ∧ w'.cell? ⟨w5.heap.size, 1, none⟩ = some (.int .i64 u.var) ∧ w'.cell? ⟨w5.heap.size, 2, none⟩ = some (.slice u.A u.args.length u.cap) ∧ w'.cell? ⟨W6.heap.size, 0, none⟩ = some (.slice none 0 0) ∧ w'.cell? ⟨W6.heap.size, 1, none⟩ = some (encStr t.con) ∧ w'.cell? ⟨W6.heap.size, 2, none⟩ = some (.int .i64 t.var) ∧ w'.cell? ⟨W6.heap.size, 3, none⟩ = some (.slice t.A t.args.length t.cap)) (first | assumption | go_keep) (first
  | (go_at_call 12
     with_reducible refine Calls.mono (HD.out _ (XW7.out.trans (Ext.refl _).drew)).out ?_
     rintro e y0 ⟨⟨b1, rfl, hd1, -⟩, hx⟩
     have Y0 := hide (((Ext.refl W7).drew).trans hx)
     have k0 := HS.out _ Y0.out
     have D1 := hide hd1
     clear hx)
  | (go_at_call 13
     with_reducible refine Calls.mono (HE.out _ (XW7.out.trans Y0.out)).out ?_
     rintro e y1 ⟨⟨b2, rfl, hd2, -⟩, hx⟩
     have Y1 := hide (Y0.out.trans hx)
     have k1 := HS.out _ Y1.out
     have D2 := hide hd2
     have D1b := hide (D1.out.ext hx)
     clear hx)
  | (go_at_call 11
     with_reducible refine Calls.mono (HS1.out _ _ _ D1b.out D2.out).out ?_
     rintro e y2 ⟨rfl, hx⟩
     have Y2 := hide (Y1.out.trans hx)
     have k2 := HS.out _ Y2.out
     clear hx)
  | (go_at_call 11
     with_reducible refine Calls.mono (HS2.out _ (XW7.out.trans Y2.out)).out ?_
     rintro e y3 ⟨rfl, hx⟩
     have Y3 := hide (Y2.out.trans hx)
     have k3 := HS.out _ Y3.out
     clear hx)
  | (go_at_call 14
     with_reducible refine Calls.mono (HL.out _ (XW7.out.trans Y3.out)).out ?_
     rintro e y4 ⟨rfl, hx⟩
     have Y4 := hide (Y3.out.trans hx)
     have k4 := HS.out _ Y4.out
     clear hx)
  | (go_at_call 15
     with_reducible refine Calls.mono (HM.out _ (XW7.out.trans Y4.out)).out ?_
     rintro e y5 ⟨rfl, hx⟩
     have Y5 := hide (Y4.out.trans hx)
     have k5 := HS.out _ Y5.out
     clear hx)
  | (go_at_call 16
     with_reducible refine Calls.mono (HT.out _ (XW7.out.trans Y5.out)).out ?_
     rintro e y6 ⟨rfl, hx⟩
     have Y6 := hide (Y5.out.trans hx)
     have k6 := HS.out _ Y6.out
     clear hx)
  | (go_at_call 17
     with_reducible refine Calls.mono (HU.out _ (XW7.out.trans Y6.out)).out ?_
     rintro e y7 ⟨rfl, hx⟩
     have Y7 := hide (Y6.out.trans hx)
     have k7 := HS.out _ Y7.out
     clear hx)
  | (go_at_call 8
     with_reducible refine Calls.mono (HAw.out _).out ?_
     rintro e y8 ⟨rfl, hx⟩
     have Y8 := hide (Y7.out.trans hx)
     have k8 := HS.out _ Y8.out
     clear hx))
  clear k0 k1 k2 k3 k4 k5 k6 k7 k8
  go_wp2
  go_ret
  exact ⟨rfl, XW7.out.trans Y8.out⟩

end Go.Proofs.YtcnepaiapefggaaGreat
