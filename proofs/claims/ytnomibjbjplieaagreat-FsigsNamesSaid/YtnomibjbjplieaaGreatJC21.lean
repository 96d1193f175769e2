/- Contract: a type with others in the place of variables; of the program. -/
import Derived.Test.YtnomibjbjplieaaGreatJC20
import Derived.Laws.EntriesVeiled
import Derived.Deep.RegionHeld3
import Derived.Laws.OwnMore
/- Contract: a type with others in the place of variables; of the program. -/
namespace Go.Proofs.YtnomibjbjplieaaGreat
open Go.RowKit

/-- Some args that have been made, and empty ones behind them. -/
def rowT (us : List Ty) (n : Nat) : Array Value := ((us ++ List.replicate n Ty.zero).flatMap tyC.f).toArray
theorem set3 (us : List Ty) (n : Nat) (u : Ty) : (((rowT us (n + 1)).setIfInBounds (us.length * 3) (encStr u.con)).setIfInBounds (us.length * 3 + 1) (.int .i64 u.var)).setIfInBounds (us.length * 3 + 2) (.slice u.A u.args.length u.cap) = rowT (us ++ [u]) n := by
  unfold rowT
  have h1 : (us ++ List.replicate (n + 1) Ty.zero).flatMap tyC.f = us.flatMap tyC.f ++ (tyC.f Ty.zero ++ (List.replicate n Ty.zero).flatMap tyC.f) := by
    rw [List.flatMap_append, List.replicate_succ, List.flatMap_cons]
  have h2 : (us ++ [u] ++ List.replicate n Ty.zero).flatMap tyC.f = us.flatMap tyC.f ++ (tyC.f u ++ (List.replicate n Ty.zero).flatMap tyC.f) := by
    rw [List.flatMap_append, List.flatMap_append, List.flatMap_cons, List.flatMap_nil, List.append_nil, List.append_assoc]
  have hl : (us.flatMap tyC.f).length = us.length * 3 := flat_len _ _ tyC.hf _
  rw [h1, h2, ← hl]
  generalize us.flatMap tyC.f = a
  generalize (List.replicate n Ty.zero).flatMap tyC.f = b
  show (((a ++ (([.string ⟨#[]⟩, .int .i64 0, .slice none 0 0] : List Value) ++ b)).toArray.setIfInBounds _ _).setIfInBounds _ _).setIfInBounds _ _ = (a ++ (([encStr u.con, .int .i64 u.var, .slice u.A u.args.length u.cap] : List Value) ++ b)).toArray
  simp only [List.setIfInBounds_toArray]
  congr 1
  rw [List.set_append_right _ _ (Nat.le_refl _), List.set_append_right _ _ (by omega), List.set_append_right _ _ (by omega)]
  simp

theorem row_at3 (us : List Ty) (n : Nat) : (rowT us (n + 1))[us.length * 3]? = some (.string ⟨#[]⟩) ∧ (rowT us (n + 1))[us.length * 3 + 1]? = some (.int .i64 0) ∧ (rowT us (n + 1))[us.length * 3 + 2]? = some (.slice none 0 0) := by
  unfold rowT
  have h1 : (us ++ List.replicate (n + 1) Ty.zero).flatMap tyC.f = us.flatMap tyC.f ++ (tyC.f Ty.zero ++ (List.replicate n Ty.zero).flatMap tyC.f) := by
    rw [List.flatMap_append, List.replicate_succ, List.flatMap_cons]
  have hl : (us.flatMap tyC.f).length = us.length * 3 := flat_len _ _ tyC.hf _
  rw [h1, ← hl]
  generalize us.flatMap tyC.f = a
  generalize (List.replicate n Ty.zero).flatMap tyC.f = b
  show ((a ++ (([.string ⟨#[]⟩, .int .i64 0, .slice none 0 0] : List Value) ++ b)).toArray)[_]? = _ ∧ ((a ++ (([.string ⟨#[]⟩, .int .i64 0, .slice none 0 0] : List Value) ++ b)).toArray)[_]? = _ ∧ ((a ++ (([.string ⟨#[]⟩, .int .i64 0, .slice none 0 0] : List Value) ++ b)).toArray)[_]? = _
  simp only [List.getElem?_toArray]
  refine ⟨?_, ?_, ?_⟩ <;> rw [List.getElem?_append_right (by omega)] <;> simp
theorem row_done (us : List Ty) : rowT us 0 = (us.flatMap tyC.f).toArray := by unfold rowT; simp
/-- A type is written into its place in a row. -/
theorem put3 {w : World} {b n : Nat} {us : List Ty} (u : Ty) (h : w.heap[b]? = some (.cells (rowT us (n + 1)) 32 (0, 0))) :
    (((w.setCell ⟨b, us.length * 3, none⟩ (encStr u.con)).setCell ⟨b, us.length * 3 + 1, none⟩ (.int .i64 u.var)).setCell ⟨b, us.length * 3 + 2, none⟩ (.slice u.A u.args.length u.cap)).heap[b]? = some (.cells (rowT (us ++ [u]) n) 32 (0, 0)) := by
  rw [← set3]
  exact blk_setCell (blk_setCell (blk_setCell h _ _) _ _) _ _
theorem put3_grown (w : World) (b i j k : Nat) (u v x : Value) : w.grownBy (((w.setCell ⟨b, i, none⟩ u).setCell ⟨b, j, none⟩ v).setCell ⟨b, k, none⟩ x) (some b) := by
  have tr : ∀ {a b c : World} {row : Option Nat}, a.grownBy b row → b.grownBy c row → a.grownBy c row := fun h k => ⟨k.os.trans h.os, k.tape.trans h.tape, k.output.trans h.output, Nat.le_trans h.size k.size, fun j hj hne => (k.block j (Nat.lt_of_lt_of_le hj h.size) hne).trans (h.block j hj hne)⟩
  exact tr (tr (grown_cell _ _ _ _) (grown_cell _ _ _ _)) (grown_cell _ _ _ _)

set_option maxRecDepth 10000 in
set_option maxHeartbeats 4000000 in
theorem f_put (V T : Option Addr) (vc tc : Nat) (vars : List Int) (types : List Ty) (hvn : vars.length ≤ 1000000000) (t : Ty) : ∀ (w : World), TyIn w t → Ints w V vars → TysIn w T types → t.size ≤ 100000 →
    Calls Tryz.prog 72 #[tyV t, .slice V vars.length vc, .slice T types.length tc] w fun e w' => (∃ u, e = .returned (tyV u) ∧ PutOk w w' vars types t u) ∧ Ext w w' := by
  induction t using Ty.ind with
  | h t ih =>
  intro w h hv ht hsz
  obtain ⟨W, hW⟩ : ∃ W, W = (w.alloc (.cells #[encStr t.con, .int .i64 t.var, .slice t.A t.args.length t.cap] 32)).alloc (.cells #[.string ⟨#[]⟩, .int .i64 0, .slice none 0 0] 32) := ⟨_, rfl⟩
  have HW := hide hW.symm
  have X0 : Hid (Ext w W) := hide (by rw [hW]; exact ((Ext.refl _).alloc _).alloc _)
  have B1 : Hid (TBox W w.heap.size t) := hide (by rw [hW]; exact (TBox.new w t).ext ((Ext.refl _).alloc _))
  have B2 : Hid (W.heap[w.heap.size + 1]? = some (.cells #[.string ⟨#[]⟩, .int .i64 0, .slice none 0 0] 32 (0, 0))) := hide (by rw [hW]; exact at_newB _ _ _ (by simp))
  have H := hide h
  have Hv := hide hv
  have Ht := hide ht
  have IH := hide ih
  have hle := h.le
  have hmx := h.max
  have hlen := t.args_len
  clear h hv ht hW ih
  unfold tyV at *
  cases hc : (t.con == ([] : Str))
  · have hc0 : Hid (t.con ≠ []) := hide (by simpa using hc)
    have hmk := make_zeros t.args.length (by omega) W
    have hs := X0.out.size
    have hWs : W.heap.size = w.heap.size + 2 := by rw [← HW.out]; simp
    obtain ⟨W1, hW1⟩ : ∃ W1, W1 = W.alloc (.cells (zerosT t.args.length) 32) := ⟨_, rfl⟩
    have X1 : Hid (Ext W W1) := hide (by rw [hW1]; exact (Ext.refl _).alloc _)
    have B3 : Hid (W1.heap[w.heap.size + 2]? = some (.cells (rowT [] t.args.length) 32 (0, 0))) := hide (by rw [hW1]; exact at_newB _ _ _ hWs.symm)
    rw [hWs, ← hW1] at hmk
    clear hW1
    have c0 := B1.out.c0
    have c1 := B1.out.c1
    have c2 := B1.out.c2
    have c2' := (B1.out.ext X1.out).c2
    go_enter Tryz.func72, Tryz.ntmps72
    go_upto_region 1 with fail
    rw [HW.out]
    go_wp2
    go_loopw [38] (fun i wr => ∃ (k : Nat) (us : List Ty), k ≤ t.args.length ∧ i = .int .i64 k ∧ Hid (Ext W wr) ∧ Hid (wr.heap[w.heap.size + 2]? = some (.cells (rowT us (t.args.length - k)) 32 (0, 0))) ∧ Hid (PutsOk w wr (fun c => w.heap.size ≤ c ∧ c < w.heap.size + 3) vars types (t.args.take k) us)) (fun i _ => t.args.length - (intOf i).toNat)
    case atStart => exact ⟨0, [], Nat.zero_le _, rfl, X1, B3, hide (PutsOk.nil _ _ _ _ _)⟩
    case round =>
      obtain ⟨k, us, hk, rfl, HX, HR, HP⟩ := hrel
      have hul : us.length = k := by have := HP.out.len; rw [List.length_take] at this; omega
      by_cases hlt : k < t.args.length
      · have hlt' : (k : Int) < (t.args.length : Int) := by omega
        have hk0 : (0 : Int) ≤ (k : Int) := by omega
        have XR := hide (X0.out.trans HX.out)
        obtain ⟨b, o, hA, hb, q0, q1, q2⟩ := (H.out.all.ext XR.out).at_ hlt
        have hkm := List.getElem_mem hlt
        have HIH := hide (fun w' (e : Ext w w') => hide (IH.out _ hkm w' ((H.out.all.args _ hkm).ext e) (RowOf.ext intC Hv.out e) (Ht.out.ext e) (by have := Ty.size_arg hkm; omega)))
        have Hx := hide (H.out.all.args _ hkm)
        have Htk : Hid (t.args.take (k + 1) = t.args.take k ++ [t.args[k]'hlt]) := hide (List.take_succ_eq_append_getElem hlt)
        obtain ⟨m, hm⟩ : ∃ m, t.args.length - k = m + 1 := ⟨t.args.length - k - 1, by omega⟩
        have hm2 : t.args.length - (k + 1) = m := by omega
        rw [hm] at HR
        generalize t.args[k]'hlt = x at *
        have hsz3 : w.heap.size + 3 ≤ wr.heap.size := by have := lt_of_obj HR.out; omega
        clear hkm
        rw [hA]
        clear hA
        go_wp2_with fail
        refine (HIH.out _ (XR.out.trans ((Ext.refl _).alloc _))).out.mono ?_
        rintro e w3 ⟨⟨u, rfl, hu⟩, hx3⟩
        have E3 := ((Ext.refl wr).alloc (.cells #[encStr x.con, .int .i64 x.var, .slice x.A x.args.length x.cap] 32)).trans hx3
        have HR3 := hide ((E3.heap (lt_of_obj HR.out)).trans HR.out)
        have HP3 : Hid (PutsOk w w3 (fun c => w.heap.size ≤ c ∧ c < w.heap.size + 3) vars types (t.args.take (k + 1)) (us ++ [u])) := hide (by
          rw [Htk.out]
          exact (HP.out.ext ((Ext.refl wr).alloc (.cells #[encStr x.con, .int .i64 x.var, .slice x.A x.args.length x.cap] 32))).snoc hu hx3 Hx.out Ht.out.args (by simp; omega) (fun c hc => ⟨hc.1, by simp; omega⟩))
        have X3 := hide (HX.out.trans E3)
        have HRn := hide (put3 u HR3.out)
        have HPn := hide (HP3.out.grown (put3_grown w3 (w.heap.size + 2) (us.length * 3) (us.length * 3 + 1) (us.length * 3 + 2) (encStr u.con) (.int .i64 u.var) (.slice u.A u.args.length u.cap)) (fun c e => by injection e with e; omega))
        have Xn : Hid (Ext W (((w3.setCell ⟨w.heap.size + 2, us.length * 3, none⟩ (encStr u.con)).setCell ⟨w.heap.size + 2, us.length * 3 + 1, none⟩ (.int .i64 u.var)).setCell ⟨w.heap.size + 2, us.length * 3 + 2, none⟩ (.slice u.A u.args.length u.cap))) := hide (((X3.out.setCell (by simp; omega) _).setCell (by simp; omega) _).setCell (by simp; omega) _)
        have f0 := free_block HR3.out (us.length * 3)
        have f1 := free_block HR3.out (us.length * 3 + 1)
        have f2 := free_block HR3.out (us.length * 3 + 2)
        have k0 := (bytes_block HR3.out (us.length * 3)).trans (row_at3 us m).1
        have k1 := (bytes_block HR3.out (us.length * 3 + 1)).trans (row_at3 us m).2.1
        have k2 := (bytes_block HR3.out (us.length * 3 + 2)).trans (row_at3 us m).2.2
        rw [hul] at f0 f1 f2 k0 k1 k2 HRn HPn Xn
        clear E3 hx3 hu HR3 HP3
        go_wp2
        go_roundw
        case rel => exact ⟨k + 1, us ++ [u], hlt, by go_num, Xn, hide (by rw [hm2]; exact HRn.out), HPn⟩
        case measure => simp [intOf]; omega
      · have hge : ¬ (k : Int) < (t.args.length : Int) := by omega
        have hkn : k = t.args.length := by omega
        have HRd : Hid (wr.heap[w.heap.size + 2]? = some (.cells (us.flatMap tyC.f).toArray 32 (0, 0))) := hide (by have := HR.out; rw [hkn, Nat.sub_self, row_done] at this; exact this)
        have HPd : Hid (PutsOk w wr (fun c => w.heap.size ≤ c ∧ c < w.heap.size + 3) vars types t.args us) := hide (by have := HP.out; rwa [List.take_of_length_le (by omega)] at this)
        have C1 := hide (B1.out.ext HX.out)
        have C2 := hide ((HX.out.heap (lt_of_obj B2.out)).trans B2.out)
        have hun : us.length = t.args.length := by omega
        clear HR HP hkn
        have g1 := C1.out.c0
        have g2 := C1.out.c1
        have g3 := C1.out.c2
        have fb := C1.out.free 2
        have f0 := free_block C2.out 0
        have f1 := free_block C2.out 1
        have f2 := free_block C2.out 2
        have k0 := bytes_block C2.out 0
        have k1 := bytes_block C2.out 1
        have k2 := bytes_block C2.out 2
        simp only [List.getElem?_toArray, List.getElem?_cons_zero, List.getElem?_cons_succ] at k0 k1 k2
        obtain ⟨U, hU⟩ : ∃ U : Ty, U = .mk t.con t.var (some ⟨w.heap.size + 2, 0, none⟩) t.args.length us := ⟨_, rfl⟩
        obtain ⟨WF, hWF⟩ : ∃ WF, WF = (((wr.setCell ⟨w.heap.size, 2, none⟩ (.slice (some ⟨w.heap.size + 2, 0, none⟩) t.args.length t.args.length)).setCell ⟨w.heap.size + 1, 0, none⟩ (encStr t.con)).setCell ⟨w.heap.size + 1, 1, none⟩ (.int .i64 t.var)).setCell ⟨w.heap.size + 1, 2, none⟩ (.slice (some ⟨w.heap.size + 2, 0, none⟩) t.args.length t.args.length) := ⟨_, rfl⟩
        have XF : Hid (Ext w WF) := hide (by rw [hWF]; exact (((( X0.out.trans HX.out).setCell (by simp) _).setCell (by simp) _).setCell (by simp) _).setCell (by simp) _)
        have PF : Hid (PutOk w WF vars types t U) := hide (by
          have h1 := (HPd.out.grown (grown_cell wr w.heap.size 2 (.slice (some ⟨w.heap.size + 2, 0, none⟩) t.args.length t.args.length)) (fun c e => by injection e with e; omega)).grown (put3_grown _ (w.heap.size + 1) 0 1 2 (encStr t.con) (.int .i64 t.var) (.slice (some ⟨w.heap.size + 2, 0, none⟩) t.args.length t.args.length)) (fun c e => by injection e with e; omega)
          rw [hU]
          rw [← hWF] at h1
          have hblk : WF.heap[w.heap.size + 2]? = some (.cells (us.flatMap tyC.f).toArray 32 (0, 0)) := by
            rw [hWF, Below.heap_setCell _ _ _ _ (by simp), Below.heap_setCell _ _ _ _ (by simp), Below.heap_setCell _ _ _ _ (by simp), Below.heap_setCell _ _ _ _ (by simp)]
            exact HRd.out
          exact h1.done hc0.out H.out.txt (by omega) (by omega) (RowOf.block tyC us hblk) (fun _ a e => by injection e with e; subst e; show w.heap.size ≤ w.heap.size + 2; omega))
        have hUv : tyV U = .agg #[encStr t.con, .int .i64 t.var, .slice (some ⟨w.heap.size + 2, 0, none⟩) t.args.length t.args.length] := by rw [hU]; unfold tyV; show Value.agg #[_, _, .slice _ us.length _] = _; rw [hun]; rfl
        clear HRd HPd hU
        go_wp2
        rw [← hWF]
        refine bodyPost_ret (v := .agg #[encStr t.con, .int .i64 t.var, .slice (some ⟨w.heap.size + 2, 0, none⟩) t.args.length t.args.length]) ?_ rfl ⟨⟨U, by rw [← hUv]; rfl, PF.out⟩, XF.out⟩
        rw [hWF]
        simp [results, Tryz.f72, go_sem, k0, k1, k2]
  · have hc0 : t.con = [] := by simpa using hc
    have HI := hide (index_i V vc vars t.var W (RowOf.ext intC Hv.out X0.out) (by omega))
    have HP := hide (PutOk.var (vars := vars) (types := types) hc0 H.out Ht.out.args)
    clear hc0
    have c0 := B1.out.c0
    have c1 := B1.out.c1
    have c2 := B1.out.c2
    have f0 := free_block B2.out 0
    have f1 := free_block B2.out 1
    have f2 := free_block B2.out 2
    have k0 := bytes_block B2.out 0
    have k1 := bytes_block B2.out 1
    have k2 := bytes_block B2.out 2
    simp only [List.getElem?_toArray, List.getElem?_cons_zero, List.getElem?_cons_succ] at k0 k1 k2
    have HA : Hid (putAt vars types t.var = if 0 ≤ idxI vars t.var then types[(idxI vars t.var).toNat]? else none) := hide rfl
    have hlo := idxI_lo vars t.var
    have hhi := idxI_lt vars t.var
    generalize putAt vars types t.var = R at *
    generalize idxI vars t.var = J at *
    have XF : ∀ u : Ty, Hid (Ext w (((W.setCell ⟨w.heap.size + 1, 0, none⟩ (encStr u.con)).setCell ⟨w.heap.size + 1, 1, none⟩ (.int .i64 u.var)).setCell ⟨w.heap.size + 1, 2, none⟩ (.slice u.A u.args.length u.cap))) := fun u => hide (((X0.out.setCell (by simp) _).setCell (by simp) _).setCell (by simp) _)
    by_cases hj : 0 ≤ J ∧ J < (types.length : Int)
    · obtain ⟨j, rfl⟩ : ∃ j : Nat, J = (j : Int) := ⟨J.toNat, by omega⟩
      have hjl : j < types.length := by omega
      have hR : R = some (types[j]'hjl) := by rw [HA.out, if_pos (by omega), Int.toNat_natCast]; exact List.getElem?_eq_getElem hjl
      subst hR
      obtain ⟨b, o, rfl, hb, q0, q1, q2⟩ := (Ht.out.ext X0.out).at_ hjl
      generalize types[j]'hjl = u at *
      have hg0 : (0 : Int) ≤ (j : Int) := by omega
      have hg1 : (j : Int) < (types.length : Int) := by omega
      clear HA hj
      go_enter Tryz.func72, Tryz.ntmps72
      go_upto_region 1 with fail
      rw [HW.out]
      go_wp2_with fail
      refine HI.out.mono ?_
      rintro e w1 ⟨rfl, rfl⟩
      go_wp2
      refine bodyPost_ret (v := .agg #[encStr u.con, .int .i64 u.var, .slice u.A u.args.length u.cap]) ?_ rfl ⟨⟨u, rfl, HP.out.ext (XF u).out⟩, (XF u).out⟩
      simp [results, Tryz.f72, go_sem, k0, k1, k2]
    · have hR : R = none := by
        rw [HA.out]
        split
        · exact List.getElem?_eq_none (by omega)
        · rfl
      subst hR
      by_cases hj0 : 0 ≤ J
      · have hj1 : ¬ J < (types.length : Int) := by omega
        clear HA hj
        go_enter Tryz.func72, Tryz.ntmps72
        go_upto_region 1 with fail
        rw [HW.out]
        go_wp2_with fail
        refine HI.out.mono ?_
        rintro e w1 ⟨rfl, rfl⟩
        go_wp2
        refine bodyPost_ret (v := .agg #[encStr t.con, .int .i64 t.var, .slice t.A t.args.length t.cap]) ?_ rfl ⟨⟨t, rfl, HP.out.ext (XF t).out⟩, (XF t).out⟩
        simp [results, Tryz.f72, go_sem, k0, k1, k2]
      · clear HA hj
        go_enter Tryz.func72, Tryz.ntmps72
        go_upto_region 1 with fail
        rw [HW.out]
        go_wp2_with fail
        refine HI.out.mono ?_
        rintro e w1 ⟨rfl, rfl⟩
        go_wp2
        refine bodyPost_ret (v := .agg #[encStr t.con, .int .i64 t.var, .slice t.A t.args.length t.cap]) ?_ rfl ⟨⟨t, rfl, HP.out.ext (XF t).out⟩, (XF t).out⟩
        simp [results, Tryz.f72, go_sem, k0, k1, k2]

end Go.Proofs.YtnomibjbjplieaaGreat

/- A region that draws its order, of which the last operation alone turns what the others read. No program in sight. -/
namespace Go.Proofs.YtnomibjbjplieaaGreat
open Go.RowKit

section
variable {P : Program} {md : Region.Mode} {ops : Array Oper} {Q : Exit → Act → World → Prop} {S : World → Prop} {last : Nat}
/-- Whatever order is picked from here on, and S holds behind every operation but the one numbered `last`. -/
def anyBut (P : Program) (md : Region.Mode) (ops : Array Oper) (Q : Exit → Act → World → Prop) (S : World → Prop) (last : Nat) : Nat → Array Bool → Act → World → Prop
  | 0, listed, a, w => Region.ready md ops listed = [] ∧ Q .normal a w
  | fuel + 1, listed, a, w =>
    (Region.ready md ops listed = [] → Q .normal a w) ∧
    ∀ i ∈ Region.ready md ops listed, wpOp P ops Q i (fun a' w' => (i ≠ last → S w') ∧ anyBut P md ops Q S last fuel (listed.setIfInBounds i true) a' w') a w
theorem any_of_but : ∀ (fuel : Nat) (listed : Array Bool) (a : Act) (w : World), anyBut P md ops Q S last fuel listed a w → wpAny P md ops Q fuel listed a w
  | 0, _, _, _, h => h
  | fuel + 1, _, _, _, h => ⟨h.1, fun i hi => wpOp_mono (fun _ _ h' => any_of_but fuel _ _ _ h'.2) (h.2 i hi)⟩
/-- The last one waits for number `i`. -/
def waitsFor (md : Region.Mode) (ops : Array Oper) (last i : Nat) : Bool := match ops[last]? with | some o => o.after.any fun e => Region.binds md e && e.on == i | none => true
theorem waitsFor_spec {i : Nat} {o : Oper} (h : waitsFor md ops last i = true) (ho : ops[last]? = some o) : ∃ e ∈ o.after, Region.binds md e = true ∧ e.on = i := by
  unfold waitsFor at h
  rw [ho] at h
  obtain ⟨k, hk, h2⟩ := Array.any_eq_true.1 h
  simp only [Bool.and_eq_true, beq_iff_eq] at h2
  exact ⟨_, Array.getElem_mem hk, h2⟩
theorem but_first {i : Nat} {oi : Oper} {v : Value} (hi : ops[i]? = some oi) (hsel : ∀ (j : Nat) (o : Oper) cs b, ops[j]? = some o → o.op ≠ .select cs b)
    (hQ : ∀ c a w, Q (.panic c) (a.put oi.dst v) w → Q (.panic c) a w) (hl : waitsFor md ops last i = true) :
    ∀ (fuel : Nat) (listed : Array Bool) (a : Act) (w : World),
      (∀ j oj, ops[j]? = some oj → j ≠ i → listed.getD j true = false → (∀ e ∈ oj.after, Region.binds md e = true → e.on ≠ i) → oi.apart ops oj = true) →
      i ∈ Region.ready md ops listed → YieldsIf P ops S oi v a → S w →
      anyBut P md ops Q S last fuel (listed.setIfInBounds i true) (a.put oi.dst v) w → anyBut P md ops Q S last (fuel + 1) listed a w := by
  intro fuel
  induction fuel with
  | zero =>
    intro listed a w _ hr hy hS H
    refine ⟨fun h => (by rw [h] at hr; cases hr), fun j hj => ?_⟩
    by_cases hji : j = i
    · subst hji; exact hy.wpOp hi hS ⟨fun _ => hS, H⟩
    · have := ready_mono hj hji
      rw [H.1] at this
      cases this
  | succ fuel ih =>
    intro listed a w hfree hr hy hS H
    refine ⟨fun h => (by rw [h] at hr; cases hr), fun j hj => ?_⟩
    by_cases hji : j = i
    · subst hji; exact hy.wpOp hi hS ⟨fun _ => hS, H⟩
    · have h1 := H.2 j (ready_mono hj hji)
      obtain ⟨hjun, oj, hoj, hall⟩ := mem_ready.1 hj
      have hnot : ∀ e ∈ oj.after, Region.binds md e = true → e.on ≠ i := fun e he hb heq => by
        have h1 := hall e he hb
        have h0 := (mem_ready.1 hr).1
        rw [heq] at h1
        rcases Nat.lt_or_ge i listed.size with h' | h'
        · simp [h'] at h0 h1; rw [h0] at h1; cases h1
        · simp [Array.getElem?_eq_none h'] at h1
      have hjl : j ≠ last := fun e => by
        subst e
        obtain ⟨e, he, hb, ho⟩ := waitsFor_spec hl hoj
        exact hnot e he hb ho
      have h2 := wpOp_putIf hoj (hfree j oj hoj hji hjun hnot) (fun cs b => hsel i oi cs b hi) (fun cs b => hsel j oj cs b hoj) hQ hy h1
      have hfree' : ∀ k ok, ops[k]? = some ok → k ≠ i → (listed.setIfInBounds j true).getD k true = false →
          (∀ e ∈ ok.after, Region.binds md e = true → e.on ≠ i) → oi.apart ops ok = true := fun k ok hk hki hun hno => by
        refine hfree k ok hk hki ?_ hno
        by_cases hjk : j = k
        · subst hjk; exact hjun
        · rw [getD_set_ne true hjk] at hun; exact hun
      refine wpOp_mono (fun a' w' h3 => ⟨h3.2.1, ih (listed.setIfInBounds j true) a' w' hfree' (ready_mono hr (Ne.symm hji)) h3.1 (h3.2.1 hjl) ?_⟩) h2
      rw [Array.setIfInBounds_comm _ _ hji]
      exact h3.2.2
theorem but_take {i : Nat} {oi : Oper} {v : Value} {fuel : Nat} {listed : Array Bool} {a : Act} {w : World} (hi : ops[i]? = some oi)
    (hs : Region.noSelect ops = true) (hf : Region.free md ops listed i = true) (hr : (Region.ready md ops listed).contains i = true) (hl : waitsFor md ops last i = true)
    (hQ : ∀ c a w, Q (.panic c) (a.put oi.dst v) w → Q (.panic c) a w) (hy : YieldsIf P ops S oi v a) (hS : S w)
    (h : anyBut P md ops Q S last fuel (listed.setIfInBounds i true) (a.put oi.dst v) w) : anyBut P md ops Q S last (fuel + 1) listed a w :=
  but_first hi (Region.noSelect_spec hs) hQ hl fuel listed a w (Region.free_spec hi hf) (by simpa using hr) hy hS h
theorem drop_get {i : Nat} {o : Oper} {rest : List Oper} (h : ops.toList.drop i = o :: rest) : ops[i]? = some o := by
  have h1 := congrArg (fun l => l[0]?) h
  simpa using h1
/-- The same, the operation written out. -/
theorem but_takeL {i : Nat} {oi : Oper} {rest : List Oper} {v : Value} {fuel : Nat} {listed : Array Bool} {a : Act} {w : World} (hi : ops.toList.drop i = oi :: rest)
    (hs : Region.noSelect ops = true) (hf : Region.free md ops listed i = true) (hr : (Region.ready md ops listed).contains i = true) (hl : waitsFor md ops last i = true)
    (hQ : ∀ c a w, Q (.panic c) (a.put oi.dst v) w → Q (.panic c) a w) (hy : YieldsIf P ops S oi v a) (hS : S w)
    (h : anyBut P md ops Q S last fuel (listed.setIfInBounds i true) (a.put oi.dst v) w) : anyBut P md ops Q S last (fuel + 1) listed a w :=
  but_take (drop_get hi) hs hf hr hl hQ hy hS h
theorem but_step {i : Nat} {o : Oper} {fuel : Nat} {listed : Array Bool} {a : Act} {w : World} (hr : Region.ready md ops listed = [i]) (ho : ops[i]? = some o)
    (h : ∀ K' : Act → World → Prop, Shut (∀ a w, (i ≠ last → S w) → anyBut P md ops Q S last fuel (listed.setIfInBounds i true) a w → K' a w) → if Region.wanted o (yielded ops a.tmps) = true then Oper.wp P o a w K' Q else K' (a.put o.dst undef) w) :
    anyBut P md ops Q S last (fuel + 1) listed a w := by
  refine ⟨fun h0 => (by rw [hr] at h0; cases h0), fun j hj => ?_⟩
  rw [hr] at hj
  have : j = i := by simpa using hj
  subst this
  exact wpOp_step ho (fun K' hK => h K' (fun a w hS hW => hK a w ⟨hS, hW⟩))
theorem but_done {listed : Array Bool} {a : Act} {w : World} (hr : Region.ready md ops listed = []) (h : Q .normal a w) : ∀ fuel, anyBut P md ops Q S last fuel listed a w
  | 0 => ⟨hr, h⟩
  | _ + 1 => ⟨fun _ => h, by rw [hr]; simp⟩
theorem but_start {id : Nat} {a : Act} {w : World} (last : Nat) (S : World → Prop) (hm : P.follows .mixedOrders = true)
    (h : anyBut P .any ops Q S last ops.size (Array.replicate ops.size false) a w.drew) : (Code.region id ops true).wp P Q a w :=
  wp_region_any hm (any_of_but _ _ _ _ h)
/-- The same, the list of what is done written out. -/
theorem but_startN {id : Nat} {a : Act} {w : World} (last n : Nat) (bs : Array Bool) (S : World → Prop) (hm : P.follows .mixedOrders = true) (hn : ops.size = n) (hb : Array.replicate n false = bs)
    (h : anyBut P .any ops Q S last n bs a w.drew) : (Code.region id ops true).wp P Q a w :=
  but_start last S hm (by rw [hn, hb]; exact h)
end

end Go.Proofs.YtnomibjbjplieaaGreat

/- A function's type, and contracts on it of the reference. -/
namespace Go.Proofs.YtnomibjbjplieaaGreat
open Go.RowKit

/-- From one type to another one. -/
def arrP (p q : Ty.Pure) : Ty.Pure := .mk [45, 62] 0 [p, q]
noncomputable def funP (l : List Ty) (q : Ty.Pure) : Ty.Pure := l.foldr (fun a q => arrP a.pure q) q
theorem funP_drop (l : List Ty) (q : Ty.Pure) {k : Nat} (h : k < l.length) : funP (l.drop k) q = arrP (l[k]'h).pure (funP (l.drop (k + 1)) q) := by
  unfold funP
  rw [List.drop_eq_getElem_cons h]
  rfl
/-- A block that was there, and in which no arg, nor the result, lies. -/
def FreeOf (w : World) (l : List Ty) (to : Ty) (c : Nat) : Prop := c < w.heap.size ∧ awayB c to = true ∧ ∀ a ∈ l, awayB c a = true
/-- One that has been made. -/
def arrT (a b : Ty) (g : Nat) : Ty := .mk [45, 62] 0 (some ⟨g, 0, none⟩) 2 [a, b]
theorem arrT_pure (a b : Ty) (g : Nat) : (arrT a b g).pure = arrP a.pure b.pure := by rw [Ty.pure_eq]; rfl
theorem arrT_in {w : World} {a b : Ty} {g : Nat} (ha : TyIn w a) (hb : TyIn w b) (h : w.heap[g]? = some (.cells #[encStr a.con, .int .i64 a.var, .slice a.A a.args.length a.cap, encStr b.con, .int .i64 b.var, .slice b.A b.args.length b.cap] 32 (0, 0))) : TyIn w (arrT a b g) :=
  TyIn.of (by simp) (by decide) (by decide) (RowOf.block tyC [a, b] (by simpa [tyC, Ty.cells] using h)) (by
    intro k hk
    simp at hk
    rcases hk with rfl | rfl
    · exact ha
    · exact hb)
theorem arrT_away {c g : Nat} {a b : Ty} (hg : g ≠ c) (ha : awayB c a = true) (hb : awayB c b = true) : awayB c (arrT a b g) = true :=
  awayB_mk (fun _ x e => by injection e with e; subst e; exact hg) (by
    intro k hk
    simp at hk
    rcases hk with rfl | rfl
    · exact ha
    · exact hb)

set_option maxRecDepth 10000 in
set_option maxHeartbeats 2000000 in
theorem r_to16 (a b : Ty) (w : World) (ha : TyIn w a) (hb : TyIn w b) : Calls Tryz.prog 55 #[tyV a, tyV b] w fun e w' => (∃ g, e = .returned (tyV (arrT a b g)) ∧ TyIn w' (arrT a b g) ∧ w.heap.size ≤ g) ∧ Ext w w' := by
  obtain ⟨W, hW⟩ : ∃ W, W = ((w.alloc (.cells #[encStr a.con, .int .i64 a.var, .slice a.A a.args.length a.cap] 32)).alloc (.cells #[encStr b.con, .int .i64 b.var, .slice b.A b.args.length b.cap] 32)).alloc (.cells #[.string ⟨#[]⟩, .int .i64 0, .slice none 0 0] 32) := ⟨_, rfl⟩
  have HW := hide hW.symm
  have X0 : Hid (Ext w W) := hide (by rw [hW]; exact (((Ext.refl _).alloc _).alloc _).alloc _)
  have hWs : W.heap.size = w.heap.size + 3 := by rw [hW]; simp
  have B1 : Hid (TBox W w.heap.size a) := hide (by rw [hW]; exact (TBox.new w a).ext (((Ext.refl _).alloc _).alloc _))
  have B2 : Hid (TBox W (w.heap.size + 1) b) := hide (by rw [hW]; have := TBox.new (w.alloc (.cells #[encStr a.con, .int .i64 a.var, .slice a.A a.args.length a.cap] 32)) b; rw [World.size_alloc] at this; exact this.ext ((Ext.refl _).alloc _))
  have B3 : Hid (W.heap[w.heap.size + 1 + 1]? = some (.cells #[.string ⟨#[]⟩, .int .i64 0, .slice none 0 0] 32 (0, 0))) := hide (by rw [hW]; exact at_newB _ _ _ (by simp))
  have Ha := hide ha
  have Hb := hide hb
  clear hW ha hb
  unfold tyV at *
  have c0 := B1.out.c0
  have c1 := B1.out.c1
  have c2 := B1.out.c2
  have d0 := B2.out.c0
  have d1 := B2.out.c1
  have d2 := B2.out.c2
  have f0 := free_block B3.out 0
  have f1 := free_block B3.out 1
  have f2 := free_block B3.out 2
  have k0 := bytes_block B3.out 0
  have k1 := bytes_block B3.out 1
  have k2 := bytes_block B3.out 2
  simp only [List.getElem?_toArray, List.getElem?_cons_zero, List.getElem?_cons_succ] at k0 k1 k2
  obtain ⟨WF, hWF⟩ : ∃ WF, WF = (((W.setCell ⟨w.heap.size + 1 + 1, 0, none⟩ (.string ⟨#[45, 62]⟩)).setCell ⟨w.heap.size + 1 + 1, 1, none⟩ (.int .i64 0)).setCell ⟨w.heap.size + 1 + 1, 2, none⟩ (.slice (some ⟨w.heap.size + 3, 0, none⟩) 2 2)).alloc (.cells #[encStr a.con, .int .i64 a.var, .slice a.A a.args.length a.cap, encStr b.con, .int .i64 b.var, .slice b.A b.args.length b.cap] 32) := ⟨_, rfl⟩
  have XF : Hid (Ext w WF) := hide (by rw [hWF]; exact ((((X0.out.setCell (by simp; omega) _).setCell (by simp; omega) _).setCell (by simp; omega) _).alloc _))
  have GF : Hid (WF.heap[w.heap.size + 3]? = some (.cells #[encStr a.con, .int .i64 a.var, .slice a.A a.args.length a.cap, encStr b.con, .int .i64 b.var, .slice b.A b.args.length b.cap] 32 (0, 0))) := hide (by rw [hWF]; exact at_newB _ _ _ (by simp [World.setCell]; omega))
  have HF : WF.heap[w.heap.size + 1 + 1]? = some (.cells #[.string ⟨#[45, 62]⟩, .int .i64 0, .slice (some ⟨w.heap.size + 3, 0, none⟩) 2 2] 32 (0, 0)) := by
    rw [hWF]
    refine (((Ext.refl _).alloc _).heap (by simp [World.setCell]; omega)).trans ?_
    have := blk_setCell (blk_setCell (blk_setCell B3.out 0 (.string ⟨#[45, 62]⟩)) 1 (.int .i64 0)) 2 (.slice (some ⟨w.heap.size + 3, 0, none⟩) 2 2)
    simpa using this
  have m0 := bytes_block HF 0
  have m1 := bytes_block HF 1
  have m2 := bytes_block HF 2
  simp only [List.getElem?_toArray, List.getElem?_cons_zero, List.getElem?_cons_succ] at m0 m1 m2
  go_enter Tryz.func55, Tryz.ntmps55
  go_upto_region 1 with fail
  rw [HW.out]
  go_wp2
  rw [← hWF]
  refine bodyPost_ret (v := .agg #[.string ⟨#[45, 62]⟩, .int .i64 0, .slice (some ⟨w.heap.size + 3, 0, none⟩) 2 2]) ?_ rfl ⟨⟨w.heap.size + 3, rfl, arrT_in (Ha.out.ext XF.out) (Hb.out.ext XF.out) GF.out, by omega⟩, XF.out⟩
  simp [results, Tryz.f55, go_sem, m0, m1, m2]

set_option maxRecDepth 10000 in
set_option maxHeartbeats 2000000 in
theorem r_fun16 (A : Option Addr) (cap : Nat) (l : List Ty) (to : Ty) (w : World) (h : TysIn w A l) (ht : TyIn w to) (hl : l.length ≤ 1000000) :
    Calls Tryz.prog 28 #[.slice A l.length cap, tyV to] w fun e w' => (∃ u, e = .returned (tyV u) ∧ TyIn w' u ∧ u.pure = funP l to.pure ∧ ∀ c, FreeOf w l to c → awayB c u = true) ∧ Ext w w' := by
  obtain ⟨W, hW⟩ : ∃ W, W = (w.alloc (.cells #[encStr to.con, .int .i64 to.var, .slice to.A to.args.length to.cap] 32)).alloc (.cells #[.string ⟨#[]⟩, .int .i64 0, .slice none 0 0] 32) := ⟨_, rfl⟩
  have HW := hide hW.symm
  have X0 : Hid (Ext w W) := hide (by rw [hW]; exact ((Ext.refl _).alloc _).alloc _)
  have B1 : Hid (TBox W w.heap.size to) := hide (by rw [hW]; exact (TBox.new w to).ext ((Ext.refl _).alloc _))
  have B2 : Hid (W.heap[w.heap.size + 1]? = some (.cells #[.string ⟨#[]⟩, .int .i64 0, .slice none 0 0] 32 (0, 0))) := hide (by rw [hW]; exact at_newB _ _ _ (by simp))
  have Ht := hide ht
  have H := hide h
  have Haw : Hid (awayB w.heap.size to = true ∧ awayB (w.heap.size + 1) to = true ∧ ∀ c, FreeOf w l to c → awayB c to = true) := hide ⟨away_new ht (Nat.le_refl _), away_new ht (by omega), fun c h => h.2.1⟩
  have HT := hide (fun a b w' (ha : TyIn w' a) (hb : TyIn w' b) => hide (r_to16 a b w' ha hb))
  clear h ht hW
  unfold tyV at *
  go_enter Tryz.func28, Tryz.ntmps28
  go_upto_region 1 with fail
  rw [HW.out]
  go_wp2
  go_loopw [5] (fun i wr => ∃ (k : Nat) (v : Int) (u : Ty), k ≤ l.length ∧ i = .int .i64 v ∧ v = (k : Int) - 1 ∧ Hid (Ext w wr) ∧ Hid (TBox wr w.heap.size u) ∧ Hid (TyIn wr u) ∧ Hid (awayB w.heap.size u = true ∧ awayB (w.heap.size + 1) u = true ∧ ∀ c, FreeOf w l to c → awayB c u = true) ∧ Hid (u.pure = funP (l.drop k) to.pure) ∧ Hid (wr.heap[w.heap.size + 1]? = some (.cells #[.string ⟨#[]⟩, .int .i64 0, .slice none 0 0] 32 (0, 0)))) (fun i _ => (intOf i + 1).toNat)
  case atStart => exact ⟨l.length, (l.length : Int) - 1, to, Nat.le_refl _, rfl, rfl, X0, B1, hide (Ht.out.ext X0.out), Haw, hide (by rw [List.drop_length]; rfl), B2⟩
  case round =>
    obtain ⟨k, v, u, hk, rfl, hv, HX, HB, HU, HA, HP, HR⟩ := hrel
    have HV := hide hv
    have c0 := HB.out.c0
    have c1 := HB.out.c1
    have c2 := HB.out.c2
    by_cases h0 : k = 0
    · have hlt : ¬ v ≥ 0 := by omega
      have HP0 : Hid (u.pure = funP l to.pure) := hide (by have := HP.out; rwa [h0, List.drop_zero] at this)
      clear hv
      have f0 := free_block HR.out 0
      have f1 := free_block HR.out 1
      have f2 := free_block HR.out 2
      have k0 := bytes_block HR.out 0
      have k1 := bytes_block HR.out 1
      have k2 := bytes_block HR.out 2
      simp only [List.getElem?_toArray, List.getElem?_cons_zero, List.getElem?_cons_succ] at k0 k1 k2
      have XF := hide (((HX.out.setCell (p := ⟨w.heap.size + 1, 0, none⟩) (by simp) (encStr u.con)).setCell (p := ⟨w.heap.size + 1, 1, none⟩) (by simp) (.int .i64 u.var)).setCell (p := ⟨w.heap.size + 1, 2, none⟩) (by simp) (.slice u.A u.args.length u.cap))
      have TF : Hid (TyIn (((wr.setCell ⟨w.heap.size + 1, 0, none⟩ (encStr u.con)).setCell ⟨w.heap.size + 1, 1, none⟩ (.int .i64 u.var)).setCell ⟨w.heap.size + 1, 2, none⟩ (.slice u.A u.args.length u.cap)) u) := hide (HU.out.grown (put3_grown _ _ _ _ _ _ _ _) (fun c e => by injection e with e; subst e; exact HA.out.2.1))
      go_wp2
      refine bodyPost_ret (v := .agg #[encStr u.con, .int .i64 u.var, .slice u.A u.args.length u.cap]) ?_ rfl ⟨⟨u, rfl, TF.out, HP0.out, HA.out.2.2⟩, XF.out⟩
      simp [results, Tryz.f28, go_sem, k0, k1, k2]
    · obtain ⟨m, hm⟩ : ∃ m, k = m + 1 := ⟨k - 1, by omega⟩
      subst hm
      have hml : m < l.length := by omega
      have hvm : v = (m : Int) := by omega
      subst hvm
      have hge : (m : Int) ≥ 0 := by omega
      have hml' : (m : Int) < (l.length : Int) := by omega
      have hm0 : (0 : Int) ≤ (m : Int) := by omega
      obtain ⟨b, o, hAl, hb, q0, q1, q2⟩ := (H.out.ext HX.out).at_ hml
      have hxm := List.getElem_mem hml
      have Hx := hide (H.out.args _ hxm)
      have HPm := hide (funP_drop l to.pure hml)
      have Hxm := hide hxm
      clear hxm
      generalize l[m]'hml = x at *
      subst hAl
      have hS0 : wr.drew.cell? ⟨b, o + m * 3, none⟩ = some (.string ⟨x.con.toArray⟩) ∧ wr.drew.cell? ⟨b, o + m * 3 + 1, none⟩ = some (.int .i64 x.var) ∧ wr.drew.cell? ⟨b, o + m * 3 + 2, none⟩ = some (.slice x.A x.args.length x.cap) ∧ wr.drew.cell? ⟨w.heap.size, 0, none⟩ = some (encStr u.con) ∧ wr.drew.cell? ⟨w.heap.size, 1, none⟩ = some (.int .i64 u.var) ∧ wr.drew.cell? ⟨w.heap.size, 2, none⟩ = some (.slice u.A u.args.length u.cap) := ⟨q0, q1, q2, c0, c1, c2⟩
      have HS := hide (fun w' (e : Ext wr w') => And.intro (e.cell q0) (And.intro (e.cell q1) (And.intro (e.cell q2) (And.intro (e.cell c0) (And.intro (e.cell c1) (e.cell c2))))))
      clear hv
      go_wp2
      refine but_startN 6 7 #[false, false, false, false, false, false, false] (fun w' => w'.cell? ⟨b, o + m * 3, none⟩ = some (.string ⟨x.con.toArray⟩) ∧ w'.cell? ⟨b, o + m * 3 + 1, none⟩ = some (.int .i64 x.var) ∧ w'.cell? ⟨b, o + m * 3 + 2, none⟩ = some (.slice x.A x.args.length x.cap) ∧ w'.cell? ⟨w.heap.size, 0, none⟩ = some (encStr u.con) ∧ w'.cell? ⟨w.heap.size, 1, none⟩ = some (.int .i64 u.var) ∧ w'.cell? ⟨w.heap.size, 2, none⟩ = some (.slice u.A u.args.length u.cap)) (by kernel_rfl) (by kernel_rfl) (by kernel_rfl) ?_
      (refine but_takeL (i := 0) (v := ?_) rfl (by kernel_rfl) (by kernel_rfl) (by kernel_rfl) (by kernel_rfl) (fun _ _ _ h => h) (Or.inl ⟨by kernel_rfl, ?_⟩) (by assumption) ?_; rotate_left 1; (focus (intro w hSw; (try dsimp only at hSw); (try obtain ⟨g1, g2, g3⟩ := hSw); (try obtain ⟨g1, g2⟩ := hSw); go_simp; try with_reducible rfl)); simp only [Act.put, List.setIfInBounds_toArray, List.set_cons_zero, List.set_cons_succ])
      (refine but_takeL (i := 1) (v := ?_) rfl (by kernel_rfl) (by kernel_rfl) (by kernel_rfl) (by kernel_rfl) (fun _ _ _ h => h) (Or.inl ⟨by kernel_rfl, ?_⟩) (by assumption) ?_; rotate_left 1; (focus (intro w hSw; (try dsimp only at hSw); (try obtain ⟨g1, g2, g3⟩ := hSw); (try obtain ⟨g1, g2⟩ := hSw); go_simp; try with_reducible rfl)); simp only [Act.put, List.setIfInBounds_toArray, List.set_cons_zero, List.set_cons_succ])
      (refine but_takeL (i := 2) (v := ?_) rfl (by kernel_rfl) (by kernel_rfl) (by kernel_rfl) (by kernel_rfl) (fun _ _ _ h => h) (Or.inl ⟨by kernel_rfl, ?_⟩) (by assumption) ?_; rotate_left 1; (focus (intro w hSw; (try dsimp only at hSw); (try obtain ⟨g1, g2, g3⟩ := hSw); (try obtain ⟨g1, g2⟩ := hSw); go_simp; try with_reducible rfl)); simp only [Act.put, List.setIfInBounds_toArray, List.set_cons_zero, List.set_cons_succ])
      (refine but_takeL (i := 3) (v := ?_) rfl (by kernel_rfl) (by kernel_rfl) (by kernel_rfl) (by kernel_rfl) (fun _ _ _ h => h) (Or.inl ⟨by kernel_rfl, ?_⟩) (by assumption) ?_; rotate_left 1; (focus (intro w hSw; (try dsimp only at hSw); (try obtain ⟨g1, g2, g3⟩ := hSw); (try obtain ⟨g1, g2⟩ := hSw); go_simp; try with_reducible rfl)); simp only [Act.put, List.setIfInBounds_toArray, List.set_cons_zero, List.set_cons_succ])
      (refine but_takeL (i := 4) (v := ?_) rfl (by kernel_rfl) (by kernel_rfl) (by kernel_rfl) (by kernel_rfl) (fun _ _ _ h => h) (Or.inl ⟨by kernel_rfl, ?_⟩) (by assumption) ?_; rotate_left 1; (focus (intro w hSw; (try dsimp only at hSw); (try obtain ⟨g1, g2, g3⟩ := hSw); (try obtain ⟨g1, g2⟩ := hSw); go_simp; try with_reducible rfl)); simp only [Act.put, List.setIfInBounds_toArray, List.set_cons_zero, List.set_cons_succ])
      refine but_step (i := 5) (by kernel_rfl) rfl (fun KK hK => ?_)
      go_simp
      refine Calls.mono (HT.out x u _ (Hx.out.ext (HX.out.trans (Ext.refl _).drew)) (HU.out.ext (Ext.refl _).drew)).out ?_
      rintro e w8 ⟨⟨g, rfl, hin, hg⟩, hx8⟩
      have X8 : Ext wr w8 := ((Ext.refl wr).drew).trans hx8
      have hS8 := HS.out _ X8
      refine hK.out _ _ (fun _ => hS8) ?_
      clear hK KK
      simp only [List.setIfInBounds_toArray, List.set_cons_zero, List.set_cons_succ]
      obtain ⟨U, hU⟩ : ∃ U, U = arrT x u g := ⟨_, rfl⟩
      have hBs : w8.heap[w.heap.size]? = some (.cells #[encStr u.con, .int .i64 u.var, .slice u.A u.args.length u.cap] 32 (0, 0)) := HB.out.ext X8
      have f0 := free_block hBs 0
      have f1 := free_block hBs 1
      have f2 := free_block hBs 2
      have e0 := bytes_block hBs 0
      have e1 := bytes_block hBs 1
      have e2 := bytes_block hBs 2
      simp only [List.getElem?_toArray, List.getElem?_cons_zero, List.getElem?_cons_succ] at e0 e1 e2
      rw [← hU] at hin
      have hg' : wr.heap.size ≤ g := hg
      have hw1 : w.heap.size < wr.heap.size := HB.out.lt
      have hw2 : w.heap.size + 1 < wr.heap.size := lt_of_obj HR.out
      have HAU : Hid (awayB w.heap.size U = true ∧ awayB (w.heap.size + 1) U = true ∧ ∀ c, FreeOf w l to c → awayB c U = true) := hide (by
        rw [hU]
        exact ⟨arrT_away (by omega) (away_new Hx.out (Nat.le_refl _)) HA.out.1, arrT_away (by omega) (away_new Hx.out (by omega)) HA.out.2.1, fun c hc => arrT_away (by have := hc.1; omega) (hc.2.2 x Hxm.out) (HA.out.2.2 c hc)⟩)
      have HPU : Hid (U.pure = funP (l.drop m) to.pure) := hide (by rw [hU, arrT_pure, HPm.out, HP.out])
      have HXU : Hid (Ext w (((w8.setCell ⟨w.heap.size, 0, none⟩ (encStr U.con)).setCell ⟨w.heap.size, 1, none⟩ (.int .i64 U.var)).setCell ⟨w.heap.size, 2, none⟩ (.slice U.A U.args.length U.cap))) := hide ((((HX.out.trans X8).setCell (by simp) _).setCell (by simp) _).setCell (by simp) _)
      have HBU : Hid (TBox (((w8.setCell ⟨w.heap.size, 0, none⟩ (encStr U.con)).setCell ⟨w.heap.size, 1, none⟩ (.int .i64 U.var)).setCell ⟨w.heap.size, 2, none⟩ (.slice U.A U.args.length U.cap)) w.heap.size U) := hide (by
        have := blk_setCell (blk_setCell (blk_setCell hBs 0 (encStr U.con)) 1 (.int .i64 U.var)) 2 (.slice U.A U.args.length U.cap)
        unfold TBox
        simpa using this)
      have HTU : Hid (TyIn (((w8.setCell ⟨w.heap.size, 0, none⟩ (encStr U.con)).setCell ⟨w.heap.size, 1, none⟩ (.int .i64 U.var)).setCell ⟨w.heap.size, 2, none⟩ (.slice U.A U.args.length U.cap)) U) := hide (hin.grown (put3_grown _ _ _ _ _ _ _ _) (fun c e => by injection e with e; subst e; exact HAU.out.1))
      have HRU : Hid ((((w8.setCell ⟨w.heap.size, 0, none⟩ (encStr U.con)).setCell ⟨w.heap.size, 1, none⟩ (.int .i64 U.var)).setCell ⟨w.heap.size, 2, none⟩ (.slice U.A U.args.length U.cap)).heap[w.heap.size + 1]? = some (.cells #[.string ⟨#[]⟩, .int .i64 0, .slice none 0 0] 32 (0, 0))) := hide (by
        rw [Below.heap_setCell _ _ _ _ (by simp), Below.heap_setCell _ _ _ _ (by simp), Below.heap_setCell _ _ _ _ (by simp)]
        exact (X8.heap hw2).trans HR.out)
      rw [← hU]
      clear hU hin hg hg' hx8 X8 hBs
      refine but_step (i := 6) (by kernel_rfl) rfl (fun KK hK => ?_)
      go_simp
      refine hK.out _ _ (fun h => absurd rfl h) ?_
      clear hK KK
      try simp only [Act.put]
      refine but_done (by kernel_rfl) ?_ _
      clear hS8 hS0
      go_wp2
      go_roundw
      case rel => exact ⟨m, (m : Int) - 1, U, by omega, by go_num, rfl, HXU, HBU, HTU, HAU, HPU, HRU⟩
      case measure => simp [intOf]

end Go.Proofs.YtnomibjbjplieaaGreat
