/- Contract: a type with others in the place of variables; of the program. -/
import Derived.Test.YtcnkfkjgpdmebaaGreatDoorJN21
import Derived.Laws.EntriesVeiled
/- Contract: a type with others in the place of variables; of the program. -/
namespace Go.Proofs.YtcnkfkjgpdmebaaGreatDoor
open Go.RowKit

/-- Some args that have been made, and empty ones behind them. -/
def rowT (us : List Ty) (n : Nat) : Array Value := ((us ++ List.replicate n Ty.zero).flatMap tyC.f).toArray
theorem set3 (us : List Ty) (n : Nat) (u : Ty) : (((rowT us (n + 1)).setIfInBounds (us.length * 3) (encStr u.con)).setIfInBounds (us.length * 3 + 1) (.int .i64 u.var)).setIfInBounds (us.length * 3 + 2) (.slice u.A u.args.length u.cap) = rowT (us ++ [u]) n := by
  unfold rowT
  have h1 : (us ++ List.replicate (n + 1) Ty.zero).flatMap tyC.f = us.flatMap tyC.f ++ (tyC.f Ty.zero ++ (List.replicate n Ty.zero).flatMap tyC.f) := by
    rw [List.flatMap_append, List.replicate_succ, List.flatMap_cons]
  have h2 : (us ++ [u] ++ List.replicate n Ty.zero).flatMap tyC.f = us.flatMap tyC.f ++ (tyC.f u ++ (List.replicate n Ty.zero).flatMap tyC.f) := by
    rw [List.flatMap_append, List.flatMap_append, List.flatMap_cons, List.flatMap_nil, List.append_nil, List.append_assoc]
  have hl : (us.flatMap tyC.f).length = us.length * 3 := flat_len _ _ tyC.hf _
  rw [h1, h2, ← hl]
  generalize us.flatMap tyC.f = a
  generalize (List.replicate n Ty.zero).flatMap tyC.f = b
  show (((a ++ (([.string ⟨#[]⟩, .int .i64 0, .slice none 0 0] : List Value) ++ b)).toArray.setIfInBounds _ _).setIfInBounds _ _).setIfInBounds _ _ = (a ++ (([encStr u.con, .int .i64 u.var, .slice u.A u.args.length u.cap] : List Value) ++ b)).toArray
  simp only [List.setIfInBounds_toArray]
  congr 1
  rw [List.set_append_right _ _ (Nat.le_refl _), List.set_append_right _ _ (by omega), List.set_append_right _ _ (by omega)]
  simp

theorem row_at3 (us : List Ty) (n : Nat) : (rowT us (n + 1))[us.length * 3]? = some (.string ⟨#[]⟩) ∧ (rowT us (n + 1))[us.length * 3 + 1]? = some (.int .i64 0) ∧ (rowT us (n + 1))[us.length * 3 + 2]? = some (.slice none 0 0) := by
  unfold rowT
  have h1 : (us ++ List.replicate (n + 1) Ty.zero).flatMap tyC.f = us.flatMap tyC.f ++ (tyC.f Ty.zero ++ (List.replicate n Ty.zero).flatMap tyC.f) := by
    rw [List.flatMap_append, List.replicate_succ, List.flatMap_cons]
  have hl : (us.flatMap tyC.f).length = us.length * 3 := flat_len _ _ tyC.hf _
  rw [h1, ← hl]
  generalize us.flatMap tyC.f = a
  generalize (List.replicate n Ty.zero).flatMap tyC.f = b
  show ((a ++ (([.string ⟨#[]⟩, .int .i64 0, .slice none 0 0] : List Value) ++ b)).toArray)[_]? = _ ∧ ((a ++ (([.string ⟨#[]⟩, .int .i64 0, .slice none 0 0] : List Value) ++ b)).toArray)[_]? = _ ∧ ((a ++ (([.string ⟨#[]⟩, .int .i64 0, .slice none 0 0] : List Value) ++ b)).toArray)[_]? = _
  simp only [List.getElem?_toArray]
  refine ⟨?_, ?_, ?_⟩ <;> rw [List.getElem?_append_right (by omega)] <;> simp
theorem row_done (us : List Ty) : rowT us 0 = (us.flatMap tyC.f).toArray := by unfold rowT; simp
/-- A type is written into its place in a row. -/
theorem put3 {w : World} {b n : Nat} {us : List Ty} (u : Ty) (h : w.heap[b]? = some (.cells (rowT us (n + 1)) 53 (0, 0))) :
    (((w.setCell ⟨b, us.length * 3, none⟩ (encStr u.con)).setCell ⟨b, us.length * 3 + 1, none⟩ (.int .i64 u.var)).setCell ⟨b, us.length * 3 + 2, none⟩ (.slice u.A u.args.length u.cap)).heap[b]? = some (.cells (rowT (us ++ [u]) n) 53 (0, 0)) := by
  rw [← set3]
  exact blk_setCell (blk_setCell (blk_setCell h _ _) _ _) _ _
theorem put3_grown (w : World) (b i j k : Nat) (u v x : Value) : w.grownBy (((w.setCell ⟨b, i, none⟩ u).setCell ⟨b, j, none⟩ v).setCell ⟨b, k, none⟩ x) (some b) := by
  have tr : ∀ {a b c : World} {row : Option Nat}, a.grownBy b row → b.grownBy c row → a.grownBy c row := fun h k => ⟨k.os.trans h.os, k.tape.trans h.tape, k.output.trans h.output, Nat.le_trans h.size k.size, fun j hj hne => (k.block j (Nat.lt_of_lt_of_le hj h.size) hne).trans (h.block j hj hne)⟩
  exact tr (tr (grown_cell _ _ _ _) (grown_cell _ _ _ _)) (grown_cell _ _ _ _)


end Go.Proofs.YtcnkfkjgpdmebaaGreatDoor

/- Contract: a type in new memory (subst's); of the program. -/
namespace Go.Proofs.YtcnkfkjgpdmebaaGreatDoor
open Go.RowKit

/-- Is this type that one, in memory of its own? -/
structure CpOk (w w' : World) (t u : Ty) : Prop where
  ty : TyIn w' u
  is : u.pure = t.pure
  away : ∀ c, c < w.heap.size → awayB c u = true
theorem CpOk.ext {w w' w2 : World} {t u : Ty} (h : CpOk w w' t u) (e : Ext w' w2) : CpOk w w2 t u := ⟨h.ty.ext e, h.is, h.away⟩
theorem CpOk.old {w w1 w' : World} {t u : Ty} (h : CpOk w1 w' t u) (hs : w.heap.size ≤ w1.heap.size) : CpOk w w' t u := ⟨h.ty, h.is, fun c hc => h.away c (by omega)⟩
/-- Some args that have been copied, away from the blocks that are written meanwhile. -/
structure CpsOk (w w' : World) (R : Nat → Prop) (l us : List Ty) : Prop where
  len : us.length = l.length
  ty : ∀ u ∈ us, TyIn w' u
  is : us.map Ty.pure = l.map Ty.pure
  row : ∀ u ∈ us, ∀ c, R c → awayB c u = true
  away : ∀ u ∈ us, ∀ c, c < w.heap.size → awayB c u = true
section
variable {w w1 w2 w' : World} {R : Nat → Prop} {l us : List Ty} {t u : Ty}
theorem CpsOk.nil (w w' : World) (R : Nat → Prop) : CpsOk w w' R [] [] := ⟨rfl, by simp, rfl, by simp, by simp⟩
theorem CpsOk.ext (h : CpsOk w w1 R l us) (e : Ext w1 w2) : CpsOk w w2 R l us := ⟨h.len, fun u hu => (h.ty u hu).ext e, h.is, h.row, h.away⟩
theorem CpsOk.grown (h : CpsOk w w1 R l us) {row : Option Nat} (hg : w1.grownBy w2 row) (hr : ∀ c, row = some c → R c) : CpsOk w w2 R l us :=
  ⟨h.len, fun u hu => (h.ty u hu).grown hg (fun c e => h.row u hu c (hr c e)), h.is, h.row, h.away⟩
theorem CpsOk.snoc (h : CpsOk w w1 R l us) (k : CpOk w1 w2 t u) (he : Ext w1 w2) (hs : w.heap.size ≤ w1.heap.size) (hr : ∀ c, R c → c < w1.heap.size) : CpsOk w w2 R (l ++ [t]) (us ++ [u]) := by
  refine ⟨by simp [h.len], fun x hx => ?_, by rw [List.map_append, List.map_append, h.is]; simp [k.is], fun x hx c hc => ?_, fun x hx c hc => ?_⟩
  · rcases List.mem_append.1 hx with hx | hx
    · exact (h.ty x hx).ext he
    · rw [List.mem_singleton] at hx; subst hx; exact k.ty
  · rcases List.mem_append.1 hx with hx | hx
    · exact h.row x hx c hc
    · rw [List.mem_singleton] at hx; subst hx
      exact k.away c (hr c hc)
  · rcases List.mem_append.1 hx with hx | hx
    · exact h.away x hx c hc
    · rw [List.mem_singleton] at hx; subst hx
      exact k.away c (by omega)
theorem CpsOk.done {A : Option Addr} {cap : Nat} (h : CpsOk w w' R t.args us) (htx : t.con.length ≤ 9223372036854775807)
    (h1 : us.length ≤ cap) (h2 : cap ≤ 9223372036854775807) (h3 : RowOf tyC w' A us) (hA : us ≠ [] → ∀ a, A = some a → w.heap.size ≤ a.block) : CpOk w w' t (.mk t.con t.var A cap us) where
  ty := TyIn.of h1 h2 htx h3 h.ty
  is := by rw [Ty.pure_eq t, ← h.is, Ty.pure_eq]; rfl
  away c hlt := awayB_mk (fun hn a ha => by have := hA hn a ha; omega) (fun u hu => h.away u hu c hlt)
end

set_option maxRecDepth 10000 in
set_option maxHeartbeats 4000000 in
theorem s_copied (t : Ty) : ∀ (w : World), TyIn w t → t.size ≤ 100000 →
    Calls Tryz.prog 181 #[tyV t] w fun e w' => (∃ u, e = .returned (tyV u) ∧ CpOk w w' t u) ∧ Ext w w' := by
  induction t using Ty.ind with
  | h t ih =>
  intro w h hsz
  obtain ⟨W, hW⟩ : ∃ W, W = (w.alloc (.cells #[encStr t.con, .int .i64 t.var, .slice t.A t.args.length t.cap] 53)).alloc (.cells #[.string ⟨#[]⟩, .int .i64 0, .slice none 0 0] 53) := ⟨_, rfl⟩
  have HW := hide hW.symm
  have X0 : Hid (Ext w W) := hide (by rw [hW]; exact ((Ext.refl _).alloc _).alloc _)
  have B1 : Hid (TBox W w.heap.size t) := hide (by rw [hW]; exact (TBox.new w t).ext ((Ext.refl _).alloc _))
  have B2 : Hid (W.heap[w.heap.size + 1]? = some (.cells #[.string ⟨#[]⟩, .int .i64 0, .slice none 0 0] 53 (0, 0))) := hide (by rw [hW]; exact at_newB _ _ _ (by simp))
  have H := hide h
  have IH := hide ih
  have hle := h.le
  have hmx := h.max
  have hlen := t.args_len
  clear h hW ih
  unfold tyV at *
  have hmk := make_zeros t.args.length (by omega) W
  have hs := X0.out.size
  have hWs : W.heap.size = w.heap.size + 2 := by rw [← HW.out]; simp
  obtain ⟨W1, hW1⟩ : ∃ W1, W1 = W.alloc (.cells (zerosT t.args.length) 53) := ⟨_, rfl⟩
  have X1 : Hid (Ext W W1) := hide (by rw [hW1]; exact (Ext.refl _).alloc _)
  have B3 : Hid (W1.heap[w.heap.size + 2]? = some (.cells (rowT [] t.args.length) 53 (0, 0))) := hide (by rw [hW1]; exact at_newB _ _ _ hWs.symm)
  rw [hWs, ← hW1] at hmk
  clear hW1
  have c0 := B1.out.c0
  have c1 := B1.out.c1
  have c2 := B1.out.c2
  have c2' := (B1.out.ext X1.out).c2
  go_enter Tryz.func181, Tryz.ntmps181
  go_upto_region 1 with fail
  rw [HW.out]
  go_wp2
  go_loopw [13] (fun i wr => ∃ (k : Nat) (us : List Ty), k ≤ t.args.length ∧ i = .int .i64 k ∧ Hid (Ext W wr) ∧ Hid (wr.heap[w.heap.size + 2]? = some (.cells (rowT us (t.args.length - k)) 53 (0, 0))) ∧ Hid (CpsOk w wr (fun c => w.heap.size ≤ c ∧ c < w.heap.size + 3) (t.args.take k) us)) (fun i _ => t.args.length - (intOf i).toNat)
  case atStart => exact ⟨0, [], Nat.zero_le _, rfl, X1, B3, hide (CpsOk.nil _ _ _)⟩
  case round =>
    obtain ⟨k, us, hk, rfl, HX, HR, HP⟩ := hrel
    have hul : us.length = k := by have := HP.out.len; rw [List.length_take] at this; omega
    by_cases hlt : k < t.args.length
    · have hlt' : (k : Int) < (t.args.length : Int) := by omega
      have hk0 : (0 : Int) ≤ (k : Int) := by omega
      have XR := hide (X0.out.trans HX.out)
      obtain ⟨b, o, hA, hb, q0, q1, q2⟩ := (H.out.all.ext XR.out).at_ hlt
      have hkm := List.getElem_mem hlt
      have HIH := hide (fun w' (e : Ext w w') => hide (IH.out _ hkm w' ((H.out.all.args _ hkm).ext e) (by have := Ty.size_arg hkm; omega)))
      have Hx := hide (H.out.all.args _ hkm)
      have Htk : Hid (t.args.take (k + 1) = t.args.take k ++ [t.args[k]'hlt]) := hide (List.take_succ_eq_append_getElem hlt)
      obtain ⟨m, hm⟩ : ∃ m, t.args.length - k = m + 1 := ⟨t.args.length - k - 1, by omega⟩
      have hm2 : t.args.length - (k + 1) = m := by omega
      rw [hm] at HR
      generalize t.args[k]'hlt = x at *
      have hsz3 : w.heap.size + 3 ≤ wr.heap.size := by have := lt_of_obj HR.out; omega
      clear hkm
      rw [hA]
      clear hA
      go_wp2_with fail
      refine (HIH.out _ (XR.out.trans ((Ext.refl _).alloc _))).out.mono ?_
      rintro e w3 ⟨⟨u, rfl, hu⟩, hx3⟩
      have E3 := ((Ext.refl wr).alloc (.cells #[encStr x.con, .int .i64 x.var, .slice x.A x.args.length x.cap] 53)).trans hx3
      have HR3 := hide ((E3.heap (lt_of_obj HR.out)).trans HR.out)
      have HP3 : Hid (CpsOk w w3 (fun c => w.heap.size ≤ c ∧ c < w.heap.size + 3) (t.args.take (k + 1)) (us ++ [u])) := hide (by
        rw [Htk.out]
        exact (HP.out.ext ((Ext.refl wr).alloc (.cells #[encStr x.con, .int .i64 x.var, .slice x.A x.args.length x.cap] 53))).snoc hu hx3 (by simp; omega) (fun c hc => by simp; omega))
      have X3 := hide (HX.out.trans E3)
      have HRn := hide (put3 u HR3.out)
      have HPn := hide (HP3.out.grown (put3_grown w3 (w.heap.size + 2) (us.length * 3) (us.length * 3 + 1) (us.length * 3 + 2) (encStr u.con) (.int .i64 u.var) (.slice u.A u.args.length u.cap)) (fun c e => by injection e with e; omega))
      have Xn : Hid (Ext W (((w3.setCell ⟨w.heap.size + 2, us.length * 3, none⟩ (encStr u.con)).setCell ⟨w.heap.size + 2, us.length * 3 + 1, none⟩ (.int .i64 u.var)).setCell ⟨w.heap.size + 2, us.length * 3 + 2, none⟩ (.slice u.A u.args.length u.cap))) := hide (((X3.out.setCell (by simp; omega) _).setCell (by simp; omega) _).setCell (by simp; omega) _)
      have f0 := free_block HR3.out (us.length * 3)
      have f1 := free_block HR3.out (us.length * 3 + 1)
      have f2 := free_block HR3.out (us.length * 3 + 2)
      have k0 := (bytes_block HR3.out (us.length * 3)).trans (row_at3 us m).1
      have k1 := (bytes_block HR3.out (us.length * 3 + 1)).trans (row_at3 us m).2.1
      have k2 := (bytes_block HR3.out (us.length * 3 + 2)).trans (row_at3 us m).2.2
      rw [hul] at f0 f1 f2 k0 k1 k2 HRn HPn Xn
      clear E3 hx3 hu HR3 HP3
      go_wp2
      go_roundw
      case rel => exact ⟨k + 1, us ++ [u], hlt, by go_num, Xn, hide (by rw [hm2]; exact HRn.out), HPn⟩
      case measure => simp [intOf]; omega
    · have hge : ¬ (k : Int) < (t.args.length : Int) := by omega
      have hkn : k = t.args.length := by omega
      have HRd : Hid (wr.heap[w.heap.size + 2]? = some (.cells (us.flatMap tyC.f).toArray 53 (0, 0))) := hide (by have := HR.out; rw [hkn, Nat.sub_self, row_done] at this; exact this)
      have HPd : Hid (CpsOk w wr (fun c => w.heap.size ≤ c ∧ c < w.heap.size + 3) t.args us) := hide (by have := HP.out; rwa [List.take_of_length_le (by omega)] at this)
      have C1 := hide (B1.out.ext HX.out)
      have C2 := hide ((HX.out.heap (lt_of_obj B2.out)).trans B2.out)
      have hun : us.length = t.args.length := by omega
      clear HR HP hkn
      have g1 := C1.out.c0
      have g2 := C1.out.c1
      have g3 := C1.out.c2
      have fb := C1.out.free 2
      have f0 := free_block C2.out 0
      have f1 := free_block C2.out 1
      have f2 := free_block C2.out 2
      have k0 := bytes_block C2.out 0
      have k1 := bytes_block C2.out 1
      have k2 := bytes_block C2.out 2
      simp only [List.getElem?_toArray, List.getElem?_cons_zero, List.getElem?_cons_succ] at k0 k1 k2
      obtain ⟨U, hU⟩ : ∃ U : Ty, U = .mk t.con t.var (some ⟨w.heap.size + 2, 0, none⟩) t.args.length us := ⟨_, rfl⟩
      obtain ⟨WF, hWF⟩ : ∃ WF, WF = (((wr.setCell ⟨w.heap.size, 2, none⟩ (.slice (some ⟨w.heap.size + 2, 0, none⟩) t.args.length t.args.length)).setCell ⟨w.heap.size + 1, 0, none⟩ (encStr t.con)).setCell ⟨w.heap.size + 1, 1, none⟩ (.int .i64 t.var)).setCell ⟨w.heap.size + 1, 2, none⟩ (.slice (some ⟨w.heap.size + 2, 0, none⟩) t.args.length t.args.length) := ⟨_, rfl⟩
      have XF : Hid (Ext w WF) := hide (by rw [hWF]; exact (((( X0.out.trans HX.out).setCell (by simp) _).setCell (by simp) _).setCell (by simp) _).setCell (by simp) _)
      have PF : Hid (CpOk w WF t U) := hide (by
        have h1 := (HPd.out.grown (grown_cell wr w.heap.size 2 (.slice (some ⟨w.heap.size + 2, 0, none⟩) t.args.length t.args.length)) (fun c e => by injection e with e; omega)).grown (put3_grown _ (w.heap.size + 1) 0 1 2 (encStr t.con) (.int .i64 t.var) (.slice (some ⟨w.heap.size + 2, 0, none⟩) t.args.length t.args.length)) (fun c e => by injection e with e; omega)
        rw [hU]
        rw [← hWF] at h1
        have hblk : WF.heap[w.heap.size + 2]? = some (.cells (us.flatMap tyC.f).toArray 53 (0, 0)) := by
          rw [hWF, Below.heap_setCell _ _ _ _ (by simp), Below.heap_setCell _ _ _ _ (by simp), Below.heap_setCell _ _ _ _ (by simp), Below.heap_setCell _ _ _ _ (by simp)]
          exact HRd.out
        exact h1.done H.out.txt (by omega) (by omega) (RowOf.block tyC us hblk) (fun _ a e => by injection e with e; subst e; show w.heap.size ≤ w.heap.size + 2; omega))
      have hUv : tyV U = .agg #[encStr t.con, .int .i64 t.var, .slice (some ⟨w.heap.size + 2, 0, none⟩) t.args.length t.args.length] := by rw [hU]; unfold tyV; show Value.agg #[_, _, .slice _ us.length _] = _; rw [hun]; rfl
      clear HRd HPd hU
      go_wp2
      rw [← hWF]
      refine bodyPost_ret (v := .agg #[encStr t.con, .int .i64 t.var, .slice (some ⟨w.heap.size + 2, 0, none⟩) t.args.length t.args.length]) ?_ rfl ⟨⟨U, by rw [← hUv]; rfl, PF.out⟩, XF.out⟩
      rw [hWF]
      simp [results, Tryz.f181, go_sem, k0, k1, k2]

end Go.Proofs.YtcnkfkjgpdmebaaGreatDoor
