/- Contract of the reference of chapter 17: a type with all replaced. (A program of ours has printed this.) -/
import Derived.Test.YtnomibjbjplieaaGreatJC36
import Derived.RegionTactic
import Derived.Deep.RegionHeld3
/- Contract of the reference of chapter 17: a type with all replaced. (A program of ours has printed this.) -/
namespace Go.Proofs.YtnomibjbjplieaaGreat
open Go.RowKit

set_option maxRecDepth 10000 in
set_option maxHeartbeats 4000000 in
theorem r_put17 (S : Option Addr) (sc : Nat) (s : List Pr) (hn : s.length ≤ 9223372036854775807) (t : Ty) : ∀ (w : World), TyIn w t → PrsIn w S s → t.size ≤ 100000 →
    Calls Tryz.prog 140 #[.slice S s.length sc, tyV t] w fun e w' => (∃ u, e = .returned (tyV u) ∧ PutOk w w' (vsP s) (tsP s) t u) ∧ Ext w w' := by
  induction t using Ty.ind with
  | h t ih =>
  intro w h hS hsz
  obtain ⟨i1, hj, hy0, hy1, hy2⟩ := info_parts ty_info3
  obtain ⟨W, hW⟩ : ∃ W, W = (w.alloc (.cells #[encStr t.con, .int .i64 t.var, .slice t.A t.args.length t.cap] 32)).alloc (.cells #[.string ⟨#[]⟩, .int .i64 0, .slice none 0 0] 32) := ⟨_, rfl⟩
  have HW := hide hW.symm
  have X0 : Hid (Ext w W) := hide (by rw [hW]; exact ((Ext.refl _).alloc _).alloc _)
  have B1 : Hid (TBox W w.heap.size t) := hide (by rw [hW]; exact (TBox.new w t).ext ((Ext.refl _).alloc _))
  have B2 : Hid (W.heap[w.heap.size + 1]? = some (.cells #[.string ⟨#[]⟩, .int .i64 0, .slice none 0 0] 32 (0, 0))) := hide (by rw [hW]; exact at_newB _ _ _ (by simp))
  have hWs : W.heap.size = w.heap.size + 2 := by rw [hW]; simp
  have H := hide h
  have HSp := hide hS
  have Ht := hide (hS.tys)
  have IH := hide ih
  have hle := h.le
  have hmx := h.max
  have hlen := t.args_len
  clear h hS hW ih
  unfold tyV at *
  cases hc : (t.con == ([] : Str))
  · have hc0 : Hid (t.con ≠ []) := hide (by simpa using hc)
    have c0 := B1.out.c0
    have c1 := B1.out.c1
    have c2 := B1.out.c2
    go_enter Tryz.func140, Tryz.ntmps140
    go_upto_region 1 with fail
    rw [HW.out]
    go_wp2
    go_loopw [7, 8] (fun u i wr => ∃ (k : Nat) (us : List Ty), k ≤ t.args.length ∧ i = .int .i64 k ∧ Hid (Ext W wr) ∧ Hid (wr.ownsRow (w.heap.size + 2) 32 3 u us.length (us.flatMap tyC.f)) ∧ Hid (PutsOk w wr (fun c => (w.heap.size ≤ c ∧ c < w.heap.size + 2) ∨ u.ownBlock = some c) (vsP s) (tsP s) (t.args.take k) us)) (fun _ i _ => t.args.length - (intOf i).toNat)
    case atStart => exact ⟨0, [], Nat.zero_le _, rfl, hide (Ext.refl _), hide (World.ownsRow_nil _ _ _ _), hide (PutsOk.nil _ _ _ _ _)⟩
    case round =>
      obtain ⟨k, us, hk, rfl, HX, HO, HP⟩ := hrel
      have hul : us.length ≤ t.args.length := by have := HP.out.len; rw [List.length_take] at this; omega
      have C1 := hide (B1.out.ext HX.out)
      have g1 := C1.out.c0
      have g2 := C1.out.c1
      have g3 := C1.out.c2
      have XR := hide (X0.out.trans HX.out)
      have hszw := HX.out.size
      by_cases hlt : k < t.args.length
      · have hlt' : (k : Int) < (t.args.length : Int) := by omega
        have hk0 : (0 : Int) ≤ (k : Int) := by omega
        obtain ⟨b, o, hA, hb, q0, q1, q2⟩ := (H.out.all.ext XR.out).at_ hlt
        have hkm := List.getElem_mem hlt
        have HIH := hide (IH.out _ hkm wr ((H.out.all.args _ hkm).ext XR.out) (HSp.out.ext XR.out) (by have := Ty.size_arg hkm; omega))
        have Hx := hide (H.out.all.args _ hkm)
        have Htk : Hid (t.args.take (k + 1) = t.args.take k ++ [t.args[k]'hlt]) := hide (List.take_succ_eq_append_getElem hlt)
        generalize t.args[k]'hlt = x at *
        rw [hA] at g3
        clear hA hkm
        obtain ⟨A5, c5, rfl, p1, p2, p3, p4⟩ := RowOf.own tyC (l := us) HO.out
        have HPr : Hid (∀ c, ((w.heap.size ≤ c ∧ c < w.heap.size + 2) ∨ (Value.slice A5 us.length c5).ownBlock = some c) → w.heap.size ≤ c ∧ c < wr.heap.size) := hide (fun c hc => by
          rcases hc with hc | hc
          · omega
          · have := HO.out.lt c hc; omega)
        clear p3 p4
        go_wp2_with fail
        refine HIH.out.mono ?_
        rintro e w3 ⟨⟨u, rfl, hu⟩, hx3⟩
        have HP3 : Hid (PutsOk w w3 (fun c => (w.heap.size ≤ c ∧ c < w.heap.size + 2) ∨ (Value.slice A5 us.length c5).ownBlock = some c) (vsP s) (tsP s) (t.args.take (k + 1)) (us ++ [u])) := hide (by
          rw [Htk.out]
          exact HP.out.snoc hu hx3 Hx.out Ht.out (by omega) HPr.out)
        have X3 := hide (HX.out.trans hx3)
        have O3 := hide (own_extB HO.out hx3)
        have hs3 := X3.out.size
        clear hu hx3
        go_wp2_with (at_builtin; refine wpList_append_row _ rfl _ _ 30 rfl (w.heap.size + 2) 32 i1 _ 3 48 Tryz.underlying30 hj hy0 hy1 hy2 rfl (by decide) (.slice A5 us.length c5) us.length (us.flatMap tyC.f) rfl (O3.out.alloc _) _ 1 1 [encStr u.con, .int .i64 u.var, .slice u.A u.args.length u.cap] rfl ?c2 ?c3 ?c4 ?c5 ?c6 ?_)
        case c2 => exact Row.ty3 _ _ _ (at_newB _ _ _ (by simp))
        case c3 => first | exact ⟨rfl, rfl, rfl⟩ | (intro y hy; simp at hy; rcases hy with rfl | rfl | rfl <;> rfl)
        case c4 => unfold maxLen; omega
        case c5 => omega
        case c6 => simp; omega
        intro v4 w4 hown4 hg4 hat4
        have X4 := hide (Ext.app (X3.out.alloc _) hg4 (O3.out.alloc _) (by omega))
        have O4 : Hid (w4.ownsRow (w.heap.size + 2) 32 3 v4 (us ++ [u]).length ((us ++ [u]).flatMap tyC.f)) := hide (by rw [flat_snoc, List.length_append]; exact hown4)
        have HP4 : Hid (PutsOk w w4 (fun c => (w.heap.size ≤ c ∧ c < w.heap.size + 2) ∨ v4.ownBlock = some c) (vsP s) (tsP s) (t.args.take (k + 1)) (us ++ [u])) := hide (by
          have h1 := (HP3.out.ext ((Ext.refl w3).alloc (.cells #[encStr u.con, .int .i64 u.var, .slice u.A u.args.length u.cap] 32)))
          refine (h1.rows (R' := fun c => ((w.heap.size ≤ c ∧ c < w.heap.size + 2) ∨ (Value.slice A5 us.length c5).ownBlock = some c) ∨ v4.ownBlock = some c) (fun c hc => ?_)).grown hg4 (fun c e => .inl (.inr e)) |>.rows (fun c hc => .inl ?_)
          · rcases hc with hc | hc
            · exact .inl hc
            · rcases hat4 with e | e
              · exact .inl (.inr (e ▸ hc))
              · rw [e] at hc; injection hc with hc; exact .inr (by rw [World.size_alloc]; omega)
          · exact hc.elim (fun h => .inl (.inl h)) .inr)
        clear hown4 hg4 hat4 HP3
        go_wp2
        go_roundw
        case rel => exact ⟨k + 1, us ++ [u], hlt, by go_num, X4, O4, HP4⟩
        case measure => simp [intOf]; omega
      · have hge : ¬ (k : Int) < (t.args.length : Int) := by omega
        have HPd : Hid (PutsOk w wr (fun c => w.heap.size ≤ c ∧ c < w.heap.size + 2) (vsP s) (tsP s) t.args us) := hide (by have := HP.out; rw [List.take_of_length_le (by omega)] at this; exact this.rows (fun c hc => .inl (.inl hc)))
        obtain ⟨A5, c5, rfl, p1, p2, p3, p4⟩ := RowOf.own tyC (l := us) HO.out
        have P3 := hide p3
        have P4 : Hid (∀ a, A5 = some a → w.heap.size + 2 ≤ a.block) := hide (fun a e => by
          subst e
          by_cases hn : us.length = 0
          · have h2 := HO.out.lt a.block
            rcases HO.out.2 with ⟨h3, -⟩ | ⟨g, cap, cur, h3, h4, -⟩
            · cases h3
            · injection h3 with h3; injection h3 with h3; subst h3; show w.heap.size + 2 ≤ g; omega
          · obtain ⟨g, o, e, -⟩ := p3.2 (by omega)
            injection e with e
            subst e
            have := (p4 g o rfl).1
            show w.heap.size + 2 ≤ g
            omega)
        have C2 := hide ((HX.out.heap (lt_of_obj B2.out)).trans B2.out)
        clear HO HP p3 p4
        have fb := C1.out.free 2
        have f0 := free_block C2.out 0
        have f1 := free_block C2.out 1
        have f2 := free_block C2.out 2
        have k0 := bytes_block C2.out 0
        have k1 := bytes_block C2.out 1
        have k2 := bytes_block C2.out 2
        simp only [List.getElem?_toArray, List.getElem?_cons_zero, List.getElem?_cons_succ] at k0 k1 k2
        obtain ⟨U, hU⟩ : ∃ U : Ty, U = .mk t.con t.var A5 c5 us := ⟨_, rfl⟩
        obtain ⟨WF, hWF⟩ : ∃ WF, WF = (((wr.setCell ⟨w.heap.size, 2, none⟩ (.slice A5 us.length c5)).setCell ⟨w.heap.size + 1, 0, none⟩ (encStr t.con)).setCell ⟨w.heap.size + 1, 1, none⟩ (.int .i64 t.var)).setCell ⟨w.heap.size + 1, 2, none⟩ (.slice A5 us.length c5) := ⟨_, rfl⟩
        have XF : Hid (Ext w WF) := hide (by rw [hWF]; exact (((( X0.out.trans HX.out).setCell (by simp) _).setCell (by simp) _).setCell (by simp) _).setCell (by simp) _)
        have PF : Hid (PutOk w WF (vsP s) (tsP s) t U) := hide (by
          have hgf := put3_grown (wr.setCell ⟨w.heap.size, 2, none⟩ (.slice A5 us.length c5)) (w.heap.size + 1) 0 1 2 (encStr t.con) (.int .i64 t.var) (.slice A5 us.length c5)
          rw [← hWF] at hgf
          have h1 := (HPd.out.grown (grown_cell wr w.heap.size 2 (.slice A5 us.length c5)) (fun c e => by injection e with e; omega)).grown hgf (fun c e => by injection e with e; omega)
          have h2 : RowOf tyC WF A5 us := row_grown (row_grown P3.out (grown_cell wr w.heap.size 2 (.slice A5 us.length c5)) (fun _ a e e2 => by have := P4.out a e; injection e2 with e2; omega)) hgf (fun _ a e e2 => by have := P4.out a e; injection e2 with e2; omega)
          rw [hU]
          exact h1.done hc0.out H.out.txt p1 p2 h2 (fun _ a e => by have := P4.out a e; omega))
        have hUv : tyV U = .agg #[encStr t.con, .int .i64 t.var, .slice A5 us.length c5] := by rw [hU]; rfl
        clear HPd hU P3 P4
        go_wp2
        rw [← hWF]
        refine bodyPost_ret (v := .agg #[encStr t.con, .int .i64 t.var, .slice A5 us.length c5]) ?_ rfl ⟨⟨U, by rw [← hUv]; rfl, PF.out⟩, XF.out⟩
        rw [hWF]
        simp [results, Tryz.f140, go_sem, k0, k1, k2]
  · have hc0 : Hid (t.con = []) := hide (by simpa using hc)
    have HP := hide (PutOk.var (vars := vsP s) (types := tsP s) hc0.out H.out Ht.out)
    have HG := hide (r_get17 S sc s t.var W (HSp.out.ext X0.out) hn)
    have XF : ∀ u : Ty, ∀ wr, Ext W wr → Hid (Ext w (((wr.setCell ⟨w.heap.size + 1, 0, none⟩ (encStr u.con)).setCell ⟨w.heap.size + 1, 1, none⟩ (.int .i64 u.var)).setCell ⟨w.heap.size + 1, 2, none⟩ (.slice u.A u.args.length u.cap))) := fun u wr e => hide ((((X0.out.trans e).setCell (by simp) _).setCell (by simp) _).setCell (by simp) _)
    generalize putAt (vsP s) (tsP s) t.var = R at *
    unfold tyV at HG
    have c0 := B1.out.c0
    have c1 := B1.out.c1
    have c2 := B1.out.c2
    go_enter Tryz.func140, Tryz.ntmps140
    go_upto_region 1 with fail
    rw [HW.out]
    go_wp2_with fail
    refine HG.out.mono ?_
    rintro e w2 ⟨rfl, hx⟩
    have X2 := hide hx
    have C1 := hide (B1.out.ext hx)
    have C2 := hide ((hx.heap (lt_of_obj B2.out)).trans B2.out)
    clear hx c0 c1 c2 HG
    cases R with
    | none =>
      simp only [Option.getD_none, Option.isSome_none]
      obtain ⟨W3, hW3⟩ : ∃ W3, W3 = w2.alloc (.cells #[encStr Ty.zero.con, .int .i64 Ty.zero.var, .slice Ty.zero.A Ty.zero.args.length Ty.zero.cap] 32) := ⟨_, rfl⟩
      have X3 : Hid (Ext w2 W3) := hide (by rw [hW3]; exact (Ext.refl _).alloc _)
      have C13 := hide (C1.out.ext X3.out)
      have C23 := hide ((X3.out.heap (lt_of_obj C2.out)).trans C2.out)
      have g0 := C13.out.c0
      have g1 := C13.out.c1
      have g2 := C13.out.c2
      have hbl := C13.out.lt
      have f0 := free_block C23.out 0
      have f1 := free_block C23.out 1
      have f2 := free_block C23.out 2
      have k0 := bytes_block C23.out 0
      have k1 := bytes_block C23.out 1
      have k2 := bytes_block C23.out 2
      have hrl := lt_of_obj C23.out
      simp only [List.getElem?_toArray, List.getElem?_cons_zero, List.getElem?_cons_succ] at k0 k1 k2
      have XF1 := XF t W3 (X2.out.trans X3.out)
      go_upto_region 3 with fail
      rw [← hW3]
      clear hW3
      go_wp2
      refine bodyPost_ret (v := .agg #[encStr t.con, .int .i64 t.var, .slice t.A t.args.length t.cap]) ?_ rfl ⟨⟨t, rfl, HP.out.ext XF1.out⟩, XF1.out⟩
      simp [results, Tryz.f140, go_sem, k0, k1, k2]
    | some u =>
      simp only [Option.getD_some, Option.isSome_some]
      obtain ⟨W3, hW3⟩ : ∃ W3, W3 = w2.alloc (.cells #[encStr u.con, .int .i64 u.var, .slice u.A u.args.length u.cap] 32) := ⟨_, rfl⟩
      have X3 : Hid (Ext w2 W3) := hide (by rw [hW3]; exact (Ext.refl _).alloc _)
      have D3 : Hid (TBox W3 w2.heap.size u) := hide (by rw [hW3]; exact TBox.new w2 u)
      have C23 := hide ((X3.out.heap (lt_of_obj C2.out)).trans C2.out)
      have g0 := D3.out.c0
      have g1 := D3.out.c1
      have g2 := D3.out.c2
      have hbl := D3.out.lt
      have f0 := free_block C23.out 0
      have f1 := free_block C23.out 1
      have f2 := free_block C23.out 2
      have k0 := bytes_block C23.out 0
      have k1 := bytes_block C23.out 1
      have k2 := bytes_block C23.out 2
      have hrl := lt_of_obj C23.out
      simp only [List.getElem?_toArray, List.getElem?_cons_zero, List.getElem?_cons_succ] at k0 k1 k2
      have XF1 := XF u W3 (X2.out.trans X3.out)
      go_upto_region 3 with fail
      rw [← hW3]
      clear hW3
      go_wp2
      refine bodyPost_ret (v := .agg #[encStr u.con, .int .i64 u.var, .slice u.A u.args.length u.cap]) ?_ rfl ⟨⟨u, rfl, HP.out.ext XF1.out⟩, XF1.out⟩
      simp [results, Tryz.f140, go_sem, k0, k1, k2]

end Go.Proofs.YtnomibjbjplieaaGreat

/- Contract of the reference of chapter 17: with a type for a variable. (A program of ours has printed this.) -/
namespace Go.Proofs.YtnomibjbjplieaaGreat
open Go.RowKit

set_option maxRecDepth 10000 in
set_option maxHeartbeats 4000000 in
theorem r_set17 (S : Option Addr) (sc : Nat) (s : List Pr) (x : Int) (t : Ty) (w : World) (h : PrsIn w S s) (hle : s.length ≤ sc) (hmx : sc ≤ 9223372036854775807) (hr : RiseP s) (ht : TyIn w t) (hsz : t.size ≤ 900000) (hl : legalT t = true) (hf : s.length ≤ 100000) (hno : putAt (vsP s) (tsP s) x = none) :
    Calls Tryz.prog 65 #[.slice S s.length sc, .int .i64 x, tyV t] w fun e w' => (∃ i A cap, e = .returned (.tuple #[.slice A (insP s i x t).length cap, .int .i64 0]) ∧ LbP s x i ∧ PrsIn w' A (insP s i x t) ∧ (insP s i x t).length ≤ cap ∧ cap ≤ 9223372036854775807) ∧ Ext w w' := by
  obtain ⟨i0, hi, hz0, hz1, hz2⟩ := info_parts pair_info
  obtain ⟨W, hW⟩ : ∃ W, W = w.alloc (.cells #[encStr t.con, .int .i64 t.var, .slice t.A t.args.length t.cap] 32) := ⟨_, rfl⟩
  have HW := hide hW.symm
  have X0 : Hid (Ext w W) := hide (by rw [hW]; exact (Ext.refl _).alloc _)
  have B1 : Hid (TBox W w.heap.size t) := hide (by rw [hW]; exact TBox.new w t)
  have H := hide h
  have HT := hide ht
  have HRi := hide hr
  have hale := ht.le
  have hamx := ht.max
  have HLg := hide (r_legal16 t W (ht.ext X0.out) hsz)
  rw [hl] at HLg
  have HGt := hide (fun w' (e : Ext w w') => r_get17 S sc s x w' (h.ext e) (by omega))
  rw [hno] at HGt
  have HNo := hide ((putAt_no hr).1 hno)
  have c0 := B1.out.c0
  have c1 := B1.out.c1
  have c2 := B1.out.c2
  have hbl := B1.out.lt
  clear hW h ht hr hl hno hsz
  unfold tyV at *
  go_enter Tryz.func65, Tryz.ntmps65
  go_upto_region 1 with fail
  rw [HW.out]
  clear HW
  go_wp2_with fail
  refine HLg.out.mono ?_
  rintro e w2 ⟨rfl, hx⟩
  have X2 := hide (X0.out.trans hx)
  have Y2 := hide hx
  clear hx HLg c0 c1 c2 hbl
  have HG2 := hide (HGt.out w2 X2.out)
  clear HGt
  simp only [Option.getD_none, Option.isSome_none] at HG2
  go_wp2_with fail
  refine HG2.out.mono ?_
  rintro e w3 ⟨rfl, hx⟩
  obtain ⟨W4, hW4⟩ : ∃ W4, W4 = w3.alloc (.cells #[encStr Ty.zero.con, .int .i64 Ty.zero.var, .slice Ty.zero.A Ty.zero.args.length Ty.zero.cap] 32) := ⟨_, rfl⟩
  have X34 : Hid (Ext w3 W4) := hide (by rw [hW4]; exact (Ext.refl _).alloc _)
  have X4 := hide (X2.out.trans (hx.trans X34.out))
  have Y4 := hide (Y2.out.trans (hx.trans X34.out))
  clear hx HG2
  go_upto_region 4 with fail
  rw [← hW4]
  clear hW4
  go_wp2
  go_loopw [10] (fun i wr => ∃ k : Nat, k ≤ s.length ∧ i = .int .i64 k ∧ Hid (∀ j (h : j < s.length), j < k → (s[j]'h).v < x) ∧ Hid (Ext W4 wr)) (fun i _ => s.length - (intOf i).toNat)
  case atStart => exact ⟨0, Nat.zero_le _, rfl, hide (fun j _ hj => absurd hj (by omega)), hide (Ext.refl _)⟩
  case round =>
    obtain ⟨k, hk, rfl, HJ, HX⟩ := hrel
    have XR := hide (X4.out.trans HX.out)
    by_cases hgo : ∃ hlt : k < s.length, (s[k]'hlt).v < x
    · obtain ⟨hlt, hv⟩ := hgo
      have hlt' : (k : Int) < (s.length : Int) := by omega
      have hk0 : (0 : Int) ≤ (k : Int) := by omega
      obtain ⟨b, o, rfl, hb, q0, q1, q2, q3⟩ := prs_at (H.out.ext XR.out).row hlt
      have HJ2 : Hid (∀ j (h : j < s.length), j < k + 1 → (s[j]'h).v < x) := hide (fun j hj hjk => by
        by_cases e : j = k
        · subst e; exact hv
        · exact HJ.out j hj (by omega))
      generalize s[k]'hlt = y at *
      go_wp2
      go_roundw
      case rel => exact ⟨k + 1, hlt, by go_num, HJ2, HX⟩
      case measure => simp [intOf]; omega
    · have HLb : Hid (LbP s x k) := hide ⟨hk, fun j hj hjk => HJ.out j hj hjk, fun j hj hkj => by
        have h1 : k < s.length := by omega
        have h2 : ¬ (s[k]'h1).v < x := fun h => hgo ⟨h1, h⟩
        rcases Nat.lt_or_ge k j with h3 | h3
        · have := rise_lt HRi.out h3 hj; omega
        · have : j = k := by omega
          subst this
          omega⟩
      have HTake : Hid (Row wr S 4 k ((s.take k).flatMap prC.f)) := hide (by
        have := RowOf.take prC (H.out.ext XR.out).row hk
        unfold RowOf at this
        rwa [List.length_take, Nat.min_eq_left hk] at this)
      have HLen : Hid ((insP s k x t).length = s.length + 1) := hide (insP_len hk)
      have HTy : Hid (∀ w', Ext w w' → ∀ p ∈ insP s k x t, TyIn w' p.ty) := hide (fun w' e p hp => by
        rcases insP_mem.1 hp with rfl | hp
        · exact HT.out.ext e
        · exact (H.out.ty p hp).ext e)
      have HS : Hid (∀ w', Ext wr w' → w'.cell? ⟨w.heap.size, 0, none⟩ = some (encStr t.con) ∧ w'.cell? ⟨w.heap.size, 1, none⟩ = some (.int .i64 t.var) ∧ w'.cell? ⟨w.heap.size, 2, none⟩ = some (.slice t.A t.args.length t.cap)) := hide (fun w' e => by
        have := B1.out.ext (Y4.out.trans (HX.out.trans e))
        exact ⟨this.c0, this.c1, this.c2⟩)
      have hk1 : (k : Int) ≤ (s.length : Int) := by omega
      have hk2 : (k : Int) ≤ (sc : Int) := by omega
      have hk3 : (s.length : Int) ≤ (sc : Int) := by omega
      have hk4 : (0 : Int) ≤ (k : Int) := by omega
      obtain ⟨s0, s1', s2'⟩ := HS.out wr (Ext.refl _)
      have hbr : w.heap.size < wr.heap.size := (B1.out.ext (Y4.out.trans HX.out)).lt
      by_cases hck : sc = k
      · have hks : k = s.length := by omega
        have HFl : Hid ((s.take k).flatMap prC.f ++ [.int .i64 x, encStr t.con, .int .i64 t.var, .slice t.A t.args.length t.cap] ++ [] = (insP s k x t).flatMap prC.f) := hide (by
          unfold insP
          rw [List.flatMap_append, List.flatMap_cons, List.drop_eq_nil_of_le (by omega), List.flatMap_nil, List.append_nil, List.append_nil]
          rfl)
        have hns : ¬ (k : Int) < (s.length : Int) := by omega
        subst hks
        subst hck
        go_wp2
        go_region_held3 (fun w' => w'.cell? ⟨w.heap.size, 0, none⟩ = some (encStr t.con) ∧ w'.cell? ⟨w.heap.size, 1, none⟩ = some (.int .i64 t.var) ∧ w'.cell? ⟨w.heap.size, 2, none⟩ = some (.slice t.A t.args.length t.cap)) (first | assumption | go_keep) (first
          | (refine step_append_rowB _ rfl (.const (.slice none 0 0)) (.tmp 40) 114 rfl wr.heap.size 154 i0 _ 4 56 Tryz.underlying114 hi hz0 hz1 hz2 rfl (by decide) (.slice none 0 0) 0 [] rfl (World.ownsRow_nil _ _ _ _) S s.length s.length ((s.take s.length).flatMap prC.f) rfl (Row.ext HTake.out (w := wr) (by repeat (first | exact Ext.refl _ | exact Ext.pre (by simp) | exact Ext.alloc (by assumption) _ | refine Ext.alloc ?_ _ |  refine Ext.more ?_ _ _ | refine Ext.drew ?_ | refine Ext.drewN ?_ _))) (one_prs _) (by unfold maxLen; omega) (by omega) (Ext.size (w := wr) (by repeat (first | exact Ext.refl _ | exact Ext.pre (by simp) | exact Ext.alloc (by assumption) _ | refine Ext.alloc ?_ _ |  refine Ext.more ?_ _ _ | refine Ext.drew ?_ | refine Ext.drewN ?_ _))) ?_
             intro v1 w2 hown1 hg1 hat1
             have X1 : Hid (Ext wr w2) := hide (Ext.app (w := wr) (by repeat (first | exact Ext.refl _ | exact Ext.pre (by simp) | exact Ext.alloc (by assumption) _ | refine Ext.alloc ?_ _ |  refine Ext.more ?_ _ _ | refine Ext.drew ?_ | refine Ext.drewN ?_ _)) hg1 (World.ownsRow_nil _ wr.heap.size 154 4) (Nat.le_refl _))
             have Hg1 := hide hg1
             rw [Nat.zero_add, List.nil_append] at hown1
             have O1 := hide hown1
             have s1 := HS.out _ X1.out
             clear hown1 hg1 hat1)
          | (refine step_append_rowB _ rfl (.tmp 46) (.tmp 49) 114 rfl wr.heap.size 154 i0 _ 4 56 Tryz.underlying114 hi hz0 hz1 hz2 rfl (by decide) v2 (s.length + 1) ((s.take s.length).flatMap prC.f ++ [.int .i64 x, encStr t.con, .int .i64 t.var, .slice t.A t.args.length t.cap]) rfl O2.out S 0 0 [] rfl (RowOf.nil prC _ _) (by simp) (by unfold maxLen; omega) (by omega) (by have := X3.out.size; omega) ?_
             intro v3 w4 hown3 hg3 hat3
             have X4 : Hid (Ext wr w4) := hide (Ext.app X3.out hg3 O2.out (Nat.le_refl _))
             have O3 := hide hown3
             have s3 := HS.out _ X4.out
             clear hown3 hg3 hat3)
          | (refine step_append_rowB _ rfl (.tmp 41) (.tmp 45) 114 rfl wr.heap.size 154 i0 _ 4 56 Tryz.underlying114 hi hz0 hz1 hz2 rfl (by decide) v1 s.length ((s.take s.length).flatMap prC.f) rfl (by first | exact O1.out.alloc _ | exact O1.out) (some ⟨_, 0, none⟩) 1 1 [.int .i64 x, encStr t.con, .int .i64 t.var, .slice t.A t.args.length t.cap] rfl
               (by first | exact RowOf.block prC [⟨x, t⟩] (heap_alloc_new _ _) | exact RowOf.block prC [⟨x, t⟩] ((Hg1.out.block _ (by simp) (by simp [Value.ownBlock])).trans (at_newB _ _ _ (by simp))))
               (by intro u hu; simp at hu; rcases hu with rfl | rfl | rfl | rfl <;> rfl) (by unfold maxLen; omega) (by omega) (Ext.size (w := wr) (by first | exact X1.out.alloc _ | exact X1.out)) ?_
             intro v2 w3 hown2 hg2 hat2
             have X3 : Hid (Ext wr w3) := hide (Ext.app (w := wr) (by first | exact X1.out.alloc _ | exact X1.out) hg2 (by first | exact O1.out.alloc _ | exact O1.out) (Nat.le_refl _))
             have O2 := hide hown2
             have s2 := HS.out _ X3.out
             clear hown2 hg2 hat2))
        all_goals
          have h3 := O3.out
          rw [show s.length + 1 + 0 = (insP s s.length x t).length by have := HLen.out; omega, show (s.take s.length).flatMap prC.f ++ [.int .i64 x, encStr t.con, .int .i64 t.var, .slice t.A t.args.length t.cap] ++ [] = (insP s s.length x t).flatMap prC.f from HFl.out] at h3
          obtain ⟨A', cap', rfl, hc1, hc2, hs, -⟩ := RowOf.own prC (l := insP s s.length x t) h3
          have Hs : Hid (PrsIn w4 A' (insP s s.length x t)) := hide ⟨hs, fun p hp => HTy.out w4 (XR.out.trans X4.out) p hp⟩
          have XX := hide (XR.out.trans X4.out)
          clear h3 hs O3
          go_wp2
          refine bodyPost_ret (v := .tuple #[.slice A' (insP s s.length x t).length cap', .int .i64 0]) (by simp [results, Tryz.results65, go_sem]) rfl ⟨⟨s.length, A', cap', rfl, HLb.out, Hs.out, hc1, hc2⟩, XX.out⟩
      · have HFl : Hid ((s.take k).flatMap prC.f ++ [.int .i64 x, encStr t.con, .int .i64 t.var, .slice t.A t.args.length t.cap] ++ (s.drop k).flatMap prC.f = (insP s k x t).flatMap prC.f) := hide (by
          unfold insP
          rw [List.flatMap_append, List.flatMap_cons, List.append_assoc]
          rfl)
        have HCut : Hid (Row wr (S.map (·.add (k * 4))) 4 (s.length - k) ((s.drop k).flatMap prC.f)) := hide (by
          have := RowOf.cut prC (H.out.ext XR.out).row hk hle
          rw [if_neg hck] at this
          unfold RowOf at this
          rwa [List.length_drop] at this)
        by_cases hlt : k < s.length
        · have hlt' : (k : Int) < (s.length : Int) := by omega
          have hv : ¬ (s[k]'hlt).v < x := fun h => hgo ⟨hlt, h⟩
          obtain ⟨b, o, hA, hb, q0, q1, q2, q3⟩ := prs_at (H.out.ext XR.out).row hlt
          generalize s[k]'hlt = y at *
          subst hA
          have HCut2 : Hid (Row wr (some ⟨b, o + k * 4, none⟩) 4 (s.length - k) ((s.drop k).flatMap prC.f)) := hide (by
            have h1 := HCut.out
            have h2 : Option.map (·.add (k * 4)) (some (⟨b, o, none⟩ : Addr)) = some ⟨b, o + k * 4, none⟩ := by
              by_cases h0 : k * 4 = 0
              · rw [h0]; rfl
              · show some (Addr.add _ _) = _
                unfold Addr.add
                rw [if_neg h0]
            rwa [h2] at h1)
          clear HCut
          go_wp2
          go_region_held3 (fun w' => w'.cell? ⟨w.heap.size, 0, none⟩ = some (encStr t.con) ∧ w'.cell? ⟨w.heap.size, 1, none⟩ = some (.int .i64 t.var) ∧ w'.cell? ⟨w.heap.size, 2, none⟩ = some (.slice t.A t.args.length t.cap)) (first | assumption | go_keep) (first
            | (refine step_append_rowB _ rfl (.const (.slice none 0 0)) (.tmp 40) 114 rfl wr.heap.size 154 i0 _ 4 56 Tryz.underlying114 hi hz0 hz1 hz2 rfl (by decide) (.slice none 0 0) 0 [] rfl (World.ownsRow_nil _ _ _ _) (some ⟨b, o, none⟩) k sc ((s.take k).flatMap prC.f) rfl (Row.ext HTake.out (w := wr) (by repeat (first | exact Ext.refl _ | exact Ext.pre (by simp) | exact Ext.alloc (by assumption) _ | refine Ext.alloc ?_ _ |  refine Ext.more ?_ _ _ | refine Ext.drew ?_ | refine Ext.drewN ?_ _))) (one_prs _) (by unfold maxLen; omega) (by omega) (Ext.size (w := wr) (by repeat (first | exact Ext.refl _ | exact Ext.pre (by simp) | exact Ext.alloc (by assumption) _ | refine Ext.alloc ?_ _ |  refine Ext.more ?_ _ _ | refine Ext.drew ?_ | refine Ext.drewN ?_ _))) ?_
               intro v1 w2 hown1 hg1 hat1
               have X1 : Hid (Ext wr w2) := hide (Ext.app (w := wr) (by repeat (first | exact Ext.refl _ | exact Ext.pre (by simp) | exact Ext.alloc (by assumption) _ | refine Ext.alloc ?_ _ |  refine Ext.more ?_ _ _ | refine Ext.drew ?_ | refine Ext.drewN ?_ _)) hg1 (World.ownsRow_nil _ wr.heap.size 154 4) (Nat.le_refl _))
               have Hg1 := hide hg1
               rw [Nat.zero_add, List.nil_append] at hown1
               have O1 := hide hown1
               have s1 := HS.out _ X1.out
               clear hown1 hg1 hat1)
            | (refine step_append_rowB _ rfl (.tmp 46) (.tmp 49) 114 rfl wr.heap.size 154 i0 _ 4 56 Tryz.underlying114 hi hz0 hz1 hz2 rfl (by decide) v2 (k + 1) ((s.take k).flatMap prC.f ++ [.int .i64 x, encStr t.con, .int .i64 t.var, .slice t.A t.args.length t.cap]) rfl O2.out (some ⟨b, o + k * 4, none⟩) (s.length - k) (sc - k) ((s.drop k).flatMap prC.f) rfl (HCut2.out.ext X3.out) (one_prs _) (by unfold maxLen; omega) (by omega) (by have := X3.out.size; omega) ?_
               intro v3 w4 hown3 hg3 hat3
               have X4 : Hid (Ext wr w4) := hide (Ext.app X3.out hg3 O2.out (Nat.le_refl _))
               have O3 := hide hown3
               have s3 := HS.out _ X4.out
               clear hown3 hg3 hat3)
            | (refine step_append_rowB _ rfl (.tmp 41) (.tmp 45) 114 rfl wr.heap.size 154 i0 _ 4 56 Tryz.underlying114 hi hz0 hz1 hz2 rfl (by decide) v1 k ((s.take k).flatMap prC.f) rfl (by first | exact O1.out.alloc _ | exact O1.out) (some ⟨_, 0, none⟩) 1 1 [.int .i64 x, encStr t.con, .int .i64 t.var, .slice t.A t.args.length t.cap] rfl
                 (by first | exact RowOf.block prC [⟨x, t⟩] (heap_alloc_new _ _) | exact RowOf.block prC [⟨x, t⟩] ((Hg1.out.block _ (by simp) (by simp [Value.ownBlock])).trans (at_newB _ _ _ (by simp))))
                 (by intro u hu; simp at hu; rcases hu with rfl | rfl | rfl | rfl <;> rfl) (by unfold maxLen; omega) (by omega) (Ext.size (w := wr) (by first | exact X1.out.alloc _ | exact X1.out)) ?_
               intro v2 w3 hown2 hg2 hat2
               have X3 : Hid (Ext wr w3) := hide (Ext.app (w := wr) (by first | exact X1.out.alloc _ | exact X1.out) hg2 (by first | exact O1.out.alloc _ | exact O1.out) (Nat.le_refl _))
               have O2 := hide hown2
               have s2 := HS.out _ X3.out
               clear hown2 hg2 hat2))
          all_goals
            have h3 := O3.out
            rw [show k + 1 + (s.length - k) = (insP s k x t).length by have := HLen.out; omega, show (s.take k).flatMap prC.f ++ [.int .i64 x, encStr t.con, .int .i64 t.var, .slice t.A t.args.length t.cap] ++ ((s.drop k).flatMap prC.f) = (insP s k x t).flatMap prC.f from HFl.out] at h3
            obtain ⟨A', cap', rfl, hc1, hc2, hs, -⟩ := RowOf.own prC (l := insP s k x t) h3
            have Hs : Hid (PrsIn w4 A' (insP s k x t)) := hide ⟨hs, fun p hp => HTy.out w4 (XR.out.trans X4.out) p hp⟩
            have XX := hide (XR.out.trans X4.out)
            clear h3 hs O3
            go_wp2
            refine bodyPost_ret (v := .tuple #[.slice A' (insP s k x t).length cap', .int .i64 0]) (by simp [results, Tryz.results65, go_sem]) rfl ⟨⟨k, A', cap', rfl, HLb.out, Hs.out, hc1, hc2⟩, XX.out⟩
        · have hns : ¬ (k : Int) < (s.length : Int) := by omega
          go_wp2
          go_region_held3 (fun w' => w'.cell? ⟨w.heap.size, 0, none⟩ = some (encStr t.con) ∧ w'.cell? ⟨w.heap.size, 1, none⟩ = some (.int .i64 t.var) ∧ w'.cell? ⟨w.heap.size, 2, none⟩ = some (.slice t.A t.args.length t.cap)) (first | assumption | go_keep) (first
            | (refine step_append_rowB _ rfl (.const (.slice none 0 0)) (.tmp 40) 114 rfl wr.heap.size 154 i0 _ 4 56 Tryz.underlying114 hi hz0 hz1 hz2 rfl (by decide) (.slice none 0 0) 0 [] rfl (World.ownsRow_nil _ _ _ _) S k sc ((s.take k).flatMap prC.f) rfl (Row.ext HTake.out (w := wr) (by repeat (first | exact Ext.refl _ | exact Ext.pre (by simp) | exact Ext.alloc (by assumption) _ | refine Ext.alloc ?_ _ |  refine Ext.more ?_ _ _ | refine Ext.drew ?_ | refine Ext.drewN ?_ _))) (one_prs _) (by unfold maxLen; omega) (by omega) (Ext.size (w := wr) (by repeat (first | exact Ext.refl _ | exact Ext.pre (by simp) | exact Ext.alloc (by assumption) _ | refine Ext.alloc ?_ _ |  refine Ext.more ?_ _ _ | refine Ext.drew ?_ | refine Ext.drewN ?_ _))) ?_
               intro v1 w2 hown1 hg1 hat1
               have X1 : Hid (Ext wr w2) := hide (Ext.app (w := wr) (by repeat (first | exact Ext.refl _ | exact Ext.pre (by simp) | exact Ext.alloc (by assumption) _ | refine Ext.alloc ?_ _ |  refine Ext.more ?_ _ _ | refine Ext.drew ?_ | refine Ext.drewN ?_ _)) hg1 (World.ownsRow_nil _ wr.heap.size 154 4) (Nat.le_refl _))
               have Hg1 := hide hg1
               rw [Nat.zero_add, List.nil_append] at hown1
               have O1 := hide hown1
               have s1 := HS.out _ X1.out
               clear hown1 hg1 hat1)
            | (refine step_append_rowB _ rfl (.tmp 46) (.tmp 49) 114 rfl wr.heap.size 154 i0 _ 4 56 Tryz.underlying114 hi hz0 hz1 hz2 rfl (by decide) v2 (k + 1) ((s.take k).flatMap prC.f ++ [.int .i64 x, encStr t.con, .int .i64 t.var, .slice t.A t.args.length t.cap]) rfl O2.out (S.map (·.add (k * 4))) (s.length - k) (sc - k) ((s.drop k).flatMap prC.f) rfl (HCut.out.ext X3.out) (one_prs _) (by unfold maxLen; omega) (by omega) (by have := X3.out.size; omega) ?_
               intro v3 w4 hown3 hg3 hat3
               have X4 : Hid (Ext wr w4) := hide (Ext.app X3.out hg3 O2.out (Nat.le_refl _))
               have O3 := hide hown3
               have s3 := HS.out _ X4.out
               clear hown3 hg3 hat3)
            | (refine step_append_rowB _ rfl (.tmp 41) (.tmp 45) 114 rfl wr.heap.size 154 i0 _ 4 56 Tryz.underlying114 hi hz0 hz1 hz2 rfl (by decide) v1 k ((s.take k).flatMap prC.f) rfl (by first | exact O1.out.alloc _ | exact O1.out) (some ⟨_, 0, none⟩) 1 1 [.int .i64 x, encStr t.con, .int .i64 t.var, .slice t.A t.args.length t.cap] rfl
                 (by first | exact RowOf.block prC [⟨x, t⟩] (heap_alloc_new _ _) | exact RowOf.block prC [⟨x, t⟩] ((Hg1.out.block _ (by simp) (by simp [Value.ownBlock])).trans (at_newB _ _ _ (by simp))))
                 (by intro u hu; simp at hu; rcases hu with rfl | rfl | rfl | rfl <;> rfl) (by unfold maxLen; omega) (by omega) (Ext.size (w := wr) (by first | exact X1.out.alloc _ | exact X1.out)) ?_
               intro v2 w3 hown2 hg2 hat2
               have X3 : Hid (Ext wr w3) := hide (Ext.app (w := wr) (by first | exact X1.out.alloc _ | exact X1.out) hg2 (by first | exact O1.out.alloc _ | exact O1.out) (Nat.le_refl _))
               have O2 := hide hown2
               have s2 := HS.out _ X3.out
               clear hown2 hg2 hat2))
          all_goals
            have h3 := O3.out
            rw [show k + 1 + (s.length - k) = (insP s k x t).length by have := HLen.out; omega, show (s.take k).flatMap prC.f ++ [.int .i64 x, encStr t.con, .int .i64 t.var, .slice t.A t.args.length t.cap] ++ ((s.drop k).flatMap prC.f) = (insP s k x t).flatMap prC.f from HFl.out] at h3
            obtain ⟨A', cap', rfl, hc1, hc2, hs, -⟩ := RowOf.own prC (l := insP s k x t) h3
            have Hs : Hid (PrsIn w4 A' (insP s k x t)) := hide ⟨hs, fun p hp => HTy.out w4 (XR.out.trans X4.out) p hp⟩
            have XX := hide (XR.out.trans X4.out)
            clear h3 hs O3
            go_wp2
            refine bodyPost_ret (v := .tuple #[.slice A' (insP s k x t).length cap', .int .i64 0]) (by simp [results, Tryz.results65, go_sem]) rfl ⟨⟨k, A', cap', rfl, HLb.out, Hs.out, hc1, hc2⟩, XX.out⟩

end Go.Proofs.YtnomibjbjplieaaGreat

/- Contracts of the reference of chapter 17: a type, and predicates, with all replaced; and of chapter 21: renamed. -/
namespace Go.Proofs.YtnomibjbjplieaaGreat
open Go.RowKit

/-- What the reference's Apply tells. -/
structure AppR (w w' : World) (s : List Pr) (t u : Ty) : Prop where
  ty : TyIn w' u
  is : u.pure = putP (vsP s) (tsP s) t
  away : ∀ c, c < w.heap.size → awayB c t = true → (∀ k ∈ tsP s, awayB c k = true) → awayB c u = true

set_option maxRecDepth 10000 in
set_option maxHeartbeats 4000000 in
theorem r_apply17 (S : Option Addr) (sc : Nat) (s : List Pr) (t : Ty) (w : World) (h : PrsIn w S s) (hn : s.length ≤ 9223372036854775807) (hsm : ∀ p ∈ s, legalT p.ty = true) (ht : TyIn w t) (hl : legalT t = true) (h1 : szS (vsP s) (tsP s) t ≤ 4096) (h2 : dpS (vsP s) (tsP s) t ≤ 100) :
    Calls Tryz.prog 103 #[.slice S s.length sc, tyV t] w fun e w' => (∃ u, e = .returned (.tuple #[tyV u, .int .i64 0]) ∧ AppR w w' s t u) ∧ Ext w w' := by
  obtain ⟨W, hW⟩ : ∃ W, W = (w.alloc (.cells #[encStr t.con, .int .i64 t.var, .slice t.A t.args.length t.cap] 32)).alloc (.cells #[.string ⟨#[]⟩, .int .i64 0, .slice none 0 0] 32) := ⟨_, rfl⟩
  have HW := hide hW.symm
  have X0 : Hid (Ext w W) := hide (by rw [hW]; exact ((Ext.refl _).alloc _).alloc _)
  have B1 : Hid (TBox W w.heap.size t) := hide (by rw [hW]; exact (TBox.new w t).ext ((Ext.refl _).alloc _))
  have B2 : Hid (W.heap[w.heap.size + 1]? = some (.cells #[.string ⟨#[]⟩, .int .i64 0, .slice none 0 0] 32 (0, 0))) := hide (by rw [hW]; exact at_newB _ _ _ (by simp))
  have hts : t.size ≤ 4096 := (legal_parts hl).1
  have hps : ∀ p ∈ s, p.ty.size ≤ 1000000 := fun p hp => by have := (legal_parts (hsm p hp)).1; omega
  have HL1 := hide (r_legal16 t W (ht.ext X0.out) (by omega))
  rw [hl] at HL1
  have HSz := hide (fun w' (e : Ext w w') => hide (r_size17 S sc s hn hps t w' (ht.ext e) (h.ext e) (by omega)))
  have HPt := hide (fun w' (e : Ext w w') => hide (r_put17 S sc s hn t w' (ht.ext e) (h.ext e) (by omega)))
  have HLu := hide (fun (u : Ty) (e : u.pure = putP (vsP s) (tsP s) t) => show legalT u = true ∧ u.size ≤ 900000 by
    have h3 := legal_put (vars := vsP s) (types := tsP s) (fun k hk => by obtain ⟨p, hp, rfl⟩ := List.mem_map.1 hk; exact hsm p hp) hl e
    rw [decide_eq_true h1, decide_eq_true h2] at h3
    exact ⟨h3, by have := (legal_parts h3).1; omega⟩)
  have HAt := hide (fun c (hc : w.heap.size ≤ c) => And.intro (away_new ht hc) (fun k (hk : k ∈ tsP s) => away_new (h.tys k hk) hc))
  have hz : ¬ (4096 : Int) < (szS (vsP s) (tsP s) t : Int) := by omega
  have hz2 : (szS (vsP s) (tsP s) t : Int) ≤ 4096 := by omega
  generalize szS (vsP s) (tsP s) t = Z at *
  have c0 := B1.out.c0
  have c1 := B1.out.c1
  have c2 := B1.out.c2
  have hbl := B1.out.lt
  clear hW h ht hl hsm hts hps h1 h2
  unfold tyV at *
  go_enter Tryz.func103, Tryz.ntmps103
  go_upto_region 1 with fail
  rw [HW.out]
  clear HW
  go_wp2_with fail
  refine HL1.out.mono ?_
  rintro e w2 ⟨rfl, hx⟩
  have X2 := hide (X0.out.trans hx)
  have C1 := hide (B1.out.ext hx)
  have C2 := hide ((hx.heap (lt_of_obj B2.out)).trans B2.out)
  clear hx HL1 c0 c1 c2 hbl
  have c0 := C1.out.c0
  have c1 := C1.out.c1
  have c2 := C1.out.c2
  have hbl := C1.out.lt
  go_wp2_with fail
  refine (HSz.out w2 X2.out).out.mono ?_
  rintro e w3 ⟨rfl, hx⟩
  have X3 := hide (X2.out.trans hx)
  have D1 := hide (C1.out.ext hx)
  have D2 := hide ((hx.heap (lt_of_obj C2.out)).trans C2.out)
  clear hx HSz c0 c1 c2 hbl C1 C2
  have c0 := D1.out.c0
  have c1 := D1.out.c1
  have c2 := D1.out.c2
  have hbl := D1.out.lt
  go_wp2_with fail
  refine (HPt.out w3 X3.out).out.mono ?_
  rintro e w4 ⟨⟨u, rfl, hu⟩, hx⟩
  obtain ⟨W5, hW5⟩ : ∃ W5, W5 = w4.alloc (.cells #[encStr u.con, .int .i64 u.var, .slice u.A u.args.length u.cap] 32) := ⟨_, rfl⟩
  have X45 : Hid (Ext w4 W5) := hide (by rw [hW5]; exact (Ext.refl _).alloc _)
  have X5 := hide (X3.out.trans (hx.trans X45.out))
  have E2 := hide (((hx.trans X45.out).heap (lt_of_obj D2.out)).trans D2.out)
  have U5 : Hid (TBox W5 w4.heap.size u) := hide (by rw [hW5]; exact TBox.new w4 u)
  have Hu := hide (hu.ext X45.out)
  have HL2 := hide (r_legal16 u W5 Hu.out.ty (HLu.out u hu.is).2)
  rw [(HLu.out u hu.is).1] at HL2
  have hs3 := X3.out.size
  have hs0 : w.heap.size + 2 ≤ w3.heap.size := by
    have h1 := lt_of_obj D2.out
    omega
  clear hx hu HPt c0 c1 c2 hbl D1 D2 HLu
  unfold tyV at HL2
  go_upto_region 6 with fail
  rw [← hW5]
  clear hW5
  have c0 := U5.out.c0
  have c1 := U5.out.c1
  have c2 := U5.out.c2
  have hbl := U5.out.lt
  go_wp2_with fail
  refine HL2.out.mono ?_
  rintro e w6 ⟨rfl, hx⟩
  have X6 := hide (X5.out.trans hx)
  have U6 := hide (U5.out.ext hx)
  have F2 := hide ((hx.heap (lt_of_obj E2.out)).trans E2.out)
  have HuT := hide (Hu.out.ty.ext hx)
  clear hx HL2 c0 c1 c2 hbl
  have c0 := U6.out.c0
  have c1 := U6.out.c1
  have c2 := U6.out.c2
  have hbl := U6.out.lt
  have f0 := free_block F2.out 0
  have f1 := free_block F2.out 1
  have f2 := free_block F2.out 2
  have k0 := bytes_block F2.out 0
  have k1 := bytes_block F2.out 1
  have k2 := bytes_block F2.out 2
  have hrl := lt_of_obj F2.out
  simp only [List.getElem?_toArray, List.getElem?_cons_zero, List.getElem?_cons_succ] at k0 k1 k2
  have HEnd : Hid (AppR w (((w6.setCell ⟨w.heap.size + 1, 0, none⟩ (encStr u.con)).setCell ⟨w.heap.size + 1, 1, none⟩ (.int .i64 u.var)).setCell ⟨w.heap.size + 1, 2, none⟩ (.slice u.A u.args.length u.cap)) s t u ∧ Ext w (((w6.setCell ⟨w.heap.size + 1, 0, none⟩ (encStr u.con)).setCell ⟨w.heap.size + 1, 1, none⟩ (.int .i64 u.var)).setCell ⟨w.heap.size + 1, 2, none⟩ (.slice u.A u.args.length u.cap))) := hide (by
    have g := put3_grown w6 (w.heap.size + 1) 0 1 2 (encStr u.con) (.int .i64 u.var) (.slice u.A u.args.length u.cap)
    have ha : awayB (w.heap.size + 1) u = true := Hu.out.away _ (by omega) (HAt.out _ (by omega)).1 (HAt.out _ (by omega)).2
    refine ⟨⟨HuT.out.grown g (fun c e => by injection e with e; subst e; exact ha), Hu.out.is, fun c hc h1 h2 => Hu.out.away c (by omega) h1 h2⟩, ?_⟩
    exact (((X6.out.setCell (by simp) _).setCell (by simp) _).setCell (by simp) _))
  go_wp2
  refine bodyPost_ret (v := .tuple #[.agg #[encStr u.con, .int .i64 u.var, .slice u.A u.args.length u.cap], .int .i64 0]) ?_ rfl ⟨⟨u, rfl, HEnd.out.1⟩, HEnd.out.2⟩
  simp [results, Tryz.f103, go_sem, k0, k1, k2]

/-- What the reference's Preds tells. -/
structure DpsR (N : Nat) (w' : World) (row : Option Nat) (s : List Pr) (l ds : List Pd) : Prop where
  away : ∀ d ∈ ds, ∀ c, c < N → (∀ x ∈ l, awayB c x.ty = true) → (∀ k ∈ tsP s, awayB c k = true) → awayB c d.ty = true
  ty : ∀ d ∈ ds, TyIn w' d.ty
  off : ∀ d ∈ ds, ∀ c, row = some c → awayB c d.ty = true
  is : ds.map (fun d => (d.cls, d.ty.pure)) = l.map fun x => (x.cls, putP (vsP s) (tsP s) x.ty)
theorem DpsR.len {N : Nat} {w' : World} {row : Option Nat} {s : List Pr} {l ds : List Pd} (h : DpsR N w' row s l ds) : ds.length = l.length := by simpa using congrArg List.length h.is
theorem DpsR.step {w wr w3 w5 : World} {row row' : Option Nat} {s : List Pr} {l ds : List Pd} {x : Pd} {u : Ty} {S : Option Addr} {N : Nat} (h : DpsR N wr row s l ds) (hN : N ≤ wr.heap.size) (hS : PrsIn w S s) (hx : TyIn w x.ty) (hu : AppR wr w3 s x.ty u)
    (hlo : ∀ c, row = some c → w.heap.size ≤ c ∧ c < wr.heap.size) (e : Ext wr w3) {w4 : World} (e4 : Ext w3 w4) (hg : w4.grownBy w5 row) (ho : row' = row ∨ row' = some w4.heap.size) : DpsR N w5 row' s (l ++ [x]) (ds ++ [⟨x.cls, u⟩]) := by
  have hau : ∀ c, row = some c → awayB c u = true := fun c hc => hu.away c (hlo c hc).2 (away_new hx (hlo c hc).1) (fun k hk => away_new (hS.tys k hk) (hlo c hc).1)
  have hty : ∀ d ∈ ds ++ [(⟨x.cls, u⟩ : Pd)], TyIn w4 d.ty ∧ ∀ c, row = some c → awayB c d.ty = true := by
    intro d hd
    rcases List.mem_append.1 hd with hd | hd
    · exact ⟨(h.ty d hd).ext (e.trans e4), fun c hc => h.off d hd c hc⟩
    · rw [List.mem_singleton] at hd
      subst hd
      exact ⟨hu.ty.ext e4, hau⟩
  refine ⟨fun d hd c hc h1 h2 => ?_, fun d hd => (hty d hd).1.grown hg (hty d hd).2, fun d hd c hc => ?_, ?_⟩
  · rcases List.mem_append.1 hd with hd | hd
    · exact h.away d hd c hc (fun y hy => h1 y (List.mem_append.2 (.inl hy))) h2
    · rw [List.mem_singleton] at hd
      subst hd
      exact hu.away c (by omega) (h1 x (by simp)) h2
  · rcases ho with h1 | h1
    · exact (hty d hd).2 c (h1 ▸ hc)
    · rw [h1] at hc; injection hc with hc; exact away_new (hty d hd).1 (by omega)
  · rw [List.map_append, List.map_append, h.is]
    simp [hu.is]

set_option maxRecDepth 10000 in
set_option maxHeartbeats 4000000 in
theorem r_preds17 (S : Option Addr) (sc : Nat) (s : List Pr) (B : Option Addr) (bc : Nat) (l : List Pd) (w : World) (h : PrsIn w S s) (hn : s.length ≤ 9223372036854775807) (hsm : ∀ p ∈ s, legalT p.ty = true) (hl : PdsIn w B l) (hlen : l.length ≤ 40000) (hok : putsOk s l) :
    Calls Tryz.prog 104 #[.slice S s.length sc, .slice B l.length bc] w fun e w' => (∃ v ds, e = .returned (.tuple #[v, .int .i64 0]) ∧ w'.ownsRow w.heap.size 69 4 v ds.length (ds.flatMap pdC.f) ∧ DpsR w.heap.size w' v.ownBlock s l ds) ∧ Ext w w' := by
  obtain ⟨i0, hi, hz0, hz1, hz2⟩ := info_parts pred_info
  have HS := hide h
  have HL := hide hl
  have HApp := hide (fun (x : Pd) (hx : x ∈ l) w' (e : Ext w w') => hide (r_apply17 S sc s x.ty w' (h.ext e) hn hsm ((hl.all x hx).ty.ext e) (hok x hx).1 (hok x hx).2.1 (hok x hx).2.2))
  clear h hsm hl hok
  go_enter Tryz.func104, Tryz.ntmps104
  go_wp2
  go_loopw [6, 7] (fun v i wr => ∃ (k : Nat) (ds : List Pd), k ≤ l.length ∧ i = .int .i64 k ∧ Hid (Ext w wr) ∧ Hid (wr.ownsRow w.heap.size 69 4 v ds.length (ds.flatMap pdC.f)) ∧ Hid (DpsR w.heap.size wr v.ownBlock s (l.take k) ds)) (fun _ i _ => l.length - (intOf i).toNat)
  case atStart => exact ⟨0, [], Nat.zero_le _, rfl, hide (Ext.refl _), hide (World.ownsRow_nil _ _ _ _), hide ⟨by simp, by simp, by simp, rfl⟩⟩
  case round =>
    obtain ⟨k, ds, hk, rfl, HX, HO, HD⟩ := hrel
    by_cases hlt : k < l.length
    · have hlt' : (k : Int) < (l.length : Int) := by omega
      have hk0 : (0 : Int) ≤ (k : Int) := by omega
      obtain ⟨b, o, rfl, hb0, p0, p1, p2, p3⟩ := HL.out.at_ hlt
      have q0 := HX.out.cell p0
      have q1 := HX.out.cell p1
      have q2 := HX.out.cell p2
      have q3 := HX.out.cell p3
      have hb : b < wr.heap.size := by have := HX.out.size; omega
      have hm := List.getElem_mem hlt
      have HAx := hide (HApp.out _ hm wr HX.out)
      have Hx := hide (HL.out.all _ hm)
      have Htk : Hid (l.take (k + 1) = l.take k ++ [l[k]'hlt]) := hide (List.take_succ_eq_append_getElem hlt)
      have hdl : ds.length ≤ 40000 := by have := HD.out.len; rw [List.length_take] at this; omega
      generalize l[k]'hlt = x at *
      clear hm
      unfold tyV at HAx
      obtain ⟨A6, c6, rfl, -, -, -, -⟩ := RowOf.own pdC (l := ds) HO.out
      go_wp2_with fail
      refine HAx.out.out.mono ?_
      rintro e w3 ⟨⟨u, rfl, hu⟩, hx3⟩
      obtain ⟨W4, hW4⟩ : ∃ W4, W4 = w3.alloc (.cells #[encStr u.con, .int .i64 u.var, .slice u.A u.args.length u.cap] 32) := ⟨_, rfl⟩
      have X34 : Hid (Ext w3 W4) := hide (by rw [hW4]; exact (Ext.refl _).alloc _)
      have U4 : Hid (TBox W4 w3.heap.size u) := hide (by rw [hW4]; exact TBox.new w3 u)
      have Xr4 := hide (hx3.trans X34.out)
      have X4 := hide (HX.out.trans Xr4.out)
      have HStep := hide (fun w5 v' (w4 : World) (e4 : Ext W4 w4) (hg : w4.grownBy w5 (Value.slice A6 ds.length c6).ownBlock) (ho : (v' : Value).ownBlock = (Value.slice A6 ds.length c6).ownBlock ∨ v'.ownBlock = some w4.heap.size) =>
        DpsR.step HD.out HX.out.size HS.out Hx.out.ty hu (fun c hc => HO.out.lt c hc) hx3 (X34.out.trans e4) hg ho)
      have HSb : Hid (∀ w', Ext W4 w' → w'.cell? ⟨b, o + k * 4, none⟩ = some (.string ⟨x.cls.toArray⟩) ∧ w'.cell? ⟨w3.heap.size, 0, none⟩ = some (encStr u.con) ∧ w'.cell? ⟨w3.heap.size, 1, none⟩ = some (.int .i64 u.var) ∧ w'.cell? ⟨w3.heap.size, 2, none⟩ = some (.slice u.A u.args.length u.cap)) := hide (fun w' e => by
        have := U4.out.ext e
        exact ⟨(Xr4.out.trans e).cell q0, this.c0, this.c1, this.c2⟩)
      have HSc : Hid (∀ w4 w5, Ext W4 w4 → w4.grownBy w5 (Value.slice A6 ds.length c6).ownBlock → Ext w w5 → w5.cell? ⟨b, o + k * 4, none⟩ = some (.string ⟨x.cls.toArray⟩) ∧ w5.cell? ⟨w3.heap.size, 0, none⟩ = some (encStr u.con) ∧ w5.cell? ⟨w3.heap.size, 1, none⟩ = some (.int .i64 u.var) ∧ w5.cell? ⟨w3.heap.size, 2, none⟩ = some (.slice u.A u.args.length u.cap)) := hide (fun w4 w5 e4 hg e => by
        have h4 := U4.out.ext e4
        have h5 : TBox w5 w3.heap.size u := (hg.block _ h4.lt (fun e => by have h6 := (HO.out.lt _ e.symm).2; have h7 := hx3.size; omega)).trans h4
        exact ⟨e.cell p0, h5.c0, h5.c1, h5.c2⟩)
      clear hu hx3 q0 q1 q2 q3 p0 p1 p2 p3
      go_upto_region 8 with fail
      rw [← hW4]
      clear hW4
      obtain ⟨s0, s1, s2, s3⟩ := HSb.out W4 (Ext.refl _)
      have hbl := U4.out.lt
      have hb4 : b < W4.heap.size := by have := Xr4.out.size; omega
      go_wp2
      go_region_held3 (fun w' => w'.cell? ⟨b, o + k * 4, none⟩ = some (.string ⟨x.cls.toArray⟩) ∧ w'.cell? ⟨w3.heap.size, 0, none⟩ = some (encStr u.con) ∧ w'.cell? ⟨w3.heap.size, 1, none⟩ = some (.int .i64 u.var) ∧ w'.cell? ⟨w3.heap.size, 2, none⟩ = some (.slice u.A u.args.length u.cap)) (first | assumption | go_keep) (first
      | (refine step_append_rowB _ rfl (.tmp 29) (.tmp 37) 37 rfl w.heap.size 69 i0 _ 4 64 Tryz.underlying37 hi hz0 hz1 hz2 rfl (by decide) (.slice A6 ds.length c6) ds.length (ds.flatMap pdC.f) rfl (own_extB HO.out (Xr4.out.trans (by repeat (first | exact Ext.refl _ | exact Ext.pre (by simp) | exact Ext.alloc (by assumption) _ | refine Ext.alloc ?_ _ |  refine Ext.more ?_ _ _ | refine Ext.drew ?_ | refine Ext.drewN ?_ _)))) (some ⟨_, 0, none⟩) 1 1 (pdC.f (Pd.mk x.cls u)) rfl (by first | exact pd_row1 (heap_alloc_new _ _) | exact pd_row1 (at_newB _ _ _ (by simp))) (fun y hy => one_pds [Pd.mk x.cls u] y (by rw [List.flatMap_cons, List.flatMap_nil, List.append_nil]; exact hy)) (by unfold maxLen; omega) (by omega) (Nat.le_trans X4.out.size (Ext.size (by repeat (first | exact Ext.refl _ | exact Ext.pre (by simp) | exact Ext.alloc (by assumption) _ | refine Ext.alloc ?_ _ |  refine Ext.more ?_ _ _ | refine Ext.drew ?_ | refine Ext.drewN ?_ _)))) ?_
         intro v5 w5 hown5 hg5 hor5
         have Y5 : Hid (Ext w w5) := hide (Ext.app (X4.out.trans (by repeat (first | exact Ext.refl _ | exact Ext.pre (by simp) | exact Ext.alloc (by assumption) _ | refine Ext.alloc ?_ _ |  refine Ext.more ?_ _ _ | refine Ext.drew ?_ | refine Ext.drewN ?_ _))) hg5 (own_extB HO.out (Xr4.out.trans (by repeat (first | exact Ext.refl _ | exact Ext.pre (by simp) | exact Ext.alloc (by assumption) _ | refine Ext.alloc ?_ _ |  refine Ext.more ?_ _ _ | refine Ext.drew ?_ | refine Ext.drewN ?_ _)))) (Nat.le_refl _))
         have O5 : Hid (w5.ownsRow w.heap.size 69 4 v5 (ds ++ [Pd.mk x.cls u]).length ((ds ++ [Pd.mk x.cls u]).flatMap pdC.f)) := hide (by rw [List.length_append, List.flatMap_append]; simpa using hown5)
         have D5 : Hid (DpsR w.heap.size w5 v5.ownBlock s (l.take (k + 1)) (ds ++ [Pd.mk x.cls u])) := hide (by rw [Htk.out]; exact HStep.out w5 v5 _ (by repeat (first | exact Ext.refl _ | exact Ext.pre (by simp) | exact Ext.alloc (by assumption) _ | refine Ext.alloc ?_ _ |  refine Ext.more ?_ _ _ | refine Ext.drew ?_ | refine Ext.drewN ?_ _)) hg5 hor5)
         have t0 := HSc.out _ w5 (by repeat (first | exact Ext.refl _ | exact Ext.pre (by simp) | exact Ext.alloc (by assumption) _ | refine Ext.alloc ?_ _ |  refine Ext.more ?_ _ _ | refine Ext.drew ?_ | refine Ext.drewN ?_ _)) hg5 Y5.out
         clear hown5 hg5 hor5))
      go_wp2
      go_roundw
      case rel => exact ⟨k + 1, _, hlt, by go_num, Y5, O5, D5⟩
      case measure => simp [intOf]; omega
    · have hge : ¬ (k : Int) < (l.length : Int) := by omega
      have HDd : Hid (DpsR w.heap.size wr u6.ownBlock s l ds) := hide (by have := HD.out; rwa [List.take_of_length_le (by omega)] at this)
      go_wp2
      go_ret2
      exact ⟨⟨_, rfl, ds, HO.out, HDd.out⟩, HX.out⟩

end Go.Proofs.YtnomibjbjplieaaGreat

/- Contract of the reference of chapter 21: a type and predicates with other variables. -/
namespace Go.Proofs.YtnomibjbjplieaaGreat
open Go.RowKit

/-- What the reference's renamed tells. -/
structure RenR (w w' : World) (s : List Pr) (t u : Ty) (l ds : List Pd) (v : Value) : Prop where
  ty : TyIn w' u
  is : u.pure = putP (vsP s) (tsP s) t
  away : ∀ c, c < w.heap.size → awayB c t = true → (∀ k ∈ tsP s, awayB c k = true) → awayB c u = true
  own : w'.ownsRow w.heap.size 69 4 v ds.length (ds.flatMap pdC.f)
  dty : ∀ d ∈ ds, TyIn w' d.ty
  dis : ds.map (fun d => (d.cls, d.ty.pure)) = l.map fun x => (x.cls, putP (vsP s) (tsP s) x.ty)
  daway : ∀ d ∈ ds, ∀ c, c < w.heap.size → (∀ x ∈ l, awayB c x.ty = true) → (∀ k ∈ tsP s, awayB c k = true) → awayB c d.ty = true

set_option maxRecDepth 10000 in
set_option maxHeartbeats 4000000 in
theorem r_renamed21 (S : Option Addr) (sc : Nat) (s : List Pr) (t : Ty) (A : Option Addr) (cap : Nat) (l : List Pd) (w : World) (h : PrsIn w S s) (hn : s.length ≤ 9223372036854775807) (hsm : ∀ p ∈ s, legalT p.ty = true) (ht : TyIn w t) (hl : PdsIn w A l) (hlen : l.length ≤ 40000)
    (htl : legalT t = true) (hz : szS (vsP s) (tsP s) t ≤ 4096 ∧ dpS (vsP s) (tsP s) t ≤ 100) (hok : putsOk s l) :
    Calls Tryz.prog 67 #[tyV t, .slice A l.length cap, .slice S s.length sc] w fun e w' => (∃ u v ds, e = .returned (.tuple #[tyV u, v]) ∧ RenR w w' s t u l ds v) ∧ Ext w w' := by
  obtain ⟨W, hW⟩ : ∃ W, W = (w.alloc (.cells #[encStr t.con, .int .i64 t.var, .slice t.A t.args.length t.cap] 32)).alloc (.cells #[.string ⟨#[]⟩, .int .i64 0, .slice none 0 0] 32) := ⟨_, rfl⟩
  have HW := hide hW.symm
  have X0 : Hid (Ext w W) := hide (by rw [hW]; exact ((Ext.refl _).alloc _).alloc _)
  have B1 : Hid (TBox W w.heap.size t) := hide (by rw [hW]; exact (TBox.new w t).ext ((Ext.refl _).alloc _))
  have B2 : Hid (W.heap[w.heap.size + 1]? = some (.cells #[.string ⟨#[]⟩, .int .i64 0, .slice none 0 0] 32 (0, 0))) := hide (by rw [hW]; exact at_newB _ _ _ (by simp))
  have HA := hide (r_apply17 S sc s t W (h.ext X0.out) hn hsm (ht.ext X0.out) htl hz.1 hz.2)
  have HP := hide (fun w' (e : Ext w w') => hide (r_preds17 S sc s A cap l w' (h.ext e) hn hsm (hl.ext e) hlen hok))
  have HAt := hide (fun c (hc : w.heap.size ≤ c) => And.intro (away_new ht hc) (And.intro (fun k (hk : k ∈ tsP s) => away_new (h.tys k hk) hc) (fun x (hx : x ∈ l) => away_new (hl.all x hx).ty hc)))
  have c0 := B1.out.c0
  have c1 := B1.out.c1
  have c2 := B1.out.c2
  have hbl := B1.out.lt
  clear hW h ht hl hsm htl hz hok
  unfold tyV at *
  go_enter Tryz.func67, Tryz.ntmps67
  go_upto_region 1 with fail
  rw [HW.out]
  clear HW
  go_wp2_with fail
  refine HA.out.mono ?_
  rintro e w2 ⟨⟨u, rfl, hu⟩, hx⟩
  obtain ⟨W3, hW3⟩ : ∃ W3, W3 = w2.alloc (.cells #[encStr u.con, .int .i64 u.var, .slice u.A u.args.length u.cap] 32) := ⟨_, rfl⟩
  have X23 : Hid (Ext w2 W3) := hide (by rw [hW3]; exact (Ext.refl _).alloc _)
  have U3 : Hid (TBox W3 w2.heap.size u) := hide (by rw [hW3]; exact TBox.new w2 u)
  have Y3 := hide (hx.trans X23.out)
  have X3 := hide (X0.out.trans Y3.out)
  have HuT := hide (hu.ty.ext X23.out)
  have HuI := hide hu.is
  have HuA := hide hu.away
  have C2 := hide ((Y3.out.heap (lt_of_obj B2.out)).trans B2.out)
  clear hx hu HA c0 c1 c2 hbl
  go_upto_region 2 with fail
  rw [← hW3]
  clear hW3
  go_wp2_with fail
  refine (HP.out W3 X3.out).out.mono ?_
  rintro e w4 ⟨⟨v, ds, rfl, hown, hd⟩, hx⟩
  have X4 := hide (X3.out.trans hx)
  have U4 := hide (U3.out.ext hx)
  have D2 := hide ((hx.heap (lt_of_obj C2.out)).trans C2.out)
  have HuT4 := hide (HuT.out.ext hx)
  have HD := hide hd
  have HO := hide hown
  have hs3 := X3.out.size
  have hsW := Y3.out.size
  have hsB := lt_of_obj B2.out
  have hsx := hx.size
  clear hx hd hown HP
  have c0 := U4.out.c0
  have c1 := U4.out.c1
  have c2 := U4.out.c2
  have hbl := U4.out.lt
  have f0 := free_block D2.out 0
  have f1 := free_block D2.out 1
  have f2 := free_block D2.out 2
  have k0 := bytes_block D2.out 0
  have k1 := bytes_block D2.out 1
  have k2 := bytes_block D2.out 2
  have hrl := lt_of_obj D2.out
  simp only [List.getElem?_toArray, List.getElem?_cons_zero, List.getElem?_cons_succ] at k0 k1 k2
  obtain ⟨WF, hWF⟩ : ∃ WF, WF = ((w4.setCell ⟨w.heap.size + 1, 0, none⟩ (encStr u.con)).setCell ⟨w.heap.size + 1, 1, none⟩ (.int .i64 u.var)).setCell ⟨w.heap.size + 1, 2, none⟩ (.slice u.A u.args.length u.cap) := ⟨_, rfl⟩
  have HEnd : Hid (RenR w WF s t u l ds v ∧ Ext w WF) := hide (by
    have g := put3_grown w4 (w.heap.size + 1) 0 1 2 (encStr u.con) (.int .i64 u.var) (.slice u.A u.args.length u.cap)
    have hN := HAt.out (w.heap.size + 1) (by omega)
    have ho := ownsRow_setCell_below (ownsRow_setCell_below (ownsRow_setCell_below HO.out (a := ⟨w.heap.size + 1, 0, none⟩) (by show w.heap.size + 1 < _; omega) (encStr u.con)) (a := ⟨w.heap.size + 1, 1, none⟩) (by show w.heap.size + 1 < _; omega) (.int .i64 u.var)) (a := ⟨w.heap.size + 1, 2, none⟩) (by show w.heap.size + 1 < _; omega) (.slice u.A u.args.length u.cap)
    rw [← hWF] at g ho
    refine ⟨⟨HuT4.out.grown g (fun c e => by injection e with e; subst e; exact HuA.out _ (by omega) hN.1 hN.2.1), HuI.out, fun c hc h1 h2 => HuA.out c (by have := X0.out.size; omega) h1 h2, own_low ho (by omega), fun d hd => (HD.out.ty d hd).grown g (fun c e => by injection e with e; subst e; exact HD.out.away d hd _ (by omega) hN.2.2 hN.2.1), HD.out.is, fun d hd c hc h1 h2 => HD.out.away d hd c (by omega) h1 h2⟩, ?_⟩
    rw [hWF]
    exact (((X4.out.setCell (by simp) _).setCell (by simp) _).setCell (by simp) _))
  go_wp2
  rw [← hWF]
  refine bodyPost_ret (v := .tuple #[.agg #[encStr u.con, .int .i64 u.var, .slice u.A u.args.length u.cap], v]) ?_ rfl ⟨⟨u, v, ds, rfl, HEnd.out.1⟩, HEnd.out.2⟩
  rw [hWF]
  simp [results, Tryz.f67, go_sem, k0, k1, k2]

end Go.Proofs.YtnomibjbjplieaaGreat
