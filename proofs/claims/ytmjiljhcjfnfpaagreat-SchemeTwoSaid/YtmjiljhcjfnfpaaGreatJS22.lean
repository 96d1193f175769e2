/- Substitutions at work: a builder's put at variables that have nothing; put, whole; Apply; Preds. -/
import Derived.Test.YtmjiljhcjfnfpaaGreatJS21
/- Substitutions at work: a builder's put at variables that have nothing; put, whole; Apply; Preds. -/
namespace Go.Proofs.YtmjiljhcjfnfpaaGreat
open Go.RowKit

set_option maxRecDepth 10000 in
set_option maxHeartbeats 8000000 in
theorem s_put_miss (bb p : Nat) (A : Option Addr) (cap : Nat) (s : List Pr) (v : Int) (TA : Option Addr) (tc : Nat) (hx : putAt (vsP s) (tsP s) v = none) : PutC bb p A cap s (.mk [] v TA tc []) := by
  intro w left level ht hoff hsub hbl hl0 hl1 hv0 hv1
  obtain ⟨W, hW⟩ : ∃ W, W = (w.alloc (.cells #[.string ⟨#[]⟩, .int .i64 v, .slice TA 0 tc] 25)).alloc (.cells #[.string ⟨#[]⟩, .int .i64 0, .slice none 0 0] 25) := ⟨_, rfl⟩
  have HW := hide hW.symm
  have X0 : Hid (Ext w W) := hide (by rw [hW]; exact ((Ext.refl _).alloc _).alloc _)
  have B1 : Hid (W.heap[w.heap.size]? = some (.cells #[.string ⟨#[]⟩, .int .i64 v, .slice TA 0 tc] 25 (0, 0))) := hide (by rw [hW]; exact (((Ext.refl _).alloc _).heap (by simp)).trans (at_newB _ _ _ rfl))
  have B2 : Hid (W.heap[w.heap.size + 1]? = some (.cells #[.string ⟨#[]⟩, .int .i64 0, .slice none 0 0] 25 (0, 0))) := hide (by rw [hW]; exact at_newB _ _ _ (by simp))
  have hWs : W.heap.size = w.heap.size + 2 := by rw [hW]; simp
  have hbw := hbl.lt
  have HBl := hide (hbl.ext X0.out)
  have HGet : Hid (∀ w', Ext W w' → Hid (Calls Tryz.prog 122 #[.pointer (some ⟨p, 0, none⟩), .int .i64 v] w' fun e w'' => e = .returned (.tuple #[.agg #[.string ⟨#[]⟩, .int .i64 0, .slice none 0 0], .bool false]) ∧ Ext w' w'')) := hide (fun w' e => by
    have := s_get p A cap s v w' (hsub.sub.ext (X0.out.trans e))
    rw [hx] at this
    exact this)
  have HSS := hide (fun w' (e : Ext W w') => And.intro (HBl.out.ext e).c0 ((show w'.cell? ⟨w.heap.size, 1, none⟩ = some (.int .i64 v) from bytes_block ((e.heap (lt_of_obj B1.out)).trans B1.out) 1)))
  have b0 : W.cell? ⟨w.heap.size, 0, none⟩ = some (.string ⟨#[]⟩) := bytes_block B1.out 0
  have hbW : bb < W.heap.size := by omega
  have hNW : w.heap.size < W.heap.size := by omega
  obtain ⟨d0, b1⟩ := HSS.out W (Ext.refl _)
  have n1 : ¬ bb = W.heap.size := by omega
  have n2 : ¬ W.heap.size = bb := by omega
  have n3 : ¬ w.heap.size = W.heap.size := by omega
  have n4 : ¬ W.heap.size = w.heap.size := by omega
  have HWs := hide hWs
  have H := hide ht
  have Hx := hide hx
  have HZ : Hid (szS (vsP s) (tsP s) (.mk [] v TA tc []) = 1 ∧ dpS (vsP s) (tsP s) (.mk [] v TA tc []) = 1 ∧ putP (vsP s) (tsP s) (.mk [] v TA tc []) = (Ty.mk [] v TA tc []).pure) := hide (by
    have hc0 : (Ty.mk [] v TA tc []).con = [] := rfl
    rw [szS_eq, dpS_eq, putP_eq, if_pos hc0, if_pos hc0, if_pos hc0]
    show (match putAt (vsP s) (tsP s) v with | some u => u.size | none => 1) = 1 ∧ (match putAt (vsP s) (tsP s) v with | some u => u.depth | none => 1) = 1 ∧ ((putAt (vsP s) (tsP s) v).getD _).pure = _
    rw [hx]
    exact ⟨rfl, rfl, rfl⟩)
  have hlv : level ≤ 100 := by rw [Ty.depth_eq] at hv1; omega
  have htV : tyV (.mk [] v TA tc []) = .agg #[.string ⟨#[]⟩, .int .i64 v, .slice TA 0 tc] := rfl
  clear hW ht hoff hsub hbl hWs hx hv1
  rw [htV]
  clear htV
  go_enter Tryz.func89, Tryz.ntmps89
  go_upto_region 1 with fail
  rw [HW.out]
  clear HW
  go_upto_region 2 with fail
  go_cut [7, 8] (fun s7 s8 wx => s8 = .bool false ∧ Hid (Ext W wx))
  case first =>
    go_region_held3 (fun w' => w'.cell? ⟨bb, 0, none⟩ = some (.pointer (some ⟨p, 0, none⟩)) ∧ w'.cell? ⟨w.heap.size, 1, none⟩ = some (.int .i64 v)) (first | assumption | go_keep) (first
      | (go_at_call 122
         refine Calls.mono (HGet.out _ ?e).out ?_
         (case e => exact (by repeat (first | exact Ext.refl _ | exact Ext.pre (by simp) | exact Ext.alloc (by assumption) _ | refine Ext.alloc ?_ _ |  refine Ext.more ?_ _ _ | refine Ext.drew ?_ | refine Ext.drewN ?_ _)))
         rintro e y ⟨rfl, hxy⟩
         have kS := HSS.out y (by refine Ext.trans ?_ hxy; exact (by repeat (first | exact Ext.refl _ | exact Ext.pre (by simp) | exact Ext.alloc (by assumption) _ | refine Ext.alloc ?_ _ |  refine Ext.more ?_ _ _ | refine Ext.drew ?_ | refine Ext.drewN ?_ _)))
         (try (have zz := zt hxy (B := W.heap.size) (by first | exact at_newB W _ _ rfl | fail); obtain ⟨z0, z1, z2, z3, z4, z5, z6⟩ := zz))))
    all_goals (go_wp2_with fail; go_meet; first
      | exact ⟨rfl, hide (((Ext.refl W).drew.trans hxy).alloc _)⟩
      | exact ⟨rfl, hide ((zt2 (((Ext.refl W).alloc _).drew) hxy (Nat.le_refl _) (at_newB W _ _ rfl) (.mk [] 0 none 0 [])).1)⟩)
  case rest =>
    obtain ⟨rfl, HX⟩ := hcut
    have HBc := hide (HBl.out.ext HX.out)
    have B1c := hide ((HX.out.heap (lt_of_obj B1.out)).trans B1.out)
    have B2c := hide ((HX.out.heap (lt_of_obj B2.out)).trans B2.out)
    obtain ⟨W8, hW8⟩ : ∃ W8, W8 = wc.setCell ⟨bb, 1, none⟩ (.int .i64 (left - 1)) := ⟨_, rfl⟩
    have HW8 := hide hW8.symm
    have hg8 : wc.grownBy W8 (some bb) := by rw [hW8]; exact grown_cell _ _ _ _
    have HL8 : Hid (BldIn W8 bb p (left - 1)) := hide (by rw [hW8]; exact HBc.out.set _)
    have HG8 : Hid (w.grownBy W8 (some bb)) := hide (grown_trans (ext_grown (X0.out.trans HX.out) _) hg8)
    have B18 := hide ((hg8.block _ (lt_of_obj B1c.out) (fun e => by injection e with e; omega)).trans B1c.out)
    have B28 := hide ((hg8.block _ (lt_of_obj B2c.out) (fun e => by injection e with e; omega)).trans B2c.out)
    have hmk := make_zeros 0 (by omega) W8
    rw [show ((0 : Nat) : Int) = 0 from rfl] at hmk
    obtain ⟨R, hR⟩ : ∃ R, R = W8.heap.size := ⟨_, rfl⟩
    obtain ⟨W1, hW1⟩ : ∃ W1, W1 = W8.alloc (.cells (zerosT 0) 25) := ⟨_, rfl⟩
    have X81 : Hid (Ext W8 W1) := hide (by rw [hW1]; exact (Ext.refl _).alloc _)
    have hRw : w.heap.size ≤ R := by rw [hR]; exact HG8.out.size
    rw [← hR, ← hW1] at hmk
    have HMk := hide hmk
    have c1 := HBc.out.c1
    have c0 := HBc.out.c0
    have f1 := HBc.out.f1
    have hbc := HBc.out.lt
    have e2 : W8.cell? ⟨w.heap.size, 2, none⟩ = some (.slice TA 0 tc) := bytes_block B18.out 2
    clear hW8 hW1 hR hmk hg8 b0 b1 d0
    go_upto_region 9 with fail
    rw [HW8.out]
    have hmk := HMk.out
    have B11 := hide ((X81.out.heap (lt_of_obj B18.out)).trans B18.out)
    have B21 := hide ((X81.out.heap (lt_of_obj B28.out)).trans B28.out)
    have HL1 := hide (HL8.out.ext X81.out)
    have HG1 := hide (grown_trans HG8.out (ext_grown X81.out _))
    have e2' : W1.cell? ⟨w.heap.size, 2, none⟩ = some (.slice TA 0 tc) := bytes_block B11.out 2
    clear c1 c0 f1
    go_wp2
    go_loopw [58] (fun i wr => i = .int .i64 0 ∧ wr = W1) (fun _ _ => 0)
    case atStart => exact ⟨rfl, rfl⟩
    case round =>
      obtain ⟨rfl, rfl⟩ := hrel
      have g0 : wr.cell? ⟨w.heap.size, 0, none⟩ = some (.string ⟨#[]⟩) := bytes_block B11.out 0
      have g1 : wr.cell? ⟨w.heap.size, 1, none⟩ = some (.int .i64 v) := bytes_block B11.out 1
      have fb := free_block B11.out 2
      have f0 := free_block B21.out 0
      have f1 := free_block B21.out 1
      have f2 := free_block B21.out 2
      have k0 := bytes_block B21.out 0
      have k1 := bytes_block B21.out 1
      have k2 := bytes_block B21.out 2
      simp only [List.getElem?_toArray, List.getElem?_cons_zero, List.getElem?_cons_succ] at k0 k1 k2
      have hgA := grown_cell wr w.heap.size 2 (.slice (some ⟨R, 0, none⟩) 0 0)
      have hgB := put3_grown (wr.setCell ⟨w.heap.size, 2, none⟩ (.slice (some ⟨R, 0, none⟩) 0 0)) (w.heap.size + 1) 0 1 2 (.string ⟨#[]⟩) (.int .i64 v) (.slice (some ⟨R, 0, none⟩) 0 0)
      obtain ⟨WF, hWF⟩ : ∃ WF, WF = (((wr.setCell ⟨w.heap.size, 2, none⟩ (.slice (some ⟨R, 0, none⟩) 0 0)).setCell ⟨w.heap.size + 1, 0, none⟩ (.string ⟨#[]⟩)).setCell ⟨w.heap.size + 1, 1, none⟩ (.int .i64 v)).setCell ⟨w.heap.size + 1, 2, none⟩ (.slice (some ⟨R, 0, none⟩) 0 0) := ⟨_, rfl⟩
      have GF : Hid (w.grownBy WF (some bb)) := hide (by rw [hWF]; exact gb_new (gb_new HG1.out hgA (Nat.le_refl _)) hgB (by omega))
      have LF : Hid (BldIn WF bb p (left - 1)) := hide (by rw [hWF]; exact (HL1.out.grown hgA (by omega)).grown hgB (by omega))
      have PF : Hid (PutB w WF bb s (.mk [] v TA tc []) (.mk [] v (some ⟨R, 0, none⟩) 0 []) left level (left - 1)) := hide
        ⟨TyIn.of (Nat.le_refl _) (by omega) (by decide) (RowOf.nil _ _ _) (by simp), awayB_mk (fun hn => absurd rfl hn) (by simp), fun c _ _ => awayB_mk (fun hn => absurd rfl hn) (by simp), by omega, by omega,
          fun _ => ⟨by rw [HZ.out.2.2, Ty.pure_eq, Ty.pure_eq]; rfl, by rw [HZ.out.1]; rfl, by rw [HZ.out.2.1]; omega⟩, fun h => .inl (by rw [HZ.out.1]; omega)⟩
      clear hgA hgB
      go_wp2
      rw [← hWF]
      refine bodyPost_ret (v := .agg #[.string ⟨#[]⟩, .int .i64 v, .slice (some ⟨R, 0, none⟩) 0 0]) ?_ rfl ⟨.mk [] v (some ⟨R, 0, none⟩) 0 [], left - 1, rfl, PF.out, GF.out, LF.out⟩
      rw [hWF]
      simp [results, Tryz.f89, go_sem, k0, k1, k2]

/-- A builder's put, whole. -/
theorem s_put (bb p : Nat) (A : Option Addr) (cap : Nat) (s : List Pr) (t : Ty) : flatB t = true → t.size ≤ 100000 → PutC bb p A cap s t := by
  induction t using Ty.ind with
  | h t ih =>
  intro hf hsz
  by_cases hc : t.con = []
  · cases hx : putAt (vsP s) (tsP s) t.var with
    | some x => exact s_put_hit bb p A cap s t hc x hx
    | none =>
      have ha := flatB_var hf hc
      cases t with
      | mk c v TA tc l =>
      have hc' : c = [] := hc
      have ha' : l = [] := ha
      subst hc' ha'
      exact s_put_miss bb p A cap s v TA tc hx
  · exact s_put_far bb p A cap s t hc (by have := t.args_len; omega) (fun k hk => ih k hk (flatB_arg hf hk) (by have := Ty.size_arg hk; omega))

/-- What Apply tells. -/
structure ApplyOk (w w' : World) (s : List Pr) (t u : Ty) (n : Int) : Prop where
  ty : TyIn w' u
  away : ∀ c, c < w.heap.size → awayB c t = true → awayB c u = true
  no : legalT t = false → n = 1
  yes : legalT t = true → szS (vsP s) (tsP s) t ≤ 4096 ∧ dpS (vsP s) (tsP s) t ≤ 100 → n = 0 ∧ u.pure = putP (vsP s) (tsP s) t
  lim : legalT t = true → ¬ (szS (vsP s) (tsP s) t ≤ 4096 ∧ dpS (vsP s) (tsP s) t ≤ 100) → n = 2
theorem zeroT_in (w : World) : TyIn w (.mk [] 0 none 0 []) := TyIn.of (Nat.le_refl _) (by omega) (by decide) (RowOf.nil _ _ _) (by simp)
theorem zeroT_away (c : Nat) : awayB c (.mk [] 0 none 0 []) = true := awayB_mk (fun hn => absurd rfl hn) (by simp)
theorem build2 (w : World) (bb p : Nat) (h : bb = w.heap.size) : BldIn (w.alloc (.cells #[.pointer (some ⟨p, 0, none⟩), .int .i64 4096] 128)) bb p 4096 := at_newB _ _ _ h

set_option maxRecDepth 10000 in
set_option maxHeartbeats 8000000 in
theorem s_apply (p : Nat) (A : Option Addr) (cap : Nat) (s : List Pr) (t : Ty) (w : World) (hs : SubIn w p A cap s) (hsm : ∀ x ∈ s, legalT x.ty = true) (ht : TyIn w t) (hsz : t.size ≤ 900000) :
    Calls Tryz.prog 58 #[.pointer (some ⟨p, 0, none⟩), tyV t] w fun e w' => (∃ u n, e = .returned (.tuple #[tyV u, .int .i64 n]) ∧ ApplyOk w w' s t u n) ∧ Ext w w' := by
  obtain ⟨W, hW⟩ : ∃ W, W = (w.alloc (.cells #[encStr t.con, .int .i64 t.var, .slice t.A t.args.length t.cap] 25)).alloc (.cells #[.string ⟨#[]⟩, .int .i64 0, .slice none 0 0] 25) := ⟨_, rfl⟩
  have HW := hide hW.symm
  have X0 : Hid (Ext w W) := hide (by rw [hW]; exact ((Ext.refl _).alloc _).alloc _)
  have B1 : Hid (TBox W w.heap.size t) := hide (by rw [hW]; exact (TBox.new w t).ext ((Ext.refl _).alloc _))
  have B2 : Hid (W.heap[w.heap.size + 1]? = some (.cells #[.string ⟨#[]⟩, .int .i64 0, .slice none 0 0] 25 (0, 0))) := hide (by rw [hW]; exact at_newB _ _ _ (by simp))
  have HL := hide (t_legal t W (ht.ext X0.out) (by omega))
  have HS := hide hs
  have HSm := hide hsm
  have H := hide ht
  obtain ⟨a0, a1, a2⟩ := And.intro B1.out.c0 (And.intro B1.out.c1 B1.out.c2)
  clear hW hs hsm ht
  unfold tyV at *
  cases hl : legalT t
  · rw [hl] at HL
    have Hl := hide hl
    clear hl
    go_enter Tryz.func58, Tryz.ntmps58
    go_upto_region 1 with fail
    rw [HW.out]
    go_wp2_with fail
    refine HL.out.mono ?_
    rintro e w2 ⟨rfl, hx2⟩
    have X2 := hide (X0.out.trans hx2)
    have B22 := hide ((hx2.heap (lt_of_obj B2.out)).trans B2.out)
    have f0 := free_block B22.out 0
    have f1 := free_block B22.out 1
    have f2 := free_block B22.out 2
    have k0 := bytes_block B22.out 0
    have k1 := bytes_block B22.out 1
    have k2 := bytes_block B22.out 2
    simp only [List.getElem?_toArray, List.getElem?_cons_zero, List.getElem?_cons_succ] at k0 k1 k2
    clear hx2 a0 a1 a2
    go_wp2
    refine bodyPost_ret (v := .tuple #[.agg #[.string ⟨#[]⟩, .int .i64 0, .slice none 0 0], .int .i64 1]) ?_ rfl ⟨⟨.mk [] 0 none 0 [], 1, rfl, zeroT_in _, fun c _ _ => zeroT_away c, fun _ => rfl, (fun h => by rw [Hl.out] at h; cases h), (fun h => by rw [Hl.out] at h; cases h)⟩, ?_⟩
    · simp [results, Tryz.f58, go_sem, k0, k1, k2]
    · exact ((X2.out.setCell (by simp) _).setCell (by simp) _).setCell (by simp) _
  rw [hl] at HL
  have Hl := hide hl
  have Hfl := hide (flatB_legal hl)
  obtain ⟨l1, l2, -⟩ := legal_parts hl
  clear hl
  go_enter Tryz.func58, Tryz.ntmps58
  go_upto_region 1 with fail
  rw [HW.out]
  go_wp2_with fail
  refine HL.out.mono ?_
  rintro e w2 ⟨rfl, hx2⟩
  have X2 := hide (X0.out.trans hx2)
  have B12 := hide (B1.out.ext hx2)
  have B22 := hide ((hx2.heap (lt_of_obj B2.out)).trans B2.out)
  clear hx2 a0 a1 a2 B1 B2 HL HW
  obtain ⟨W3, hW3⟩ : ∃ W3, W3 = w2.alloc (.cells #[.pointer (some ⟨p, 0, none⟩), .int .i64 4096] 128) := ⟨_, rfl⟩
  have HW3 := hide hW3.symm
  have X23 : Hid (Ext w2 W3) := hide (by rw [hW3]; exact (Ext.refl _).alloc _)
  have hpw := lt_of_obj HS.out.blk
  have hs2 := X2.out.size
  have HB3 : Hid (BldIn W3 w2.heap.size p 4096) := hide (by rw [hW3]; exact build2 w2 _ p rfl)
  have HF3 : Hid (SubFar W3 w2.heap.size p A cap s) := hide ⟨HS.out.ext (X2.out.trans X23.out), by omega, fun hn a ha => by
      obtain ⟨b, o, e, hb, -⟩ := HS.out.prs.row.2 (Nat.pos_of_ne_zero hn)
      rw [e] at ha
      injection ha with ha
      subst ha
      show b ≠ _
      omega, fun x hx => away_new (HS.out.prs.ty x hx) hs2, fun x hx => by obtain ⟨q1, q2, -⟩ := legal_parts (HSm.out x hx); exact ⟨q1, q2⟩⟩
  have HPt := hide (s_put w2.heap.size p A cap s t Hfl.out (by omega) W3 4096 1 (H.out.ext (X2.out.trans X23.out)) (away_new H.out hs2) HF3.out HB3.out (by omega) (by omega) (by omega) (by omega))
  have B13 := hide (B12.out.ext X23.out)
  have B23 := hide ((X23.out.heap (lt_of_obj B22.out)).trans B22.out)
  obtain ⟨a0, a1, a2⟩ := And.intro B13.out.c0 (And.intro B13.out.c1 B13.out.c2)
  have hN : w.heap.size + 1 < w2.heap.size := lt_of_obj B22.out
  clear hW3 B12 B22
  unfold tyV at HPt
  go_upto_region 4 with fail
  rw [HW3.out]
  go_wp2_with fail
  refine HPt.out.mono ?_
  rintro e w4 ⟨u, L, rfl, hu, hg4, hb4⟩
  obtain ⟨W5, hW5⟩ : ∃ W5, W5 = w4.alloc (.cells #[encStr u.con, .int .i64 u.var, .slice u.A u.args.length u.cap] 25) := ⟨_, rfl⟩
  have HW5 := hide hW5.symm
  have X45 : Hid (Ext w4 W5) := hide (by rw [hW5]; exact (Ext.refl _).alloc _)
  have hs3 := X23.out.size
  have X5 : Hid (Ext w W5) := hide (((X2.out.trans X23.out).grown hg4 (fun k e => by injection e with e; omega)).trans X45.out)
  have HB5 := hide (hb4.ext X45.out)
  have B5 : Hid (TBox W5 w4.heap.size u) := hide (by rw [hW5]; exact TBox.new w4 u)
  have B25 := hide ((X45.out.heap (by have := hg4.size; have := lt_of_obj B23.out; omega)).trans ((hg4.block _ (lt_of_obj B23.out) (fun e => by injection e with e; omega)).trans B23.out))
  have Hu := hide hu
  have hWs5 : w.heap.size + 1 < W5.heap.size := lt_of_obj B25.out
  obtain ⟨b0, b1, b2⟩ := And.intro B5.out.c0 (And.intro B5.out.c1 B5.out.c2)
  have c1 := HB5.out.c1
  have hbl := HB5.out.lt
  clear hW5 hu hg4 hb4 a0 a1 a2 HPt B13 B23
  go_upto_region 5 with fail
  rw [HW5.out]
  have f0 := free_block B25.out 0
  have f1 := free_block B25.out 1
  have f2 := free_block B25.out 2
  have k0 := bytes_block B25.out 0
  have k1 := bytes_block B25.out 1
  have k2 := bytes_block B25.out 2
  simp only [List.getElem?_toArray, List.getElem?_cons_zero, List.getElem?_cons_succ] at k0 k1 k2
  by_cases hL : L < 0
  · have HN := hide (Hu.out.no hL)
    go_wp2
    refine bodyPost_ret (v := .tuple #[.agg #[.string ⟨#[]⟩, .int .i64 0, .slice none 0 0], .int .i64 2]) ?_ rfl ⟨⟨.mk [] 0 none 0 [], 2, rfl, zeroT_in _, fun c _ _ => zeroT_away c, (fun h => by rw [Hl.out] at h; cases h), (fun _ h => by rcases HN.out with h1 | h1 <;> omega), fun _ _ => rfl⟩, ?_⟩
    · simp [results, Tryz.f58, go_sem, k0, k1, k2]
    · exact ((X5.out.setCell (by simp) _).setCell (by simp) _).setCell (by simp) _
  · have HY := hide (Hu.out.yes (by omega))
    have HT5 := hide (Hu.out.ty.ext X45.out)
    have hpg := put3_grown W5 (w.heap.size + 1) 0 1 2 (encStr u.con) (.int .i64 u.var) (.slice u.A u.args.length u.cap)
    have HTF := hide (HT5.out.grown hpg (fun c e => by injection e with e; subst e; exact Hu.out.away _ (by have := X23.out.size; omega) (away_new H.out (by omega))))
    clear hpg
    go_wp2
    refine bodyPost_ret (v := .tuple #[.agg #[encStr u.con, .int .i64 u.var, .slice u.A u.args.length u.cap], .int .i64 0]) ?_ rfl ⟨⟨u, 0, rfl, HTF.out, fun c hc h => Hu.out.away c (by have := X23.out.size; omega) h, (fun h => by rw [Hl.out] at h; cases h), fun _ _ => ⟨rfl, HY.out.1⟩, fun _ h => absurd ⟨by have := HY.out.2.1; omega, by have := HY.out.2.2; omega⟩ h⟩, ?_⟩
    · simp [results, Tryz.f58, go_sem, k0, k1, k2]
    · exact ((X5.out.setCell (by simp) _).setCell (by simp) _).setCell (by simp) _

end Go.Proofs.YtmjiljhcjfnfpaaGreat

/- Substitutions at work: predicates with all variables replaced. -/
namespace Go.Proofs.YtmjiljhcjfnfpaaGreat
open Go.RowKit

/-- Some predicates that have been made, away from their own row. -/
structure DpsOk (N : Nat) (w' : World) (row : Option Nat) (s : List Pr) (l ds : List Pd) : Prop where
  away : ∀ d ∈ ds, ∀ c, c < N → (∀ x ∈ l, awayB c x.ty = true) → awayB c d.ty = true
  ty : ∀ d ∈ ds, TyIn w' d.ty
  off : ∀ d ∈ ds, ∀ c, row = some c → awayB c d.ty = true
  is : ds.map (fun d => (d.cls, d.ty.pure)) = l.map fun x => (x.cls, putP (vsP s) (tsP s) x.ty)
theorem DpsOk.len {N : Nat} {w' : World} {row : Option Nat} {s : List Pr} {l ds : List Pd} (h : DpsOk N w' row s l ds) : ds.length = l.length := by simpa using congrArg List.length h.is
/-- May all be put? -/
def putsOk (s : List Pr) (l : List Pd) : Prop := ∀ x ∈ l, legalT x.ty = true ∧ szS (vsP s) (tsP s) x.ty ≤ 4096 ∧ dpS (vsP s) (tsP s) x.ty ≤ 100

set_option maxRecDepth 10000 in
set_option maxHeartbeats 8000000 in
theorem s_preds (p : Nat) (A : Option Addr) (cap : Nat) (s : List Pr) (B : Option Addr) (bc : Nat) (l : List Pd) (w : World) (hs : SubIn w p A cap s) (hsm : ∀ x ∈ s, legalT x.ty = true) (hl : PdsIn w B l) (hlen : l.length ≤ 40000) (hok : putsOk s l) :
    Calls Tryz.prog 59 #[.pointer (some ⟨p, 0, none⟩), .slice B l.length bc] w fun e w' => (∃ v ds, e = .returned (.tuple #[v, .int .i64 0]) ∧ w'.ownsRow w.heap.size 40 4 v ds.length (ds.flatMap pdC.f) ∧ DpsOk w.heap.size w' v.ownBlock s l ds) ∧ Ext w w' := by
  obtain ⟨i0, hi, hz0, hz1, hz2⟩ := info_parts pred_info
  have HS := hide hs
  have HSm := hide hsm
  have HL := hide hl
  have HOk := hide hok
  have HApp := hide (fun (x : Pd) (hx : x ∈ l) w' (e : Ext w w') => hide (s_apply p A cap s x.ty w' (hs.ext e) hsm ((hl.all x hx).ty.ext e) (by have := (legal_parts (hok x hx).1).1; omega)))
  clear hs hsm hl hok
  go_enter Tryz.func59, Tryz.ntmps59
  go_wp2
  go_loopw [6, 13] (fun v i wr => ∃ (k : Nat) (ds : List Pd), k ≤ l.length ∧ i = .int .i64 k ∧ Hid (Ext w wr) ∧ Hid (wr.ownsRow w.heap.size 40 4 v ds.length (ds.flatMap pdC.f)) ∧ Hid (DpsOk w.heap.size wr v.ownBlock s (l.take k) ds)) (fun _ i _ => l.length - (intOf i).toNat)
  case atStart => exact ⟨0, [], Nat.zero_le _, rfl, hide (Ext.refl _), hide (World.ownsRow_nil _ _ _ _), hide ⟨by simp, by simp, by simp, rfl⟩⟩
  case round =>
    obtain ⟨k, ds, hk, rfl, HX, HO, HD⟩ := hrel
    by_cases hlt : k < l.length
    · have hlt' : (k : Int) < (l.length : Int) := by omega
      have hk0 : (0 : Int) ≤ (k : Int) := by omega
      obtain ⟨b, o, rfl, hb, q0, q1, q2, q3⟩ := (HL.out.ext HX.out).at_ hlt
      have hm := List.getElem_mem hlt
      have HAx := hide (HApp.out _ hm)
      have Hx := hide (HL.out.all _ hm)
      have Hpo := hide (HOk.out _ hm)
      have Htk : Hid (l.take (k + 1) = l.take k ++ [l[k]'hlt]) := hide (List.take_succ_eq_append_getElem hlt)
      have hdl : ds.length ≤ 40000 := by have := HD.out.len; rw [List.length_take] at this; omega
      generalize l[k]'hlt = x at *
      clear hm
      unfold tyV at HAx
      go_wp2_with fail
      refine (HAx.out _ (HX.out.alloc _)).out.mono ?_
      rintro e w3 ⟨⟨u, n, rfl, hu⟩, hx3⟩
      obtain ⟨rfl, hup⟩ := hu.yes Hpo.out.1 Hpo.out.2
      have Hu := hide hu
      have Hup := hide hup
      have X3 := hide ((HX.out.alloc _).trans hx3)
      have Xr3 := hide ((Ext.refl wr).alloc _ |>.trans hx3)
      have hb8 : Hid (w3.heap[wr.heap.size]? = some (.cells #[encStr x.cls, encStr x.ty.con, .int .i64 x.ty.var, .slice x.ty.A x.ty.args.length x.ty.cap] 40 (0, 0))) := hide ((hx3.heap (by simp)).trans (at_newB wr _ _ rfl))
      have c0 : w3.cell? ⟨wr.heap.size, 0, none⟩ = some (encStr x.cls) := bytes_block hb8.out 0
      have hlt8 := lt_of_obj hb8.out
      clear hu hup hx3
      go_wp2_with (at_builtin; refine wpList_append_row _ rfl _ _ 22 rfl w.heap.size 40 i0 _ 4 64 Tryz.underlying22 hi hz0 hz1 hz2 rfl (by decide) u6 ds.length (ds.flatMap pdC.f) rfl (own_extB HO.out ?c1) (some ⟨w3.heap.size + 1, 0, none⟩) 1 1 (pdC.f (Pd.mk x.cls u)) rfl ?c2 ?c3 ?c4 ?c5 ?c6 ?_)
      case c1 => exact (Xr3.out.alloc _).alloc _
      case c2 => exact pd_row1 (at_newB _ _ _ (by simp))
      case c3 => have := one_pds [Pd.mk x.cls u]; simpa using this
      case c4 => unfold maxLen; omega
      case c5 => omega
      case c6 => exact Nat.le_trans X3.out.size (by simp; omega)
      intro v5 w5 hown5 hg5 hor5
      have X5 := hide (Ext.app ((X3.out.alloc _).alloc _) hg5 (own_extB HO.out ((Xr3.out.alloc _).alloc _)) (Nat.le_refl _))
      have O5 : Hid (w5.ownsRow w.heap.size 40 4 v5 (ds ++ [Pd.mk x.cls u]).length ((ds ++ [Pd.mk x.cls u]).flatMap pdC.f)) := hide (by rw [List.length_append, List.flatMap_append]; simpa using hown5)
      have D5 : Hid (DpsOk w.heap.size w5 v5.ownBlock s (l.take (k + 1)) (ds ++ [Pd.mk x.cls u])) := hide (by
        have hlo := fun c (hc : u6.ownBlock = some c) => HO.out.lt c hc
        have hau : ∀ c, u6.ownBlock = some c → awayB c u = true := fun c hc => Hu.out.away c (by have := (hlo c hc).2; simp; omega) (away_new Hx.out.ty (hlo c hc).1)
        have hty : ∀ d ∈ ds ++ [Pd.mk x.cls u], TyIn ((w3.alloc (.cells #[encStr u.con, .int .i64 u.var, .slice u.A u.args.length u.cap] 25)).alloc (.cells (pdC.f (Pd.mk x.cls u)).toArray 40)) d.ty ∧ ∀ c, u6.ownBlock = some c → awayB c d.ty = true := by
          intro d hd
          rcases List.mem_append.1 hd with hd | hd
          · exact ⟨(HD.out.ty d hd).ext ((Xr3.out.alloc _).alloc _), fun c hc => HD.out.off d hd c hc⟩
          · rw [List.mem_singleton] at hd
            subst hd
            exact ⟨Hu.out.ty.ext (((Ext.refl _).alloc _).alloc _), hau⟩
        refine ⟨fun d hd c hc hx => ?_, fun d hd => (hty d hd).1.grown hg5 (hty d hd).2, fun d hd c hc => ?_, ?_⟩
        · rw [Htk.out] at hx
          rcases List.mem_append.1 hd with hd | hd
          · exact HD.out.away d hd c hc (fun y hy => hx y (List.mem_append.2 (.inl hy)))
          · rw [List.mem_singleton] at hd
            subst hd
            exact Hu.out.away c (by have := HX.out.size; simp; omega) (hx x (by simp))
        · rcases hor5 with h1 | h1
          · exact (hty d hd).2 c (h1 ▸ hc)
          · rw [h1] at hc; injection hc with hc; exact away_new (hty d hd).1 (by simp; omega)
        · rw [Htk.out, List.map_append, List.map_append, HD.out.is]
          simp [Hup.out])
      clear hown5 hg5 hor5
      go_wp2
      go_roundw
      case rel => exact ⟨k + 1, _, hlt, by go_num, X5, O5, D5⟩
      case measure => simp [intOf]; omega
    · have hge : ¬ (k : Int) < (l.length : Int) := by omega
      have HDd : Hid (DpsOk w.heap.size wr u6.ownBlock s l ds) := hide (by have := HD.out; rwa [List.take_of_length_le (by omega)] at this)
      go_wp2
      go_ret2
      exact ⟨⟨_, rfl, ds, HO.out, HDd.out⟩, HX.out⟩

end Go.Proofs.YtmjiljhcjfnfpaaGreat

/- Contract: a type and predicates with other variables, which a function value tells one by one (scheme's renamed). -/
namespace Go.Proofs.YtmjiljhcjfnfpaaGreat
open Go.RowKit Go.Shelf

/-- A function value tells, of the variables L one by one, what R says; it writes no more than one box. -/
structure TellsR (f : FuncId) (lb : Array Value) (L R : List Int) (St : Nat → World → Prop) (bn N0 : Nat) : Prop where
  op : Opens f
  step : ∀ k (hk : k < L.length) w, St k w → Calls Tryz.prog f (#[.int .i64 (L[k]'hk)] ++ lb) w fun e w' => e = .returned (.int .i64 (R.getD k 0)) ∧ St (k + 1) w' ∧ w.grownBy w' (some bn)
  keep : ∀ k w w', St k w → Below N0 w w' → St k w'
  lt : bn < N0
theorem sv_mem (t : Ty) (l : List Pd) : (∀ v ∈ t.vars, v ∈ sVars t l) ∧ ∀ x ∈ l, ∀ v ∈ x.ty.vars, v ∈ sVars t l := by
  have h : ∀ x ∈ (⟨[], t⟩ :: l : List Pd), ∀ v ∈ x.ty.vars, v ∈ sVars t l := fun x hx v hv =>
    (onceI_mem _ _).2 (List.mem_flatten.2 ⟨_, List.mem_map.2 ⟨x, hx, rfl⟩, (onceI_mem _ _).2 hv⟩)
  exact ⟨h ⟨[], t⟩ (by simp), fun x hx => h x (List.mem_cons_of_mem _ hx)⟩
theorem szS_ren (vars : List Int) (types : List Ty) (r : Int → Int) (t : Ty) : flatB t = true → (∀ v ∈ t.vars, (putAt vars types v).map Ty.pure = some (.mk [] (r v) [])) → szS vars types t = t.size ∧ dpS vars types t = t.depth := by
  induction t using Ty.ind with
  | h t ih =>
  intro hf h
  rw [szS_eq, dpS_eq, Ty.size_eq t, Ty.depth_eq t]
  rw [vars_eq] at h
  by_cases hc : t.con = []
  · rw [if_pos hc, if_pos hc]
    have := h t.var (by rw [if_pos hc]; simp)
    cases e : putAt vars types t.var with
    | none => rw [e] at this; cases this
    | some u =>
      rw [e] at this
      have hu : u.pure = .mk [] (r t.var) [] := by simpa using this
      rw [Ty.pure_eq u] at hu
      injection hu with _ _ hu
      have ha : u.args = [] := by simpa using hu
      rw [flatB_var hf hc]
      show u.size = _ ∧ u.depth = _
      rw [Ty.size_eq u, Ty.depth_eq u, ha]
      exact ⟨rfl, rfl⟩
  · rw [if_neg hc, if_neg hc]
    have hk : ∀ k ∈ t.args, szS vars types k = k.size ∧ dpS vars types k = k.depth := fun k hk => ih k hk (flatB_arg hf hk) (fun v hv => h v (List.mem_append.2 (.inr (List.mem_flatten.2 ⟨_, List.mem_map.2 ⟨k, hk, rfl⟩, hv⟩))))
    rw [List.map_congr_left (fun k hk' => (hk k hk').1), List.map_congr_left (fun k hk' => (hk k hk').2)]
    exact ⟨rfl, rfl⟩
theorem SetsTo.small {s : List Pr} {L R : List Int} (h : SetsTo s L R L.length) {t : Ty} (hl : legalT t = true) (ht : ∀ v ∈ t.vars, v ∈ L) : szS (vsP s) (tsP s) t ≤ 4096 ∧ dpS (vsP s) (tsP s) t ≤ 100 := by
  obtain ⟨h1, h2⟩ := szS_ren (vsP s) (tsP s) (rOf L R) t (flatB_legal hl) (fun v hv => by rw [h.at_, List.take_length, if_pos (ht v hv)])
  obtain ⟨h3, h4, -⟩ := legal_parts hl
  omega
theorem gb_ap2 {w a b : World} {bn p : Nat} {v v' : Value} (h : w.grownBy a (some bn)) (k : Ap2 p a v b v') (hp : w.heap.size ≤ p) (hv : ∀ c, v.ownBlock = some c → w.heap.size ≤ c) : w.grownBy b (some bn) :=
  ⟨k.os.trans h.os, k.tape.trans h.tape, k.output.trans h.output, Nat.le_trans h.size k.size, fun j hj hne => (k.block j (Nat.lt_of_lt_of_le hj h.size) (by omega) (fun e => by have := hv j e; omega)).trans (h.block j hj hne)⟩
theorem row_ap2 {w w' : World} {A : Option Addr} {k n p : Nat} {l : List Value} {v v' : Value} (h : Row w A k n l) (a : Ap2 p w v w' v') (hp : n ≠ 0 → ∀ c o, A = some ⟨c, o, none⟩ → c ≠ p ∧ v.ownBlock ≠ some c) : Row w' A k n l := by
  refine ⟨h.1, fun hn => ?_⟩
  obtain ⟨b, o, e, hb, hc⟩ := h.2 hn
  obtain ⟨h1, h2⟩ := hp (by omega) b o e
  have hx := a.block b hb h1 h2
  exact ⟨b, o, e, Nat.lt_of_lt_of_le hb a.size, fun j u hu => (World.cell?_of_block hx).trans (hc j u hu)⟩
theorem own_low {w : World} {base base' : Nat} {e : TypeId} {size : Nat} {v : Value} {n : Nat} {xs : List Value} (h : w.ownsRow base e size v n xs) (hb : base' ≤ base) : w.ownsRow base' e size v n xs := by
  rcases h with ⟨h1, h2 | ⟨g, cap, cur, he, hg, h3⟩⟩
  · exact ⟨h1, .inl h2⟩
  · exact ⟨h1, .inr ⟨g, cap, cur, he, Nat.le_trans hb hg, h3⟩⟩
/-- What renamed tells. -/
structure RenOk (w w' : World) (L R : List Int) (t u : Ty) (l ds : List Pd) (v : Value) : Prop where
  ty : TyIn w' u
  is : u.pure = renP (rOf L R) t
  away : ∀ c, c < w.heap.size → awayB c t = true → awayB c u = true
  own : w'.ownsRow w.heap.size 40 4 v ds.length (ds.flatMap pdC.f)
  dty : ∀ d ∈ ds, TyIn w' d.ty
  dis : ds.map (fun d => (d.cls, d.ty.pure)) = l.map fun x => (x.cls, renP (rOf L R) x.ty)
  daway : ∀ d ∈ ds, ∀ c, c < w.heap.size → (∀ x ∈ l, awayB c x.ty = true) → awayB c d.ty = true
  doff : ∀ d ∈ ds, ∀ c, v.ownBlock = some c → awayB c d.ty = true
/-- How a round of renamed finds things. -/
structure RenSt (w wr : World) (bn p : Nat) (A3 : Option Addr) (L R : List Int) (t : Ty) (k : Nat) (s : List Pr) (v : Value) : Prop where
  sub : SubOwn wr (w.heap.size + 2) p v s
  sets : SetsTo s L R k
  awn : ∀ x ∈ s, awayB bn x.ty = true
  row : Ints wr A3 L
  off : L.length ≠ 0 → ∀ c o, A3 = some ⟨c, o, none⟩ → c ≠ p ∧ v.ownBlock ≠ some c ∧ w.heap.size + 2 ≤ c
  g : w.grownBy wr (some bn)
  box : TBox wr w.heap.size t
  zero : wr.heap[w.heap.size + 1]? = some (.cells #[.string ⟨#[]⟩, .int .i64 0, .slice none 0 0] 25 (0, 0))
theorem RenSt.step {w wr w4 w5 : World} {bn p : Nat} {A3 : Option Addr} {L R : List Int} {t : Ty} {k : Nat} {s : List Pr} {v v' : Value} {i : Nat} {t' : Ty} (h : RenSt w wr bn p A3 L R t k s v) (hk : k < L.length) (hn : L.Nodup) (hbn : bn < w.heap.size)
    (hg4 : wr.grownBy w4 (some bn)) (hl : LbP s (L[k]'hk) i) (ht : t'.pure = .mk [] (R.getD k 0) []) (hs5 : SubOwn w5 (w.heap.size + 2) p v' (insP s i (L[k]'hk) t')) (ha5 : Ap2 p w4 v w5 v') (haw : ∀ c, c < w4.heap.size → awayB c t' = true) : RenSt w w5 bn p A3 L R t (k + 1) (insP s i (L[k]'hk) t') v' := by
  have hp := h.sub.hB
  have hv := h.sub.ge
  have hsz := h.g.size
  have hsz4 := hg4.size
  have hblk : ∀ j, w.heap.size ≤ j → j < w.heap.size + 2 → j < wr.heap.size → w5.heap[j]? = wr.heap[j]? := fun j h1 h2 h3 =>
    (ha5.block j (by omega) (by omega) (fun e => by have := hv j e; omega)).trans (hg4.block j h3 (fun e => by injection e with e; omega))
  refine ⟨hs5, h.sets.snoc hn hk hl ht, fun x hx => ?_, row_ap2 (row_grown h.row hg4 (fun hn0 a e e2 => ?_)) ha5 (fun hn0 c o e => ⟨(h.off hn0 c o e).1, (h.off hn0 c o e).2.1⟩), fun hn0 c o e => ?_, gb_ap2 (grown_trans h.g hg4) ha5 (by omega) (fun c hc => by have := hv c hc; omega), (hblk _ (Nat.le_refl _) (by omega) h.box.lt).trans h.box, (hblk _ (by omega) (by omega) (lt_of_obj h.zero)).trans h.zero⟩
  · rcases insP_mem.1 hx with rfl | hx
    · exact haw bn (by omega)
    · exact h.awn x hx
  · obtain ⟨b, o, e3, hb, -⟩ := h.row.2 (by omega)
    rw [e3] at e
    injection e with e
    subst e
    have := (h.off hn0 b o e3).2.2
    injection e2 with e2
    have e2 : bn = b := e2
    omega
  · obtain ⟨h1, h2, h3⟩ := h.off hn0 c o e
    refine ⟨h1, fun e2 => ?_, h3⟩
    rcases ha5.own with h4 | h4
    · exact h2 (h4 ▸ e2)
    · obtain ⟨b, o', e3, hb, -⟩ := h.row.2 (by omega)
      rw [e3] at e
      injection e with e
      injection e with e _
      subst e
      have := h4 _ e2
      omega

set_option maxRecDepth 10000 in
set_option maxHeartbeats 8000000 in
theorem sc_renamed (f : FuncId) (lb : Array Value) (bn : Nat) (R : List Int) (St : Nat → World → Prop) (t : Ty) (A : Option Addr) (cap : Nat) (l : List Pd) (w : World) (hT : TellsR f lb (sVars t l) R St bn w.heap.size) (hSt : St 0 w) (ht : TyIn w t) (hl : PdsIn w A l)
    (hlen : l.length ≤ 40000) (hsz : t.size + psz l ≤ 50000) (htl : legalT t = true) (hll : ∀ x ∈ l, legalT x.ty = true) (htb : awayB bn t = true) (hlb : ∀ x ∈ l, awayB bn x.ty = true) (hAb : l.length ≠ 0 → ∀ a, A = some a → a.block ≠ bn) :
    Calls Tryz.prog 36 #[tyV t, .slice A l.length cap, .func (.func f) #[] lb] w fun e w' => ∃ u v ds, e = .returned (.tuple #[tyV u, v]) ∧ RenOk w w' (sVars t l) R t u l ds v ∧ St (sVars t l).length w' ∧ w.grownBy w' (some bn) := by
  obtain ⟨W, hW⟩ : ∃ W, W = (w.alloc (.cells #[encStr t.con, .int .i64 t.var, .slice t.A t.args.length t.cap] 25)).alloc (.cells #[.string ⟨#[]⟩, .int .i64 0, .slice none 0 0] 25) := ⟨_, rfl⟩
  have HW := hide hW.symm
  have X0 : Hid (Ext w W) := hide (by rw [hW]; exact ((Ext.refl _).alloc _).alloc _)
  have B1 : Hid (TBox W w.heap.size t) := hide (by rw [hW]; exact (TBox.new w t).ext ((Ext.refl _).alloc _))
  have B2 : Hid (W.heap[w.heap.size + 1]? = some (.cells #[.string ⟨#[]⟩, .int .i64 0, .slice none 0 0] 25 (0, 0))) := hide (by rw [hW]; exact at_newB _ _ _ (by simp))
  have hWs : W.heap.size = w.heap.size + 2 := by rw [hW]; simp
  have HN := hide (s_new W)
  have HV := hide (fun w' (e : Ext W w') => hide (s_varsO t A cap l w' (ht.ext (X0.out.trans e)) (hl.ext (X0.out.trans e)) hlen hsz))
  have hVl : (sVars t l).length ≤ 50000 := Nat.le_trans (sVars_len t l) hsz
  have HM := hide (sv_mem t l)
  have HNd := hide (sVars_nodup t l)
  have HT := hide hT
  have HSt := hide hSt
  have H := hide ht
  have HL := hide hl
  have Htl := hide htl
  have Hll := hide hll
  have Htb := hide htb
  have Hlb := hide hlb
  have HAb := hide hAb
  have hbn := hT.lt
  have ef := hT.op
  unfold Opens at ef
  have HWs := hide hWs
  rw [hWs] at HN
  generalize sVars t l = L at *
  clear hW hT hSt ht hl htl hll htb hlb hAb hWs
  unfold tyV at *
  go_enter Tryz.func36, Tryz.ntmps36
  go_upto_region 1 with fail
  rw [HW.out]
  clear HW
  go_wp2_with fail
  refine HN.out.mono ?_
  rintro e w2 ⟨rfl, hS2, hx2⟩
  have HS2 := hide hS2
  have X2 := hide hx2
  have B12 := hide (B1.out.ext hx2)
  obtain ⟨a0, a1, a2⟩ := And.intro B12.out.c0 (And.intro B12.out.c1 B12.out.c2)
  have hlt2 := B12.out.lt
  clear hS2 hx2 HN
  go_wp2_with fail
  refine (HV.out _ X2.out).out.mono ?_
  rintro e w3 ⟨⟨A3, c3, rfl, r1, r2, r3, r4⟩, hx3⟩
  have hp2 := HS2.out.lt
  have h0 : Hid (RenSt w w3 bn (w.heap.size + 2) A3 L R t 0 [] (.slice none 0 0)) := hide
    ⟨HS2.out.ext hx3, SetsTo.nil L R, by simp, r3, fun _ c o e => ⟨by have := r4 c o e; omega, (fun h => by cases h), by have := r4 c o e; omega⟩, ext_grown (X0.out.trans (X2.out.trans hx3)) _, B12.out.ext hx3, (hx3.heap (by omega)).trans ((X2.out.heap (lt_of_obj B2.out)).trans B2.out)⟩
  have HSt3 := hide (HT.out.keep 0 w w3 HSt.out (X0.out.trans (X2.out.trans hx3)).below)
  clear r3 r4 hx3 a0 a1 a2 HV HSt HS2 B12 B1 B2
  go_wp2
  go_loopw [20] (fun i wr => ∃ (k : Nat) (s : List Pr) (v : Value), k ≤ L.length ∧ i = .int .i64 k ∧ Hid (RenSt w wr bn (w.heap.size + 2) A3 L R t k s v) ∧ Hid (St k wr)) (fun i _ => L.length - (intOf i).toNat)
  case atStart => exact ⟨0, [], _, Nat.zero_le _, rfl, h0, HSt3⟩
  case round =>
    obtain ⟨k, s, v, hk, rfl, HR, HSk⟩ := hrel
    by_cases hlt : k < L.length
    · have hlt' : (k : Int) < (L.length : Int) := by omega
      have hk0 : (0 : Int) ≤ (k : Int) := by omega
      obtain ⟨b, o, rfl, hb, q0⟩ := Ints.at_ HR.out.row hlt
      have HC := hide (HT.out.step k hlt wr HSk.out)
      have Hst := hide (fun (w4 w5 : World) (i : Nat) (t' : Ty) (v' : Value) => RenSt.step (w4 := w4) (w5 := w5) (i := i) (t' := t') (v' := v') HR.out hlt HNd.out hbn)
      have Hno := hide (fun i => HR.out.sets.no HNd.out hlt (i := i))
      have hsl := HR.out.sets.len
      have HSet := hide (fun w4 (g4 : wr.grownBy w4 (some bn)) => hide (s_set (w.heap.size + 2) (w.heap.size + 2) v s (L[k]'hlt) (.mk [] (R.getD k 0) none 0 []) w4 (HR.out.sub.grown g4 (by omega) (fun e => by have := HR.out.sub.ge _ e; omega) HR.out.awn) (TyIn.of (Nat.le_refl _) (by omega) (by decide) (RowOf.nil _ _ _) (by simp)) (by rw [Ty.size_eq]; show 0 + 1 ≤ _; omega) (legal_var _ _ _) (by omega) (fun i hi => Hno.out i hi)))
      have Hge := hide (fun c (hc : v.ownBlock = some c) => HR.out.sub.ge c hc)
      have hszr := HR.out.g.size
      generalize L[k]'hlt = x at *
      generalize R.getD k 0 = y at *
      unfold tyV at HSet
      go_wp2_with fail
      refine HC.out.mono ?_
      rintro e w4 ⟨rfl, hS4, hg4⟩
      have HS4 := hide hS4
      have HG4 := hide hg4
      have HSx := HSet.out w4 hg4
      clear hS4 hg4 HC
      go_wp2_with fail
      refine HSx.out.mono ?_
      rintro e w5 ⟨rfl, i, v', t', hlb', hti, hs5, ha5, haw5⟩
      have hBe : Below w.heap.size w4 w5 := ha5.below (by have := HG4.out.size; omega) (by omega) (fun c hc => by have := Hge.out c hc; omega)
      have HS5 := hide (HT.out.keep (k + 1) w4 w5 HS4.out hBe)
      have HR5 := hide (Hst.out w4 w5 i t' v' HG4.out hlb' (by rw [hti, Ty.pure_eq]; rfl) hs5 ha5 haw5)
      clear hlb' hti hs5 ha5 haw5 hBe
      go_wp2
      go_roundw
      case rel => exact ⟨k + 1, _, v', hlt, by go_num, HR5, HS5⟩
      case measure => simp [intOf]; omega
    · have hge : ¬ (k : Int) < (L.length : Int) := by omega
      obtain rfl : k = L.length := by omega
      obtain ⟨A9, c9, rfl, hsub⟩ := HR.out.sub.sub
      have HSub := hide hsub
      have HTr := hide (H.out.gb HR.out.g Htb.out)
      have HLr : Hid (PdsIn wr A l) := hide ⟨row_grown HL.out.row HR.out.g (fun hn a e e2 => by injection e2 with e2; exact HAb.out hn a e e2.symm), fun x hx => ⟨(HL.out.all x hx).cls, (HL.out.all x hx).ty.gb HR.out.g (Hlb.out x hx)⟩⟩
      have HAp := hide (s_apply (w.heap.size + 2) A9 c9 s t wr hsub HR.out.sets.legal HTr.out (by have := (legal_parts Htl.out).1; omega))
      have HPo : Hid (putsOk s l) := hide (fun x hx => ⟨Hll.out x hx, HR.out.sets.small (Hll.out x hx) (HM.out.2 x hx)⟩)
      have HPd := hide (fun w' (e : Ext wr w') => hide (s_preds (w.heap.size + 2) A9 c9 s A cap l w' (hsub.ext e) HR.out.sets.legal (HLr.out.ext e) hlen HPo.out))
      obtain ⟨a0, a1, a2⟩ := And.intro HR.out.box.c0 (And.intro HR.out.box.c1 HR.out.box.c2)
      have hltb := HR.out.box.lt
      clear hsub
      unfold tyV at HAp
      go_wp2_with fail
      refine HAp.out.mono ?_
      rintro e w5 ⟨⟨u, n, rfl, hu⟩, hx5⟩
      obtain ⟨rfl, hup⟩ := hu.yes Htl.out (HR.out.sets.small Htl.out HM.out.1)
      have Hu := hide hu
      have Hup : Hid (u.pure = renP (rOf L R) t) := hide (by rw [hup]; exact HR.out.sets.put t HM.out.1)
      have X5 := hide hx5
      clear hu hup hx5 a0 a1 a2 HAp
      obtain ⟨W6, hW6⟩ : ∃ W6, W6 = w5.alloc (.cells #[encStr u.con, .int .i64 u.var, .slice u.A u.args.length u.cap] 25) := ⟨_, rfl⟩
      have HW6 := hide hW6.symm
      have X56 : Hid (Ext w5 W6) := hide (by rw [hW6]; exact (Ext.refl _).alloc _)
      have B6 : Hid (TBox W6 w5.heap.size u) := hide (by rw [hW6]; exact TBox.new w5 u)
      clear hW6
      go_upto_region 8 with fail
      rw [HW6.out]
      clear HW6
      go_wp2_with fail
      refine (HPd.out _ (X5.out.trans X56.out)).out.mono ?_
      rintro e w7 ⟨⟨v7, ds, rfl, ho7, hd7⟩, hx7⟩
      obtain ⟨A7, c7, rfl, -, -, -, -⟩ := RowOf.own pdC ho7
      have HO7 := hide ho7
      have HD7 := hide hd7
      have B67 := hide (B6.out.ext hx7)
      have X7 := hide ((X5.out.trans X56.out).trans hx7)
      have BZ := hide ((X7.out.heap (lt_of_obj HR.out.zero)).trans HR.out.zero)
      obtain ⟨b0, b1, b2⟩ := And.intro B67.out.c0 (And.intro B67.out.c1 B67.out.c2)
      have hlt6 := B67.out.lt
      have f0 := free_block BZ.out 0
      have f1 := free_block BZ.out 1
      have f2 := free_block BZ.out 2
      have k0 := bytes_block BZ.out 0
      have k1 := bytes_block BZ.out 1
      have k2 := bytes_block BZ.out 2
      simp only [List.getElem?_toArray, List.getElem?_cons_zero, List.getElem?_cons_succ] at k0 k1 k2
      have hrs := HR.out.g.size
      have hzl := lt_of_obj HR.out.zero
      have hs6 := X56.out.size
      have hs5 := X5.out.size
      have hpg := put3_grown w7 (w.heap.size + 1) 0 1 2 (encStr u.con) (.int .i64 u.var) (.slice u.A u.args.length u.cap)
      have HF : Hid (RenOk w (((w7.setCell ⟨w.heap.size + 1, 0, none⟩ (encStr u.con)).setCell ⟨w.heap.size + 1, 1, none⟩ (.int .i64 u.var)).setCell ⟨w.heap.size + 1, 2, none⟩ (.slice u.A u.args.length u.cap)) L R t u l ds (.slice A7 ds.length c7)) := hide
        ⟨((Hu.out.ty.ext X56.out).ext hx7).grown hpg (fun c e => by injection e with e; subst e; exact Hu.out.away _ hzl (away_new H.out (by omega))), Hup.out, fun c hc h => Hu.out.away c (by omega) h,
          (own_low ho7 (by omega)).kept hpg (.inr (fun e => by have := (ho7.lt _ e).1; omega)), fun d hd => (hd7.ty d hd).grown hpg (fun c e => by injection e with e; subst e; exact hd7.away d hd _ (by omega) (fun x hx => away_new (HL.out.all x hx).ty (by omega))),
          by rw [hd7.is]; exact List.map_congr_left (fun x hx => by rw [HR.out.sets.put x.ty (HM.out.2 x hx)]), fun d hd c hc h => hd7.away d hd c (by omega) h, hd7.off⟩
      have hBF : Below w.heap.size wr (((w7.setCell ⟨w.heap.size + 1, 0, none⟩ (encStr u.con)).setCell ⟨w.heap.size + 1, 1, none⟩ (.int .i64 u.var)).setCell ⟨w.heap.size + 1, 2, none⟩ (.slice u.A u.args.length u.cap)) :=
        (((X7.out.below.mono (by omega)).setCell (by simp) _).setCell (by simp) _).setCell (by simp) _
      have HSF := hide (HT.out.keep L.length wr _ HSk.out hBF)
      have HGF := hide (gb_new (grown_trans HR.out.g (ext_grown X7.out _)) hpg (by omega))
      clear ho7 hd7 hx7 hpg hBF
      go_wp2
      refine bodyPost_ret (v := .tuple #[.agg #[encStr u.con, .int .i64 u.var, .slice u.A u.args.length u.cap], .slice A7 ds.length c7]) ?_ rfl ⟨u, _, ds, rfl, HF.out, HSF.out, HGF.out⟩
      simp [results, Tryz.f36, go_sem, k0, k1, k2]

end Go.Proofs.YtmjiljhcjfnfpaaGreat

/- Types with other names for variables: a type's shape, and its variables in order. Plain. -/
namespace Go.Proofs.YtmjiljhcjfnfpaaGreat
open Go.RowKit

/-- A type but for its variables. -/
noncomputable def skT (t : Ty) : Ty.Pure := renP (fun _ => 0) t
theorem ren_congr (r r' : Int → Int) (t : Ty) : (∀ v ∈ t.vars, r v = r' v) → renP r t = renP r' t := by
  induction t using Ty.ind with
  | h t ih =>
  intro h
  rw [renP_eq, renP_eq]
  rw [vars_eq] at h
  by_cases hc : t.con = []
  · rw [if_pos hc, if_pos hc, h t.var (by rw [if_pos hc]; simp)]
  · rw [if_neg hc, if_neg hc, List.map_congr_left (fun k hk => ih k hk (fun v hv => h v (List.mem_append.2 (.inr (List.mem_flatten.2 ⟨_, List.mem_map.2 ⟨k, hk, rfl⟩, hv⟩)))))]
/-- What a type's variables make of lists. -/
theorem app_split {α : Type} {a b c d : List α} (h : a.length = c.length) : a ++ b = c ++ d ↔ a = c ∧ b = d := by
  constructor
  · intro e
    exact List.append_inj e h
  · rintro ⟨rfl, rfl⟩
    rfl
noncomputable def allV (l : List Ty) : List Int := (l.map Ty.vars).flatten
theorem allV_cons (t : Ty) (l : List Ty) : allV (t :: l) = t.vars ++ allV l := rfl
/-- Two types with other names are the same just if their shapes are, and their variables are with these names. -/
def RenI (t : Ty) : Prop := ∀ (u : Ty), flatB u = true → (∀ r r', renP r t = renP r' u ↔ skT t = skT u ∧ t.vars.map r = u.vars.map r') ∧ (skT t = skT u → t.vars.length = u.vars.length)
theorem rens_iff (l : List Ty) (h : ∀ t ∈ l, RenI t) : ∀ m : List Ty, (∀ u ∈ m, flatB u = true) → (∀ r r', l.map (renP r) = m.map (renP r') ↔ l.map skT = m.map skT ∧ (allV l).map r = (allV m).map r') ∧ (l.map skT = m.map skT → (allV l).length = (allV m).length) := by
  induction l with
  | nil =>
    intro m _
    cases m with
    | nil => exact ⟨fun r r' => by simp [allV], fun _ => rfl⟩
    | cons u m => exact ⟨fun r r' => by simp, fun h => by simp at h⟩
  | cons t l ih =>
    intro m hm
    cases m with
    | nil => exact ⟨fun r r' => by simp, fun h => by simp at h⟩
    | cons u m =>
      obtain ⟨h1, h2⟩ := h t (by simp) u (hm u (by simp))
      obtain ⟨h3, h4⟩ := ih (fun t ht => h t (by simp [ht])) m (fun u hu => hm u (by simp [hu]))
      refine ⟨fun r r' => ?_, fun e => ?_⟩
      · rw [List.map_cons, List.map_cons, List.map_cons, List.map_cons, List.cons.injEq, List.cons.injEq, h1 r r', h3 r r', allV_cons, allV_cons, List.map_append, List.map_append]
        constructor
        · rintro ⟨⟨a, b⟩, c, d⟩
          exact ⟨⟨a, c⟩, by rw [b, d]⟩
        · rintro ⟨⟨a, c⟩, e⟩
          obtain ⟨b, d⟩ := (app_split (by simpa using h2 a)).1 e
          exact ⟨⟨a, b⟩, c, d⟩
      · rw [List.map_cons, List.map_cons, List.cons.injEq] at e
        rw [allV_cons, allV_cons, List.length_append, List.length_append, h2 e.1, h4 e.2]
theorem vars_con {t : Ty} (h : t.con ≠ []) : t.vars = allV t.args := by rw [vars_eq, if_neg h]; rfl
theorem vars_var {t : Ty} (h : t.con = []) (hf : flatB t = true) : t.vars = [t.var] := by rw [vars_eq, if_pos h, flatB_var hf h]; rfl
theorem ren_var (r : Int → Int) {t : Ty} (h : t.con = []) : renP r t = .mk [] (r t.var) [] := by rw [renP_eq, if_pos h]
theorem ren_con (r : Int → Int) {t : Ty} (h : t.con ≠ []) : renP r t = .mk t.con t.var (t.args.map (renP r)) := by rw [renP_eq, if_neg h]
theorem ren_iff (t : Ty) : flatB t = true → RenI t := by
  induction t using Ty.ind with
  | h t ih =>
  intro hf u hu
  by_cases hc : t.con = []
  · by_cases hd : u.con = []
    · rw [vars_var hc hf, vars_var hd hu]
      refine ⟨fun r r' => ?_, fun _ => rfl⟩
      unfold skT
      rw [ren_var _ hc, ren_var _ hd, ren_var _ hc, ren_var _ hd]
      simp
    · unfold skT
      refine ⟨fun r r' => ?_, fun e => ?_⟩
      · rw [ren_var _ hc, ren_con _ hd, ren_var _ hc, ren_con _ hd]
        constructor
        · intro e; injection e with e; exact absurd e.symm hd
        · rintro ⟨e, -⟩; injection e with e; exact absurd e.symm hd
      · rw [ren_var _ hc, ren_con _ hd] at e
        injection e with e
        exact absurd e.symm hd
  · by_cases hd : u.con = []
    · unfold skT
      refine ⟨fun r r' => ?_, fun e => ?_⟩
      · rw [ren_con _ hc, ren_var _ hd, ren_con _ hc, ren_var _ hd]
        constructor
        · intro e; injection e with e; exact absurd e hc
        · rintro ⟨e, -⟩; injection e with e; exact absurd e hc
      · rw [ren_con _ hc, ren_var _ hd] at e
        injection e with e
        exact absurd e hc
    · obtain ⟨h1, h2⟩ := rens_iff t.args (fun k hk => ih k hk (flatB_arg hf hk)) u.args (fun k hk => flatB_arg hu hk)
      rw [vars_con hc, vars_con hd]
      have es : skT t = skT u ↔ (t.con = u.con ∧ t.var = u.var) ∧ t.args.map skT = u.args.map skT := by
        unfold skT
        rw [ren_con _ hc, ren_con _ hd, Ty.Pure.mk.injEq, and_assoc]
      refine ⟨fun r r' => ?_, fun e => h2 (es.1 e).2⟩
      rw [es, ren_con _ hc, ren_con _ hd, Ty.Pure.mk.injEq, h1 r r']
      constructor
      · rintro ⟨a, b, c, d⟩; exact ⟨⟨⟨a, b⟩, c⟩, d⟩
      · rintro ⟨⟨⟨a, b⟩, c⟩, d⟩; exact ⟨a, b, c, d⟩
/-- A type that is another one with other names. -/
theorem ren_vars (r : Int → Int) (t : Ty) : flatB t = true → ∀ u : Ty, u.pure = renP r t → u.vars = t.vars.map r ∧ skT u = skT t ∧ flatB u = true := by
  induction t using Ty.ind with
  | h t ih =>
  intro hf u hu
  rw [Ty.pure_eq u] at hu
  by_cases hc : t.con = []
  · rw [ren_var r hc] at hu
    injection hu with h1 h2 h3
    have h3 : u.args = [] := by simpa using h3
    have hfu : flatB u = true := by rw [flatB_eq, h3]; simp
    refine ⟨?_, ?_, hfu⟩
    · rw [vars_var h1 hfu, vars_var hc hf, h2]; rfl
    · unfold skT; rw [ren_var _ h1, ren_var _ hc]
  · rw [ren_con r hc] at hu
    injection hu with h1 h2 h3
    have hl : u.args.length = t.args.length := by simpa using congrArg List.length h3
    have hi : ∀ i (i1 : i < u.args.length) (i2 : i < t.args.length), (u.args[i]'i1).pure = renP r (t.args[i]'i2) := fun i i1 i2 => by
      have : (u.args.map Ty.pure)[i]? = (t.args.map (renP r))[i]? := by rw [h3]
      rw [List.getElem?_map, List.getElem?_map, List.getElem?_eq_getElem i1, List.getElem?_eq_getElem i2] at this
      simpa using this
    have hk : ∀ i (i1 : i < u.args.length) (i2 : i < t.args.length), (u.args[i]'i1).vars = (t.args[i]'i2).vars.map r ∧ skT (u.args[i]'i1) = skT (t.args[i]'i2) ∧ flatB (u.args[i]'i1) = true := fun i i1 i2 => ih _ (List.getElem_mem i2) (flatB_arg hf (List.getElem_mem i2)) _ (hi i i1 i2)
    have hu' : u.con ≠ [] := by rw [h1]; exact hc
    refine ⟨?_, ?_, ?_⟩
    · rw [vars_con hu', vars_con hc]
      unfold allV
      rw [List.map_flatten, List.map_map]
      congr 1
      refine List.ext_getElem (by simpa using hl) fun i i1 i2 => ?_
      rw [List.length_map] at i1 i2
      rw [List.getElem_map, List.getElem_map]
      exact (hk i i1 i2).1
    · unfold skT
      rw [ren_con _ hu', ren_con _ hc, h1, h2]
      congr 1
      refine List.ext_getElem (by simpa using hl) fun i i1 i2 => ?_
      rw [List.length_map] at i1 i2
      rw [List.getElem_map, List.getElem_map]
      exact (hk i i1 i2).2.1
    · rw [flatB_eq, Bool.and_eq_true, List.all_eq_true]
      refine ⟨by simp [hu'], fun k hk' => ?_⟩
      obtain ⟨i, i1, rfl⟩ := List.mem_iff_getElem.1 hk'
      exact (hk i i1 (by omega)).2.2

/-! ### The reference's way, by types -/
noncomputable def alkFs : List (Ty → List (Int × Int) → Option (List (Int × Int))) → List Ty → List (Int × Int) → Option (List (Int × Int))
  | [], [], row => some row
  | f :: fs, u :: us, row => (f u row).bind fun r => alkFs fs us r
  | _, _, _ => none
noncomputable def alkT (n : Int) : Ty → Ty → List (Int × Int) → Option (List (Int × Int)) := Ty.fold fun t fs u row =>
  if t.con = u.con ∧ t.args.length = u.args.length then (if t.con = [] then alk1 n row t.var u.var else alkFs fs u.args row) else none
theorem alkT_eq (n : Int) (t u : Ty) (row : List (Int × Int)) : alkT n t u row = if t.con = u.con ∧ t.args.length = u.args.length then (if t.con = [] then alk1 n row t.var u.var else alkFs (t.args.map (alkT n)) u.args row) else none := by
  unfold alkT; rw [Ty.fold_eq]
/-- A type in which only variables have a number. -/
noncomputable def zeroB : Ty → Bool := Ty.allB fun t => t.con == ([] : Str) || t.var == 0
theorem zeroB_eq (t : Ty) : zeroB t = ((t.con == ([] : Str) || t.var == 0) && t.args.all zeroB) := allB_eq _ t
theorem zeroB_arg {t k : Ty} (h : zeroB t = true) (hk : k ∈ t.args) : zeroB k = true := by
  rw [zeroB_eq, Bool.and_eq_true, List.all_eq_true] at h
  exact h.2 k hk
theorem zeroB_con {t : Ty} (h : zeroB t = true) (hc : t.con ≠ []) : t.var = 0 := by
  rw [zeroB_eq, Bool.and_eq_true, Bool.or_eq_true] at h
  rcases h.1 with h | h
  · exact absurd (by simpa using h) hc
  · simpa using h
theorem zeroB_shape (t : Ty) : shapeT t = true → zeroB t = true := by
  induction t using Ty.ind with
  | h t ih =>
  intro h
  rw [shapeT_eq, Bool.and_eq_true, List.all_eq_true] at h
  rw [zeroB_eq, Bool.and_eq_true, List.all_eq_true]
  refine ⟨?_, fun k hk => ih k hk (h.2 k hk)⟩
  have h1 := h.1
  unfold headOk at h1
  rw [Bool.or_eq_true]
  split at h1
  · rename_i hc; exact .inl hc
  · right
    split at h1
    · rw [Bool.and_eq_true] at h1; exact h1.1
    · split at h1
      · rw [Bool.and_eq_true] at h1; exact h1.1
      · rw [Bool.and_eq_true] at h1; exact h1.1
theorem zeroB_legal {t : Ty} (h : legalT t = true) : zeroB t = true := zeroB_shape t (legal_parts h).2.2
def AlkI (n : Int) (t : Ty) : Prop := ∀ u : Ty, flatB u = true → zeroB u = true → ∀ row, (skT t = skT u → alkT n t u row = alkS n row t.vars u.vars) ∧ (skT t ≠ skT u → alkT n t u row = none)
theorem alks_is (n : Int) (l : List Ty) (hr : ∀ t ∈ l, RenI t) (h : ∀ t ∈ l, AlkI n t) : ∀ m : List Ty, l.length = m.length → (∀ u ∈ m, flatB u = true ∧ zeroB u = true) → ∀ row, (l.map skT = m.map skT → alkFs (l.map (alkT n)) m row = alkS n row (allV l) (allV m)) ∧ (l.map skT ≠ m.map skT → alkFs (l.map (alkT n)) m row = none) := by
  induction l with
  | nil =>
    intro m hl _ row
    cases m with
    | nil => exact ⟨fun _ => rfl, fun h => absurd rfl h⟩
    | cons u m => simp at hl
  | cons t l ih =>
    intro m hl hm row
    cases m with
    | nil => simp at hl
    | cons u m =>
      obtain ⟨h1, h2⟩ := h t (by simp) u (hm u (by simp)).1 (hm u (by simp)).2 row
      have hlen := (hr t (by simp) u (hm u (by simp)).1).2
      have ih := ih (fun t ht => hr t (by simp [ht])) (fun t ht => h t (by simp [ht])) m (by simpa using hl) (fun u hu => hm u (by simp [hu]))
      show (_ → ((alkT n t u row).bind fun r => alkFs (l.map (alkT n)) m r) = _) ∧ (_ → ((alkT n t u row).bind fun r => alkFs (l.map (alkT n)) m r) = none)
      rw [List.map_cons, List.map_cons, ne_eq, List.cons.injEq]
      refine ⟨fun e => ?_, fun e => ?_⟩
      · rw [h1 e.1, allV_cons, allV_cons, alkS_app n _ _ _ _ (hlen e.1)]
        congr 1
        funext r
        exact (ih r).1 e.2
      · by_cases e1 : skT t = skT u
        · rw [h1 e1]
          cases alkS n row t.vars u.vars with
          | none => rfl
          | some r => exact (ih r).2 (fun k => e ⟨e1, k⟩)
        · rw [h2 e1]; rfl
theorem alk_is (n : Int) (t : Ty) : flatB t = true → zeroB t = true → AlkI n t := by
  induction t using Ty.ind with
  | h t ih =>
  intro hf hz u hu hzu row
  rw [alkT_eq]
  by_cases hc : t.con = []
  · by_cases hd : u.con = []
    · have ea : t.args.length = u.args.length := by rw [flatB_var hf hc, flatB_var hu hd]
      have es : skT t = skT u := by unfold skT; rw [ren_var _ hc, ren_var _ hd]
      rw [if_pos ⟨by rw [hc, hd], ea⟩, if_pos hc, vars_var hc hf, vars_var hd hu]
      refine ⟨fun _ => ?_, fun h => absurd es h⟩
      show alk1 n row t.var u.var = (alk1 n row t.var u.var).bind fun r => some r
      cases alk1 n row t.var u.var <;> rfl
    · rw [if_neg (show ¬ (t.con = u.con ∧ t.args.length = u.args.length) from fun h => hd (h.1 ▸ hc))]
      refine ⟨fun e => ?_, fun _ => rfl⟩
      unfold skT at e
      rw [ren_var _ hc, ren_con _ hd] at e
      injection e with e
      exact absurd e.symm hd
  · by_cases hd : u.con = []
    · rw [if_neg (show ¬ (t.con = u.con ∧ t.args.length = u.args.length) from fun h => hc (h.1.trans hd))]
      refine ⟨fun e => ?_, fun _ => rfl⟩
      unfold skT at e
      rw [ren_con _ hc, ren_var _ hd] at e
      injection e with e
      exact absurd e hc
    · have es : skT t = skT u ↔ t.con = u.con ∧ t.args.map skT = u.args.map skT := by
        unfold skT
        rw [ren_con _ hc, ren_con _ hd, Ty.Pure.mk.injEq, zeroB_con hz hc, zeroB_con hzu hd]
        constructor
        · rintro ⟨a, -, b⟩; exact ⟨a, b⟩
        · rintro ⟨a, b⟩; exact ⟨a, rfl, b⟩
      by_cases hh : t.con = u.con ∧ t.args.length = u.args.length
      · rw [if_pos hh, if_neg hc, vars_con hc, vars_con hd]
        obtain ⟨h1, h2⟩ := alks_is n t.args (fun k hk => ren_iff k (flatB_arg hf hk)) (fun k hk => ih k hk (flatB_arg hf hk) (zeroB_arg hz hk)) u.args hh.2 (fun k hk => ⟨flatB_arg hu hk, zeroB_arg hzu hk⟩) row
        exact ⟨fun e => h1 (es.1 e).2, fun e => h2 (fun k => e (es.2 ⟨hh.1, k⟩))⟩
      · rw [if_neg hh]
        refine ⟨fun e => absurd ⟨(es.1 e).1, by simpa using congrArg List.length (es.1 e).2⟩ hh, fun _ => rfl⟩

end Go.Proofs.YtmjiljhcjfnfpaaGreat
