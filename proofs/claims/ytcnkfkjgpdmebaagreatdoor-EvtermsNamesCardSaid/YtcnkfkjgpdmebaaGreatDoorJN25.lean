/- Substitutions at work: a builder's put at variables that have nothing; put, whole; Apply; Preds. -/
import Derived.Test.YtcnkfkjgpdmebaaGreatDoorJN24
import Derived.WalkSpells
import Derived.WalkLawsBesides
import Derived.Deep.QuietTactic
import Derived.BigQuiet
import Derived.Deep.Cut
/- Substitutions at work: a builder's put at variables that have nothing; put, whole; Apply; Preds. -/
namespace Go.Proofs.YtcnkfkjgpdmebaaGreatDoor
open Go.RowKit

set_option maxRecDepth 10000 in
set_option maxHeartbeats 8000000 in
theorem s_put_miss (bb p : Nat) (A : Option Addr) (cap : Nat) (s : List Pr) (v : Int) (TA : Option Addr) (tc : Nat) (hx : putAt (vsP s) (tsP s) v = none) : PutC bb p A cap s (.mk [] v TA tc []) := by
  intro w left level ht hoff hsub hbl hl0 hl1 hv0 hv1
  obtain ⟨W, hW⟩ : ∃ W, W = (w.alloc (.cells #[.string ⟨#[]⟩, .int .i64 v, .slice TA 0 tc] 53)).alloc (.cells #[.string ⟨#[]⟩, .int .i64 0, .slice none 0 0] 53) := ⟨_, rfl⟩
  have HW := hide hW.symm
  have X0 : Hid (Ext w W) := hide (by rw [hW]; exact ((Ext.refl _).alloc _).alloc _)
  have B1 : Hid (W.heap[w.heap.size]? = some (.cells #[.string ⟨#[]⟩, .int .i64 v, .slice TA 0 tc] 53 (0, 0))) := hide (by rw [hW]; exact (((Ext.refl _).alloc _).heap (by simp)).trans (at_newB _ _ _ rfl))
  have B2 : Hid (W.heap[w.heap.size + 1]? = some (.cells #[.string ⟨#[]⟩, .int .i64 0, .slice none 0 0] 53 (0, 0))) := hide (by rw [hW]; exact at_newB _ _ _ (by simp))
  have hWs : W.heap.size = w.heap.size + 2 := by rw [hW]; simp
  have hbw := hbl.lt
  have HBl := hide (hbl.ext X0.out)
  have HGet : Hid (∀ w', Ext W w' → Hid (Calls Tryz.prog 182 #[.pointer (some ⟨p, 0, none⟩), .int .i64 v] w' fun e w'' => e = .returned (.tuple #[.agg #[.string ⟨#[]⟩, .int .i64 0, .slice none 0 0], .bool false]) ∧ Ext w' w'')) := hide (fun w' e => by
    have := s_get p A cap s v w' (hsub.sub.ext (X0.out.trans e))
    rw [hx] at this
    exact this)
  have HSS := hide (fun w' (e : Ext W w') => And.intro (HBl.out.ext e).c0 ((show w'.cell? ⟨w.heap.size, 1, none⟩ = some (.int .i64 v) from bytes_block ((e.heap (lt_of_obj B1.out)).trans B1.out) 1)))
  have b0 : W.cell? ⟨w.heap.size, 0, none⟩ = some (.string ⟨#[]⟩) := bytes_block B1.out 0
  have hbW : bb < W.heap.size := by omega
  have hNW : w.heap.size < W.heap.size := by omega
  obtain ⟨d0, b1⟩ := HSS.out W (Ext.refl _)
  have n1 : ¬ bb = W.heap.size := by omega
  have n2 : ¬ W.heap.size = bb := by omega
  have n3 : ¬ w.heap.size = W.heap.size := by omega
  have n4 : ¬ W.heap.size = w.heap.size := by omega
  have HWs := hide hWs
  have H := hide ht
  have Hx := hide hx
  have HZ : Hid (szS (vsP s) (tsP s) (.mk [] v TA tc []) = 1 ∧ dpS (vsP s) (tsP s) (.mk [] v TA tc []) = 1 ∧ putP (vsP s) (tsP s) (.mk [] v TA tc []) = (Ty.mk [] v TA tc []).pure) := hide (by
    have hc0 : (Ty.mk [] v TA tc []).con = [] := rfl
    rw [szS_eq, dpS_eq, putP_eq, if_pos hc0, if_pos hc0, if_pos hc0]
    show (match putAt (vsP s) (tsP s) v with | some u => u.size | none => 1) = 1 ∧ (match putAt (vsP s) (tsP s) v with | some u => u.depth | none => 1) = 1 ∧ ((putAt (vsP s) (tsP s) v).getD _).pure = _
    rw [hx]
    exact ⟨rfl, rfl, rfl⟩)
  have hlv : level ≤ 100 := by rw [Ty.depth_eq] at hv1; omega
  have htV : tyV (.mk [] v TA tc []) = .agg #[.string ⟨#[]⟩, .int .i64 v, .slice TA 0 tc] := rfl
  clear hW ht hoff hsub hbl hWs hx hv1
  rw [htV]
  clear htV
  go_enter Tryz.func133, Tryz.ntmps133
  go_upto_region 1 with fail
  rw [HW.out]
  clear HW
  go_upto_region 2 with fail
  go_cut [7, 8] (fun s7 s8 wx => s8 = .bool false ∧ Hid (Ext W wx))
  case first =>
    go_region_held3 (fun w' => w'.cell? ⟨bb, 0, none⟩ = some (.pointer (some ⟨p, 0, none⟩)) ∧ w'.cell? ⟨w.heap.size, 1, none⟩ = some (.int .i64 v)) (first | assumption | go_keep) (first
      | (go_at_call 182
         refine Calls.mono (HGet.out _ ?e).out ?_
         (case e => exact (by repeat (first | exact Ext.refl _ | exact Ext.pre (by simp) | exact Ext.alloc (by assumption) _ | refine Ext.alloc ?_ _ |  refine Ext.more ?_ _ _ | refine Ext.drew ?_ | refine Ext.drewN ?_ _)))
         rintro e y ⟨rfl, hxy⟩
         have kS := HSS.out y (by refine Ext.trans ?_ hxy; exact (by repeat (first | exact Ext.refl _ | exact Ext.pre (by simp) | exact Ext.alloc (by assumption) _ | refine Ext.alloc ?_ _ |  refine Ext.more ?_ _ _ | refine Ext.drew ?_ | refine Ext.drewN ?_ _)))
         (try (have zz := zt hxy (B := W.heap.size) (by first | exact at_newB W _ _ rfl | fail); obtain ⟨z0, z1, z2, z3, z4, z5, z6⟩ := zz))))
    all_goals (go_wp2_with fail; go_meet; first
      | exact ⟨rfl, hide (((Ext.refl W).drew.trans hxy).alloc _)⟩
      | exact ⟨rfl, hide ((zt2 (((Ext.refl W).alloc _).drew) hxy (Nat.le_refl _) (at_newB W _ _ rfl) (.mk [] 0 none 0 [])).1)⟩)
  case rest =>
    obtain ⟨rfl, HX⟩ := hcut
    have HBc := hide (HBl.out.ext HX.out)
    have B1c := hide ((HX.out.heap (lt_of_obj B1.out)).trans B1.out)
    have B2c := hide ((HX.out.heap (lt_of_obj B2.out)).trans B2.out)
    obtain ⟨W8, hW8⟩ : ∃ W8, W8 = wc.setCell ⟨bb, 1, none⟩ (.int .i64 (left - 1)) := ⟨_, rfl⟩
    have HW8 := hide hW8.symm
    have hg8 : wc.grownBy W8 (some bb) := by rw [hW8]; exact grown_cell _ _ _ _
    have HL8 : Hid (BldIn W8 bb p (left - 1)) := hide (by rw [hW8]; exact HBc.out.set _)
    have HG8 : Hid (w.grownBy W8 (some bb)) := hide (grown_trans (ext_grown (X0.out.trans HX.out) _) hg8)
    have B18 := hide ((hg8.block _ (lt_of_obj B1c.out) (fun e => by injection e with e; omega)).trans B1c.out)
    have B28 := hide ((hg8.block _ (lt_of_obj B2c.out) (fun e => by injection e with e; omega)).trans B2c.out)
    have hmk := make_zeros 0 (by omega) W8
    rw [show ((0 : Nat) : Int) = 0 from rfl] at hmk
    obtain ⟨R, hR⟩ : ∃ R, R = W8.heap.size := ⟨_, rfl⟩
    obtain ⟨W1, hW1⟩ : ∃ W1, W1 = W8.alloc (.cells (zerosT 0) 53) := ⟨_, rfl⟩
    have X81 : Hid (Ext W8 W1) := hide (by rw [hW1]; exact (Ext.refl _).alloc _)
    have hRw : w.heap.size ≤ R := by rw [hR]; exact HG8.out.size
    rw [← hR, ← hW1] at hmk
    have HMk := hide hmk
    have c1 := HBc.out.c1
    have c0 := HBc.out.c0
    have f1 := HBc.out.f1
    have hbc := HBc.out.lt
    have e2 : W8.cell? ⟨w.heap.size, 2, none⟩ = some (.slice TA 0 tc) := bytes_block B18.out 2
    clear hW8 hW1 hR hmk hg8 b0 b1 d0
    go_upto_region 9 with fail
    rw [HW8.out]
    have hmk := HMk.out
    have B11 := hide ((X81.out.heap (lt_of_obj B18.out)).trans B18.out)
    have B21 := hide ((X81.out.heap (lt_of_obj B28.out)).trans B28.out)
    have HL1 := hide (HL8.out.ext X81.out)
    have HG1 := hide (grown_trans HG8.out (ext_grown X81.out _))
    have e2' : W1.cell? ⟨w.heap.size, 2, none⟩ = some (.slice TA 0 tc) := bytes_block B11.out 2
    clear c1 c0 f1
    go_wp2
    go_loopw [58] (fun i wr => i = .int .i64 0 ∧ wr = W1) (fun _ _ => 0)
    case atStart => exact ⟨rfl, rfl⟩
    case round =>
      obtain ⟨rfl, rfl⟩ := hrel
      have g0 : wr.cell? ⟨w.heap.size, 0, none⟩ = some (.string ⟨#[]⟩) := bytes_block B11.out 0
      have g1 : wr.cell? ⟨w.heap.size, 1, none⟩ = some (.int .i64 v) := bytes_block B11.out 1
      have fb := free_block B11.out 2
      have f0 := free_block B21.out 0
      have f1 := free_block B21.out 1
      have f2 := free_block B21.out 2
      have k0 := bytes_block B21.out 0
      have k1 := bytes_block B21.out 1
      have k2 := bytes_block B21.out 2
      simp only [List.getElem?_toArray, List.getElem?_cons_zero, List.getElem?_cons_succ] at k0 k1 k2
      have hgA := grown_cell wr w.heap.size 2 (.slice (some ⟨R, 0, none⟩) 0 0)
      have hgB := put3_grown (wr.setCell ⟨w.heap.size, 2, none⟩ (.slice (some ⟨R, 0, none⟩) 0 0)) (w.heap.size + 1) 0 1 2 (.string ⟨#[]⟩) (.int .i64 v) (.slice (some ⟨R, 0, none⟩) 0 0)
      obtain ⟨WF, hWF⟩ : ∃ WF, WF = (((wr.setCell ⟨w.heap.size, 2, none⟩ (.slice (some ⟨R, 0, none⟩) 0 0)).setCell ⟨w.heap.size + 1, 0, none⟩ (.string ⟨#[]⟩)).setCell ⟨w.heap.size + 1, 1, none⟩ (.int .i64 v)).setCell ⟨w.heap.size + 1, 2, none⟩ (.slice (some ⟨R, 0, none⟩) 0 0) := ⟨_, rfl⟩
      have GF : Hid (w.grownBy WF (some bb)) := hide (by rw [hWF]; exact gb_new (gb_new HG1.out hgA (Nat.le_refl _)) hgB (by omega))
      have LF : Hid (BldIn WF bb p (left - 1)) := hide (by rw [hWF]; exact (HL1.out.grown hgA (by omega)).grown hgB (by omega))
      have PF : Hid (PutB w WF bb s (.mk [] v TA tc []) (.mk [] v (some ⟨R, 0, none⟩) 0 []) left level (left - 1)) := hide
        ⟨TyIn.of (Nat.le_refl _) (by omega) (by decide) (RowOf.nil _ _ _) (by simp), awayB_mk (fun hn => absurd rfl hn) (by simp), fun c _ _ => awayB_mk (fun hn => absurd rfl hn) (by simp), by omega, by omega,
          fun _ => ⟨by rw [HZ.out.2.2, Ty.pure_eq, Ty.pure_eq]; rfl, by rw [HZ.out.1]; rfl, by rw [HZ.out.2.1]; omega⟩, fun h => .inl (by rw [HZ.out.1]; omega)⟩
      clear hgA hgB
      go_wp2
      rw [← hWF]
      refine bodyPost_ret (v := .agg #[.string ⟨#[]⟩, .int .i64 v, .slice (some ⟨R, 0, none⟩) 0 0]) ?_ rfl ⟨.mk [] v (some ⟨R, 0, none⟩) 0 [], left - 1, rfl, PF.out, GF.out, LF.out⟩
      rw [hWF]
      simp [results, Tryz.f133, go_sem, k0, k1, k2]

/-- A builder's put, whole. -/
theorem s_put (bb p : Nat) (A : Option Addr) (cap : Nat) (s : List Pr) (t : Ty) : flatB t = true → t.size ≤ 100000 → PutC bb p A cap s t := by
  induction t using Ty.ind with
  | h t ih =>
  intro hf hsz
  by_cases hc : t.con = []
  · cases hx : putAt (vsP s) (tsP s) t.var with
    | some x => exact s_put_hit bb p A cap s t hc x hx
    | none =>
      have ha := flatB_var hf hc
      cases t with
      | mk c v TA tc l =>
      have hc' : c = [] := hc
      have ha' : l = [] := ha
      subst hc' ha'
      exact s_put_miss bb p A cap s v TA tc hx
  · exact s_put_far bb p A cap s t hc (by have := t.args_len; omega) (fun k hk => ih k hk (flatB_arg hf hk) (by have := Ty.size_arg hk; omega))

/-- What Apply tells. -/
structure ApplyOk (w w' : World) (s : List Pr) (t u : Ty) (n : Int) : Prop where
  ty : TyIn w' u
  away : ∀ c, c < w.heap.size → awayB c t = true → awayB c u = true
  no : legalT t = false → n = 1
  yes : legalT t = true → szS (vsP s) (tsP s) t ≤ 4096 ∧ dpS (vsP s) (tsP s) t ≤ 100 → n = 0 ∧ u.pure = putP (vsP s) (tsP s) t
  lim : legalT t = true → ¬ (szS (vsP s) (tsP s) t ≤ 4096 ∧ dpS (vsP s) (tsP s) t ≤ 100) → n = 2
theorem zeroT_in (w : World) : TyIn w (.mk [] 0 none 0 []) := TyIn.of (Nat.le_refl _) (by omega) (by decide) (RowOf.nil _ _ _) (by simp)
theorem zeroT_away (c : Nat) : awayB c (.mk [] 0 none 0 []) = true := awayB_mk (fun hn => absurd rfl hn) (by simp)
theorem build2 (w : World) (bb p : Nat) (h : bb = w.heap.size) : BldIn (w.alloc (.cells #[.pointer (some ⟨p, 0, none⟩), .int .i64 4096] 200)) bb p 4096 := at_newB _ _ _ h

set_option maxRecDepth 10000 in
set_option maxHeartbeats 8000000 in
theorem s_apply (p : Nat) (A : Option Addr) (cap : Nat) (s : List Pr) (t : Ty) (w : World) (hs : SubIn w p A cap s) (hsm : ∀ x ∈ s, legalT x.ty = true) (ht : TyIn w t) (hsz : t.size ≤ 900000) :
    Calls Tryz.prog 82 #[.pointer (some ⟨p, 0, none⟩), tyV t] w fun e w' => (∃ u n, e = .returned (.tuple #[tyV u, .int .i64 n]) ∧ ApplyOk w w' s t u n) ∧ Ext w w' := by
  obtain ⟨W, hW⟩ : ∃ W, W = (w.alloc (.cells #[encStr t.con, .int .i64 t.var, .slice t.A t.args.length t.cap] 53)).alloc (.cells #[.string ⟨#[]⟩, .int .i64 0, .slice none 0 0] 53) := ⟨_, rfl⟩
  have HW := hide hW.symm
  have X0 : Hid (Ext w W) := hide (by rw [hW]; exact ((Ext.refl _).alloc _).alloc _)
  have B1 : Hid (TBox W w.heap.size t) := hide (by rw [hW]; exact (TBox.new w t).ext ((Ext.refl _).alloc _))
  have B2 : Hid (W.heap[w.heap.size + 1]? = some (.cells #[.string ⟨#[]⟩, .int .i64 0, .slice none 0 0] 53 (0, 0))) := hide (by rw [hW]; exact at_newB _ _ _ (by simp))
  have HL := hide (t_legal t W (ht.ext X0.out) (by omega))
  have HS := hide hs
  have HSm := hide hsm
  have H := hide ht
  obtain ⟨a0, a1, a2⟩ := And.intro B1.out.c0 (And.intro B1.out.c1 B1.out.c2)
  clear hW hs hsm ht
  unfold tyV at *
  cases hl : legalT t
  · rw [hl] at HL
    have Hl := hide hl
    clear hl
    go_enter Tryz.func82, Tryz.ntmps82
    go_upto_region 1 with fail
    rw [HW.out]
    go_wp2_with fail
    refine HL.out.mono ?_
    rintro e w2 ⟨rfl, hx2⟩
    have X2 := hide (X0.out.trans hx2)
    have B22 := hide ((hx2.heap (lt_of_obj B2.out)).trans B2.out)
    have f0 := free_block B22.out 0
    have f1 := free_block B22.out 1
    have f2 := free_block B22.out 2
    have k0 := bytes_block B22.out 0
    have k1 := bytes_block B22.out 1
    have k2 := bytes_block B22.out 2
    simp only [List.getElem?_toArray, List.getElem?_cons_zero, List.getElem?_cons_succ] at k0 k1 k2
    clear hx2 a0 a1 a2
    go_wp2
    refine bodyPost_ret (v := .tuple #[.agg #[.string ⟨#[]⟩, .int .i64 0, .slice none 0 0], .int .i64 1]) ?_ rfl ⟨⟨.mk [] 0 none 0 [], 1, rfl, zeroT_in _, fun c _ _ => zeroT_away c, fun _ => rfl, (fun h => by rw [Hl.out] at h; cases h), (fun h => by rw [Hl.out] at h; cases h)⟩, ?_⟩
    · simp [results, Tryz.f82, go_sem, k0, k1, k2]
    · exact ((X2.out.setCell (by simp) _).setCell (by simp) _).setCell (by simp) _
  rw [hl] at HL
  have Hl := hide hl
  have Hfl := hide (flatB_legal hl)
  obtain ⟨l1, l2, -⟩ := legal_parts hl
  clear hl
  go_enter Tryz.func82, Tryz.ntmps82
  go_upto_region 1 with fail
  rw [HW.out]
  go_wp2_with fail
  refine HL.out.mono ?_
  rintro e w2 ⟨rfl, hx2⟩
  have X2 := hide (X0.out.trans hx2)
  have B12 := hide (B1.out.ext hx2)
  have B22 := hide ((hx2.heap (lt_of_obj B2.out)).trans B2.out)
  clear hx2 a0 a1 a2 B1 B2 HL HW
  obtain ⟨W3, hW3⟩ : ∃ W3, W3 = w2.alloc (.cells #[.pointer (some ⟨p, 0, none⟩), .int .i64 4096] 200) := ⟨_, rfl⟩
  have HW3 := hide hW3.symm
  have X23 : Hid (Ext w2 W3) := hide (by rw [hW3]; exact (Ext.refl _).alloc _)
  have hpw := lt_of_obj HS.out.blk
  have hs2 := X2.out.size
  have HB3 : Hid (BldIn W3 w2.heap.size p 4096) := hide (by rw [hW3]; exact build2 w2 _ p rfl)
  have HF3 : Hid (SubFar W3 w2.heap.size p A cap s) := hide ⟨HS.out.ext (X2.out.trans X23.out), by omega, fun hn a ha => by
      obtain ⟨b, o, e, hb, -⟩ := HS.out.prs.row.2 (Nat.pos_of_ne_zero hn)
      rw [e] at ha
      injection ha with ha
      subst ha
      show b ≠ _
      omega, fun x hx => away_new (HS.out.prs.ty x hx) hs2, fun x hx => by obtain ⟨q1, q2, -⟩ := legal_parts (HSm.out x hx); exact ⟨q1, q2⟩⟩
  have HPt := hide (s_put w2.heap.size p A cap s t Hfl.out (by omega) W3 4096 1 (H.out.ext (X2.out.trans X23.out)) (away_new H.out hs2) HF3.out HB3.out (by omega) (by omega) (by omega) (by omega))
  have B13 := hide (B12.out.ext X23.out)
  have B23 := hide ((X23.out.heap (lt_of_obj B22.out)).trans B22.out)
  obtain ⟨a0, a1, a2⟩ := And.intro B13.out.c0 (And.intro B13.out.c1 B13.out.c2)
  have hN : w.heap.size + 1 < w2.heap.size := lt_of_obj B22.out
  clear hW3 B12 B22
  unfold tyV at HPt
  go_upto_region 4 with fail
  rw [HW3.out]
  go_wp2_with fail
  refine HPt.out.mono ?_
  rintro e w4 ⟨u, L, rfl, hu, hg4, hb4⟩
  obtain ⟨W5, hW5⟩ : ∃ W5, W5 = w4.alloc (.cells #[encStr u.con, .int .i64 u.var, .slice u.A u.args.length u.cap] 53) := ⟨_, rfl⟩
  have HW5 := hide hW5.symm
  have X45 : Hid (Ext w4 W5) := hide (by rw [hW5]; exact (Ext.refl _).alloc _)
  have hs3 := X23.out.size
  have X5 : Hid (Ext w W5) := hide (((X2.out.trans X23.out).grown hg4 (fun k e => by injection e with e; omega)).trans X45.out)
  have HB5 := hide (hb4.ext X45.out)
  have B5 : Hid (TBox W5 w4.heap.size u) := hide (by rw [hW5]; exact TBox.new w4 u)
  have B25 := hide ((X45.out.heap (by have := hg4.size; have := lt_of_obj B23.out; omega)).trans ((hg4.block _ (lt_of_obj B23.out) (fun e => by injection e with e; omega)).trans B23.out))
  have Hu := hide hu
  have hWs5 : w.heap.size + 1 < W5.heap.size := lt_of_obj B25.out
  obtain ⟨b0, b1, b2⟩ := And.intro B5.out.c0 (And.intro B5.out.c1 B5.out.c2)
  have c1 := HB5.out.c1
  have hbl := HB5.out.lt
  clear hW5 hu hg4 hb4 a0 a1 a2 HPt B13 B23
  go_upto_region 5 with fail
  rw [HW5.out]
  have f0 := free_block B25.out 0
  have f1 := free_block B25.out 1
  have f2 := free_block B25.out 2
  have k0 := bytes_block B25.out 0
  have k1 := bytes_block B25.out 1
  have k2 := bytes_block B25.out 2
  simp only [List.getElem?_toArray, List.getElem?_cons_zero, List.getElem?_cons_succ] at k0 k1 k2
  by_cases hL : L < 0
  · have HN := hide (Hu.out.no hL)
    go_wp2
    refine bodyPost_ret (v := .tuple #[.agg #[.string ⟨#[]⟩, .int .i64 0, .slice none 0 0], .int .i64 2]) ?_ rfl ⟨⟨.mk [] 0 none 0 [], 2, rfl, zeroT_in _, fun c _ _ => zeroT_away c, (fun h => by rw [Hl.out] at h; cases h), (fun _ h => by rcases HN.out with h1 | h1 <;> omega), fun _ _ => rfl⟩, ?_⟩
    · simp [results, Tryz.f82, go_sem, k0, k1, k2]
    · exact ((X5.out.setCell (by simp) _).setCell (by simp) _).setCell (by simp) _
  · have HY := hide (Hu.out.yes (by omega))
    have HT5 := hide (Hu.out.ty.ext X45.out)
    have hpg := put3_grown W5 (w.heap.size + 1) 0 1 2 (encStr u.con) (.int .i64 u.var) (.slice u.A u.args.length u.cap)
    have HTF := hide (HT5.out.grown hpg (fun c e => by injection e with e; subst e; exact Hu.out.away _ (by have := X23.out.size; omega) (away_new H.out (by omega))))
    clear hpg
    go_wp2
    refine bodyPost_ret (v := .tuple #[.agg #[encStr u.con, .int .i64 u.var, .slice u.A u.args.length u.cap], .int .i64 0]) ?_ rfl ⟨⟨u, 0, rfl, HTF.out, fun c hc h => Hu.out.away c (by have := X23.out.size; omega) h, (fun h => by rw [Hl.out] at h; cases h), fun _ _ => ⟨rfl, HY.out.1⟩, fun _ h => absurd ⟨by have := HY.out.2.1; omega, by have := HY.out.2.2; omega⟩ h⟩, ?_⟩
    · simp [results, Tryz.f82, go_sem, k0, k1, k2]
    · exact ((X5.out.setCell (by simp) _).setCell (by simp) _).setCell (by simp) _

end Go.Proofs.YtcnkfkjgpdmebaaGreatDoor

/- Contract: rows of numbers alike. -/
namespace Go.Proofs.YtcnkfkjgpdmebaaGreatDoor
open Go.RowKit

end Go.Proofs.YtcnkfkjgpdmebaaGreatDoor

/- Contracts: all variables of a type; of the program. -/
namespace Go.Proofs.YtcnkfkjgpdmebaaGreatDoor
open Go.RowKit Go.Shelf

/-- Numbers that have been told, in block `c`. -/
structure IntsAt (c base : Nat) (w : World) (v : Value) (l : List Int) : Prop where
  cell : w.heap[c]? = some (.cells #[v] 38 (0, 0))
  own : w.ownsRow base 3 1 v l.length (l.map (Value.int .i64))
  lt : c < base
  le : base ≤ w.heap.size
section
variable {c base : Nat} {w w' : World} {v : Value} {us : List Int}
theorem IntsAt.ext (h : IntsAt c base w v us) (e : Ext w w') : IntsAt c base w' v us := ⟨(e.heap (lt_of_obj h.cell)).trans h.cell, own_extB h.own e, h.lt, Nat.le_trans h.le e.size⟩
theorem IntsAt.ne (h : IntsAt c base w v us) : v.ownBlock ≠ some c := fun e => by have := (h.own.lt c e).1; have := h.lt; omega
end
end Go.Proofs.YtcnkfkjgpdmebaaGreatDoor
