/- Contract: one scheme is above another one (scheme's Above). -/
import Derived.Test.YtmjiljhcjfnfpaaGreatJS30
import Derived.RegionTactic
/- Contract: one scheme is above another one (scheme's Above). -/
namespace Go.Proofs.YtmjiljhcjfnfpaaGreat
open Go.RowKit Go.Sort Go.Maps

theorem okI_vars (t : Ty) : okI t = true → ∀ v ∈ t.vars, InI v := by
  induction t using Ty.ind with
  | h t ih =>
  intro h v hv
  rw [vars_eq] at hv
  rcases List.mem_append.1 hv with hv | hv
  · split at hv
    · rw [List.mem_singleton] at hv
      subst hv
      exact okI_in h
    · cases hv
  · obtain ⟨l, hl, hvl⟩ := List.mem_flatten.1 hv
    obtain ⟨k, hk, rfl⟩ := List.mem_map.1 hl
    exact ih k hk (okI_arg h hk) v hvl
/-- All of a scheme's numbers are ints. -/
def okS (s : Sc) : Prop := okI s.ty = true ∧ ∀ q ∈ s.preds, okI q.ty = true
theorem okS_in {s : Sc} (h : okS s) : ∀ v ∈ frS s, InI v := fun v hv => by
  obtain ⟨hv, -⟩ := frS_mem.1 hv
  obtain ⟨l, hl, hvl⟩ := List.mem_flatten.1 hv
  obtain ⟨t, ht, rfl⟩ := List.mem_map.1 hl
  rcases List.mem_cons.1 ht with rfl | ht
  · exact okI_vars _ h.1 v hvl
  · obtain ⟨p, hp, rfl⟩ := List.mem_map.1 ht
    exact okI_vars _ (h.2 p hp) v hvl
/-- The first of some variables have themselves. -/
noncomputable def selfB (F : List Int) : Int → Option Ty := fun v => if v ∈ F then some (.mk [] v none 0 []) else none
def SelfIn (w : World) (b n : Nat) (F : List Int) : Prop := MapV w b n (fun v => (selfB F v).map tyV)
theorem SelfIn.bnd {w : World} {b n : Nat} {s : Sc} (h : SelfIn w b n (frS s)) : BndIn w b n (m0S s) := by
  refine ⟨selfB (frS s), h, fun x => ?_, fun x u hu => ?_⟩
  · unfold selfB m0S
    by_cases e : x ∈ frS s
    · rw [if_pos e, if_pos e, Option.map_some, Ty.pure_eq]; rfl
    · rw [if_neg e, if_neg e]; rfl
  · unfold selfB at hu
    split at hu
    · injection hu with hu
      subst hu
      exact TyIn.mk (Nat.le_refl _) (show (0 : Nat) ≤ 9223372036854775807 by decide) (Nat.zero_le _) (RowOf.nil _ _ _) (by intro k hk; cases hk)
    · cases hu
theorem ints_off {w : World} {A : Option Addr} {F : List Int} {b n : Nat} {f : Int → Option Value} (hA : Ints w A F) (hm : MapV w b n f) : F.length ≠ 0 → ∀ a, A = some a → a.block ≠ b := by
  intro hn a ha e
  obtain ⟨D, ⟨es, clock, hb, -⟩, -⟩ := hm
  obtain ⟨c, o, e2, hc, h3⟩ := Ints.at_ hA (i := 0) (by omega)
  rw [ha] at e2
  injection e2 with e2
  subst e2
  simp only at e
  subst e
  have h4 := h3
  simp [World.cell?, hb] at h4

noncomputable def lastB (O : Option Bnd) (l of : List Pd) : Bool := match O with | some m => allM l of m | none => false

set_option maxRecDepth 10000 in
set_option maxHeartbeats 8000000 in
theorem s_above (a b : Sc) (w : World) (ha : ScIn w a) (hb : ScIn w b) (hla : a.preds.length ≤ 40000) (hlb : b.preds.length ≤ 40000) (hza : a.ty.size + psz a.preds ≤ 50000) (hzb : b.ty.size + psz b.preds ≤ 50000) (hok : okS a) :
    Calls Tryz.prog 10 #[scV a, scV b] w fun e w' => e = .returned (.bool (abvB a b)) ∧ Ext w w' := by
  obtain ⟨W, hW⟩ : ∃ W, W = (w.alloc (.cells #[.int .i64 a.n, .slice a.A a.preds.length a.cap, encStr a.ty.con, .int .i64 a.ty.var, .slice a.ty.A a.ty.args.length a.ty.cap] 27)).alloc (.cells #[.int .i64 b.n, .slice b.A b.preds.length b.cap, encStr b.ty.con, .int .i64 b.ty.var, .slice b.ty.A b.ty.args.length b.ty.cap] 27) := ⟨_, rfl⟩
  have HW := hide hW.symm
  have X0 : Hid (Ext w W) := hide (by rw [hW]; exact ((Ext.refl _).alloc _).alloc _)
  have B1 : Hid (ScBox W w.heap.size a) := hide (by rw [hW]; exact (ScBox.new w a).ext ((Ext.refl _).alloc _))
  have B2 : Hid (ScBox W (w.heap.size + 1) b) := hide (by rw [hW]; exact at_newB _ _ _ (by simp))
  have HLa := hide (fun w' (e : Ext W w') => hide (s_legal a w' (ha.ext (X0.out.trans e)) hla hza))
  have HLb := hide (fun w' (e : Ext W w') => hide (s_legal b w' (hb.ext (X0.out.trans e)) hlb hzb))
  have HFr := hide (fun w' (e : Ext W w') => hide (s_free a w' (ha.ext (X0.out.trans e)) hla hza))
  have HOn := hide (fun m bb n w' (e : Ext W w') (hm : BndIn w' bb n m) (hn : n + a.ty.size ≤ 1000000000) => hide (s_on a.ty b.ty bb n m w' (ha.ty.ext (X0.out.trans e)) (hb.ty.ext (X0.out.trans e)) hok.1 hm hn))
  have HAl := hide (fun m bb n w' (e : Ext W w') (hm : BndIn w' bb n m) (hn : n + psz a.preds ≤ 1000000000) => hide (s_all b.A b.cap b.preds (by omega) a.preds a.A a.cap bb n m w' (ha.row.ext (X0.out.trans e)) ha.le ha.max (hb.row.ext (X0.out.trans e)) hok.2 hm hn))
  have HIn := hide (okS_in hok)
  have hFl : (frS a).length ≤ 50000 := by
    unfold frS
    exact Nat.le_trans (List.length_filter_le _ _) (Nat.le_trans (sVars_len _ _) hza)
  have HBd : Hid (∀ {w' : World} {bb n : Nat}, SelfIn w' bb n (frS a) → BndIn w' bb n (m0S a)) := hide (fun h => h.bnd)
  obtain ⟨R, hR⟩ : ∃ R, R = abvB a b := ⟨_, rfl⟩
  have HR : Hid (R = (scB a && scB b && lastB (onT a.ty b.ty (m0S a)) a.preds b.preds)) := hide hR
  rw [← hR]
  have hsz1 : a.ty.size ≤ 50000 := by omega
  have hsz2 : psz a.preds ≤ 50000 := by omega
  clear hR hW ha hb hok hza hzb hla hlb
  obtain ⟨O1, hO1⟩ : ∃ O1, O1 = onT a.ty b.ty (m0S a) := ⟨_, rfl⟩
  rw [← hO1] at HR
  have HO1 := hide hO1
  clear hO1
  generalize m0S a = M0 at *
  generalize frS a = F at *
  unfold scV at *
  unfold tyV at HOn
  obtain ⟨c0, c1, c2, c3, c4⟩ := B1.out.cells
  have lc := B1.out.lt
  go_enter Tryz.func10, Tryz.ntmps10
  go_upto_region 1 with fail
  rw [HW.out]
  clear HW
  go_wp2_with fail
  refine (HLa.out _ (Ext.refl W)).out.mono ?_
  rintro e w1 ⟨rfl, hx⟩
  have X1 := hide hx
  clear hx c0 c1 c2 c3 c4 lc HLa
  cases hsa : scB a
  · have hF : R = false := by rw [HR.out, hsa]; rfl
    clear HR
    subst hF
    go_wp2
    go_ret
    exact ⟨rfl, X0.out.trans X1.out⟩
  obtain ⟨d0, d1, d2, d3, d4⟩ := (B2.out.ext X1.out).cells
  have ld := (B2.out.ext X1.out).lt
  go_wp2_with fail
  refine (HLb.out _ X1.out).out.mono ?_
  rintro e w2 ⟨rfl, hx⟩
  have X2 := hide (X1.out.trans hx)
  clear hx d0 d1 d2 d3 d4 ld HLb X1
  cases hsb : scB b
  · have hF : R = false := by rw [HR.out, hsa, hsb]; rfl
    clear HR
    subst hF
    go_wp2
    go_ret
    exact ⟨rfl, X0.out.trans X2.out⟩
  have HR2 : Hid (R = lastB O1 a.preds b.preds) := hide (by rw [HR.out, hsa, hsb]; rfl)
  clear HR hsa hsb
  have hmm := @run_makeMap Tryz.prog
  go_upto_region 4 with fail
  refine wp_named ?_
  intro W3 hW3
  have X3 : Hid (Ext W W3) := hide (by rw [hW3]; exact X2.out.alloc _)
  have HS3 : Hid (SelfIn W3 w2.heap.size 0 []) := hide (by
    rw [hW3]
    unfold SelfIn selfB
    have h : (fun v : Int => ((if v ∈ ([] : List Int) then some (Ty.mk [] v none 0 []) else none).map tyV)) = fun _ => none := by funext v; simp
    rw [h]
    exact MapV.new w2)
  have hs2 := X2.out.size
  have hs3 : w2.heap.size < W3.heap.size := HS3.out.lt
  clear hW3 hmm
  obtain ⟨c0, c1, c2, c3, c4⟩ := (B1.out.ext X3.out).cells
  have lc := (B1.out.ext X3.out).lt
  go_wp2_with fail
  refine (HFr.out _ X3.out).out.mono ?_
  rintro e w4 ⟨⟨A4, k4, rfl, p1, p2, p3⟩, hx⟩
  have X4 := hide (X3.out.trans hx)
  have HI4 := hide p3
  have HS4 : Hid (SelfIn w4 w2.heap.size 0 []) := hide (MapV.ext HS3.out hx)
  have HOff := hide (ints_off p3 HS4.out)
  clear hx p3 c0 c1 c2 c3 c4 lc HFr HS3
  go_wp2
  go_loopw [21] (fun i wr => ∃ k : Nat, k ≤ F.length ∧ i = .int .i64 k ∧ Hid (SelfIn wr w2.heap.size k (F.take k)) ∧ Hid (w4.grownBy wr (some w2.heap.size))) (fun i _ => F.length - (intOf i).toNat)
  case atStart => exact ⟨0, Nat.zero_le _, rfl, HS4, hide (World.grownBy.refl _ _)⟩
  case round =>
    obtain ⟨k, hk, rfl, HS, HG⟩ := hrel
    have HIr : Hid (Ints wr A4 F) := hide (row_grown HI4.out HG.out (fun hn a ha e => by injection e with e; exact HOff.out (by simpa using hn) a ha e.symm))
    have XR : Hid (Ext W wr) := hide (X4.out.grown HG.out (fun j e => by injection e with e; omega))
    by_cases hlt : k < F.length
    · have hlt' : (k : Int) < (F.length : Int) := by omega
      have hk0 : (0 : Int) ≤ (k : Int) := by omega
      obtain ⟨bi, oi, rfl, hbi, hci⟩ := Ints.at_ HIr.out hlt
      have HIx := hide (HIn.out _ (List.getElem_mem hlt))
      have Htk := hide (List.take_succ_eq_append_getElem hlt)
      generalize F[k]'hlt = x at *
      obtain ⟨D, hD, hl⟩ := HS.out
      have HL := hide hl
      clear hl
      go_wp2_with (first
        | (at_mapUpdate; refine wpList_mapUpdate_own _ rfl _ _ _ 54 rfl 3 25 int_law Tryz.underlying54 heldE w2.heap.size k D rfl hD (by unfold maxLen; omega) _ _ _ rfl rfl (key_int HIx.out) _ [] rfl ?_; intro w5 ho5 hg5; go_frame)
        | go_in)
      have HS5 : Hid (SelfIn w5 w2.heap.size (k + 1) (F.take (k + 1))) := hide ⟨_, ho5, fun y => by
        refine (lookV_put D hD.isMap x (tyV (.mk [] x none 0 [])) y).trans ?_
        rw [HL.out y, Htk.out]
        unfold selfB
        by_cases e : y = x
        · subst e; simp
        · simp [e]⟩
      have HG5 := hide (grown_trans HG.out hg5)
      clear ho5 hg5 hD
      go_roundw
      case rel => exact ⟨k + 1, hlt, by go_num, HS5, HG5⟩
      case measure => simp [intOf]; omega
    · have hge : ¬ (k : Int) < (F.length : Int) := by omega
      have HSF : Hid (SelfIn wr w2.heap.size F.length F) := hide (by have := HS.out; rwa [show k = F.length by omega, List.take_length] at this)
      have HB := hide (HBd.out HSF.out)
      clear HS HSF
      have HC := hide (HOn.out M0 w2.heap.size F.length wr XR.out HB.out (by omega))
      rw [← HO1.out] at HC
      obtain ⟨c0, c1, c2, c3, c4⟩ := (B1.out.ext XR.out).cells
      have lc := (B1.out.ext XR.out).lt
      obtain ⟨d0, d1, d2, d3, d4⟩ := (B2.out.ext XR.out).cells
      have ld := (B2.out.ext XR.out).lt
      go_wp2_with fail
      refine HC.out.mono ?_
      rintro e z ⟨⟨mv, ok, rfl, hok⟩, hx⟩
      have XZ := hide (XR.out.trans hx)
      clear hx c0 c1 c2 c3 c4 lc d0 d1 d2 d3 d4 ld HC
      cases O1 with
      | none =>
        obtain rfl := hok.no rfl
        have hF : R = false := HR2.out
        clear HR2 hok
        subst hF
        go_wp2
        go_ret
        exact ⟨rfl, X0.out.trans XZ.out⟩
      | some m2 =>
        obtain ⟨rfl, b2, rfl, hB2⟩ := hok.yes m2 rfl
        have HCa := hide (HAl.out m2 b2 _ z XZ.out hB2 (by omega))
        have hR3 : R = allM a.preds b.preds m2 := HR2.out
        rw [← hR3] at HCa
        clear hok hB2 HR2 hR3
        obtain ⟨c0, c1, c2, c3, c4⟩ := (B1.out.ext XZ.out).cells
        have lc := (B1.out.ext XZ.out).lt
        obtain ⟨d0, d1, d2, d3, d4⟩ := (B2.out.ext XZ.out).cells
        have ld := (B2.out.ext XZ.out).lt
        go_wp2_with fail
        refine HCa.out.mono ?_
        rintro e z2 ⟨rfl, hx⟩
        have XZ2 := hide (XZ.out.trans hx)
        clear hx
        go_wp2
        go_ret
        exact ⟨rfl, X0.out.trans XZ2.out⟩

end Go.Proofs.YtmjiljhcjfnfpaaGreat

/- Contract: chapter 21's example. -/
namespace Go.Proofs.YtmjiljhcjfnfpaaGreat
open Go.RowKit

set_option maxRecDepth 10000 in
set_option maxHeartbeats 8000000 in
theorem l_awake21 (w : World) : Calls Tryz.prog 7 #[] w fun e w' => e = .returned (.bool true) ∧ Ext w w' := by
  have HR1 := hide (l_read_hf w)
  unfold encStr at HR1
  go_enter Tryz.func7, Tryz.ntmps7
  go_wp2_with fail
  refine HR1.out.mono ?_
  rintro e v1 ⟨⟨g, rfl, hg1, hg2⟩, hx⟩
  have Y1 := hide hx
  have HG1 := hide hg2
  clear hx hg2 HR1
  have HR2 := hide (l_read_h v1)
  unfold encStr at HR2
  go_wp2_with fail
  refine HR2.out.mono ?_
  rintro e v2 ⟨rfl, hx⟩
  have Y2 := hide (Y1.out.trans hx)
  have HG2 := hide ((hx.heap (lt_of_obj HG1.out)).trans HG1.out)
  clear hx HR2
  obtain ⟨V, hV⟩ : ∃ V, V = (v2.alloc (.cells #[.string ⟨#[67]⟩, .string ⟨#[]⟩, .int .i64 7, .slice none 0 0] 40)).alloc (.cells #[.int .i64 5] 3) := ⟨_, rfl⟩
  have HV := hide hV.symm
  have XV : Hid (Ext v2 V) := hide (by rw [hV]; exact ((Ext.refl _).alloc _).alloc _)
  have P2 : Hid (V.heap[v2.heap.size]? = some (.cells #[.string ⟨#[67]⟩, .string ⟨#[]⟩, .int .i64 7, .slice none 0 0] 40 (0, 0))) := hide (by rw [hV]; exact (((Ext.refl _).alloc _).heap (by simp)).trans (at_newB _ _ _ rfl))
  have I2 : Hid (V.heap[v2.heap.size + 1]? = some (.cells #[.int .i64 5] 3 (0, 0))) := hide (by rw [hV]; exact at_newB _ _ _ (by simp))
  have HG3 := hide ((XV.out.heap (lt_of_obj HG2.out)).trans HG2.out)
  clear hV
  have HTy : Hid (TyIn V (e21T g)) := hide (fn_in HG3.out (lf_in _ 7 none 0 (by decide)) (lf_in _ 5 none 0 (by decide)))
  have HPd : Hid (PdsIn V (some ⟨v2.heap.size, 0, none⟩) [e21P]) := hide ⟨RowOf.block pdC [e21P] P2.out, by
    intro p hp
    rw [List.mem_singleton] at hp
    subst hp
    exact ⟨(show ([67] : Str).length ≤ 1000000000000000000 by decide), lf_in _ 7 none 0 (by decide)⟩⟩
  have HI : Hid (Ints V (some ⟨v2.heap.size + 1, 0, none⟩) [5]) := hide (RowOf.block intC [5] I2.out)
  have hsz : (e21T g).size + psz [e21P] ≤ 50000 := by
    unfold e21T e21P psz
    rw [fn_size, lf_size, lf_size]
    simp [lf_size]
  have HC := hide (sc_close (e21T g) (some ⟨v2.heap.size, 0, none⟩) 1 [e21P] (some ⟨v2.heap.size + 1, 0, none⟩) 1 [5] V HTy.out HPd.out HI.out (by intro v hv; rw [List.mem_singleton] at hv; subst hv; decide) (by decide) (by decide) hsz)
  unfold scV tyV at HC
  have HC2 : Hid (Calls Tryz.prog 14 #[.agg #[.string ⟨#[45, 62]⟩, .int .i64 0, .slice (some ⟨g, 0, none⟩) 2 2], .slice (some ⟨v2.heap.size, 0, none⟩) 1 1, .slice (some ⟨v2.heap.size + 1, 0, none⟩) 1 1] V fun e w' => (∃ sc : Sc, e = .returned (.agg #[.int .i64 sc.n, .slice sc.A sc.preds.length sc.cap, encStr sc.ty.con, .int .i64 sc.ty.var, .slice sc.ty.A sc.ty.args.length sc.ty.cap]) ∧ ScIn w' sc ∧ CloseIs [5] (e21T g) [e21P] sc ∧ ScOff V (e21T g) [e21P] sc) ∧ Ext V w') := HC
  clear HC hsz
  go_wp2_with fail
  rw [HV.out]
  refine HC2.out.mono ?_
  rintro e v3 ⟨⟨sc, rfl, hs1, hs2, -⟩, hx⟩
  obtain ⟨A, cap, E, ec, C, cc, D, dc, B, bc, rfl⟩ := ex21_of hs2
  obtain ⟨S, hS⟩ : ∃ S, S = ex21 A cap E ec C cc D dc B bc := ⟨_, rfl⟩
  have HSe := hide hS
  rw [← hS] at hs1 ⊢
  have HS1 := hide hs1
  have Y3 := hide (Y2.out.trans (XV.out.trans hx))
  have Hlg : Hid (scB S = true) := hide (by rw [hS]; exact ex21_legal ..)
  have hlen : S.preds.length ≤ 40000 := by rw [hS]; exact of_decide_eq_true rfl
  have hszS : S.ty.size + psz S.preds ≤ 50000 := by rw [hS, ex21_size, ex21_psz]; decide
  have Hn1 : Hid (S.n = 1) := hide (by rw [hS]; rfl)
  clear hS hs1 hs2 hx HC2 HTy HPd HI P2 I2 HG3 HG2 HG1
  go_upto_region 2 with fail
  refine wp_named ?_
  intro W3 hW3
  have X3 : Hid (Ext v3 W3) := hide (by rw [hW3]; exact (Ext.refl _).alloc _)
  have BS : Hid (ScBox W3 v3.heap.size S) := hide (by rw [hW3]; exact ScBox.new v3 S)
  have HSi := hide (HS1.out.ext X3.out)
  have Y4 := hide (Y3.out.trans X3.out)
  clear hW3 HV
  have HO := hide (s_open S 10 W3 HSi.out hlen hszS)
  unfold scV tyV at HO
  obtain ⟨c0, c1, c2, c3, c4⟩ := BS.out.cells
  have lc := BS.out.lt
  go_wp2_with fail
  refine HO.out.mono ?_
  rintro e v4 ⟨⟨u, UA, uc, ds, m, n, rfl, hop⟩, hx⟩
  have hyes := hop.yes (by rw [Hlg.out]; decide)
  rw [Hn1.out, HSe.out] at hyes
  obtain ⟨rfl, rfl, hu, hds⟩ := hyes
  obtain ⟨C', c', D', d', B', bc', hue⟩ := ex21_open _ _ _ _ _ _ _ _ _ _ hu
  have g2 : ((ds.length : Int) == 1) = true := by
    have h := congrArg List.length hds
    rw [List.length_map, List.length_map] at h
    rw [h]
    rfl
  have g1 : (S.n == 1) = true := by rw [Hn1.out]; rfl
  have HTu := hide hop.ty
  have X4 := hide hx
  have HTs := hide (fun w' (e : Ext W3 w') => hide (show Calls Tryz.prog 18 #[tyV S.ty] w' fun e w'' => e = .returned (encStr [97, 32, 45, 62, 32, 63, 53]) ∧ Ext w' w'' by
    have h1 : legalT S.ty = true := (scB_leg Hlg.out).ty
    have h2 : TextC S.ty := by rw [HSe.out]; exact fn_C _ _ _ _ (lf_C (by decide) (by decide) (of_decide_eq_true (by kernel_rfl)) _ _) (lf_C (by decide) (by decide) (of_decide_eq_true (by kernel_rfl)) _ _) (lf_ok (by decide) (by decide) _ _) (lf_ok (by decide) (by decide) _ _) (by rw [lf_size, lf_size]; decide)
    have h3 : textT S.ty = [97, 32, 45, 62, 32, 63, 53] := by
      rw [HSe.out]
      show textT (fnT (lfT 0 C cc) (lfT (-6) D dc) B bc) = _
      rw [fn_text (lfT 0 C cc) (lfT (-6) D dc) _ _ (show ([] : Str) ≠ [45, 62] by decide), lf_text, lf_text]
      kernel_rfl
    have := t_Text S.ty w' (HSi.out.ty.ext e) h1 h2
    rw [h3] at this
    exact this))
  have HTk := hide (fun w' (e : Ext v4 w') => hide (show Calls Tryz.prog 18 #[tyV u] w' fun e w'' => e = .returned (encStr [107, 32, 45, 62, 32, 63, 53]) ∧ Ext w' w'' by
    have h1 : legalT u = true := by rw [hue]; exact fn_legal ..
    have h2 : TextC u := by rw [hue]; exact fn_C _ _ _ _ (lf_C (by decide) (by decide) (of_decide_eq_true (by kernel_rfl)) _ _) (lf_C (by decide) (by decide) (of_decide_eq_true (by kernel_rfl)) _ _) (lf_ok (by decide) (by decide) _ _) (lf_ok (by decide) (by decide) _ _) (by rw [lf_size, lf_size]; decide)
    have h3 : textT u = [107, 32, 45, 62, 32, 63, 53] := by
      rw [hue, fn_text (lfT 10 C' c') (lfT (-6) D' d') _ _ (show ([] : Str) ≠ [45, 62] by decide), lf_text, lf_text]
      kernel_rfl
    have := t_Text u w' (HTu.out.ext e) h1 h2
    rw [h3] at this
    exact this))
  have HTx := hide (fun w' (e : Ext W3 w') => hide (show Calls Tryz.prog 19 #[scV S] w' fun e w'' => e = .returned (encStr [67, 32, 97, 32, 61, 62, 32, 97, 32, 45, 62, 32, 63, 53]) ∧ Ext w' w'' by
    have hin := HSi.out.ext e
    have hl := Hlg.out
    rw [HSe.out] at hin hl ⊢
    have h3 : oneS [67] 0 ++ ([32, 61, 62, 32] : Str) ++ [97, 32, 45, 62, 32, 63, 53] = [67, 32, 97, 32, 61, 62, 32, 97, 32, 45, 62, 32, 63, 53] := by kernel_rfl
    have := sc_textG 1 A cap [67] 0 E ec (fnT (lfT 0 C cc) (lfT (-6) D dc) B bc) [97, 32, 45, 62, 32, 63, 53] (by decide) (by rw [fn_size, lf_size, lf_size]; decide) w' hin hl (cl_pd _ _ _) (by decide) (by decide) (fun w'' e' => by
      have := (HTs.out w'' (e.trans e')).out
      rw [HSe.out] at this
      exact this)
    rw [h3] at this
    exact this))
  have HFr := hide (fun w' (e : Ext W3 w') => hide (show Calls Tryz.prog 12 #[scV S] w' fun e w'' => (∃ A c, e = .returned (.slice A 1 c) ∧ Ints w'' A [-6]) ∧ Ext w' w'' from (s_free S w' (HSi.out.ext e) hlen hszS).mono (by
    have hf : frS S = [-6] := by rw [HSe.out]; exact ex21_free ..
    rw [hf]
    rintro e w'' ⟨⟨A, c, rfl, -, -, h⟩, hx⟩
    exact ⟨⟨A, c, rfl, h⟩, hx⟩)))
  have HLg := hide (fun w' (e : Ext W3 w') => hide (show Calls Tryz.prog 15 #[scV S] w' fun e w'' => e = .returned (.bool true) ∧ Ext w' w'' by
    have := s_legal S w' (HSi.out.ext e) hlen hszS
    rw [Hlg.out] at this
    exact this))
  have HSm := hide (fun w' (e : Ext W3 w') => hide (show Calls Tryz.prog 8 #[scV S, scV S] w' fun e w'' => e = .returned (.bool true) ∧ Ext w' w'' by
    have := s_same S S w' (HSi.out.ext e) (HSi.out.ext e) hlen hlen hszS hszS
    rw [same_self, Hlg.out] at this
    exact this))
  have Hal : Hid (∀ w', ScIn w' al21) := hide (fun w' => ⟨Nat.le_refl _, (show (0 : Nat) ≤ 9223372036854775807 by decide), ⟨RowOf.nil _ _ _, by intro p hp; cases hp⟩, TyIn.zero _⟩)
  have hz0 : al21.ty.size + psz al21.preds ≤ 50000 := by
    show Ty.zero.size + psz [] ≤ 50000
    rw [zero_lf, lf_size]
    decide
  have HA1 := hide (fun w' (e : Ext W3 w') => hide (show Calls Tryz.prog 10 #[scV al21, scV S] w' fun e w'' => e = .returned (.bool true) ∧ Ext w' w'' by
    have := s_above al21 S w' (Hal.out w') (HSi.out.ext e) (by decide) hlen hz0 hszS ⟨lf_ok (by decide) (by decide) none 0, by intro q hq; cases hq⟩
    rw [show abvB al21 S = true by rw [HSe.out]; exact ex21_below ..] at this
    exact this))
  have HA2 := hide (fun w' (e : Ext W3 w') => hide (show Calls Tryz.prog 10 #[scV S, scV al21] w' fun e w'' => e = .returned (.bool false) ∧ Ext w' w'' by
    have := s_above S al21 w' (HSi.out.ext e) (Hal.out w') hlen (by decide) hszS hz0 (by
      rw [HSe.out]
      refine ⟨okI_mk (by decide) (by decide) (by decide) (by
        intro k hk
        have hk : k ∈ [lfT 0 C cc, lfT (-6) D dc] := hk
        simp at hk
        rcases hk with rfl | rfl
        · exact lf_ok (by decide) (by decide) _ _
        · exact lf_ok (by decide) (by decide) _ _), ?_⟩
      intro q hq
      have hq : q ∈ [(⟨[67], lfT 0 E ec⟩ : Pd)] := hq
      rw [List.mem_singleton] at hq
      subst hq
      exact lf_ok (by decide) (by decide) _ _)
    rw [show abvB S al21 = false by rw [HSe.out]; exact ex21_notabove ..] at this
    exact this))
  unfold scV tyV encStr at *
  clear hu hds hop hx HO c0 c1 c2 c3 c4 lc hue Hlg hz0 Hal
  go_upto_region 3 with fail
  refine wp_named ?_
  intro W4 hW4
  have X5 : Hid (Ext v4 W4) := hide (by rw [hW4]; exact (Ext.refl _).alloc _)
  have BU : Hid (TBox W4 v4.heap.size u) := hide (by rw [hW4]; exact TBox.new v4 u)
  have Z4 := hide (X4.out.trans X5.out)
  clear hW4
  obtain ⟨c0, c1, c2, c3, c4⟩ := (BS.out.ext Z4.out).cells
  have lc := (BS.out.ext Z4.out).lt
  go_wp2_with fail
  refine (HTs.out _ Z4.out).out.mono ?_
  rintro e v5 ⟨rfl, hx⟩
  have Z5 := hide (Z4.out.trans hx)
  have BU5 := hide (BU.out.ext hx)
  have U5 := hide (X5.out.trans hx)
  clear hx c0 c1 c2 c3 c4 lc
  obtain ⟨k0, k1, k2⟩ := And.intro BU5.out.c0 (And.intro BU5.out.c1 BU5.out.c2)
  have lk := BU5.out.lt
  go_wp2_with fail
  refine (HTk.out _ U5.out).out.mono ?_
  rintro e v6 ⟨rfl, hx⟩
  have Z6 := hide (Z5.out.trans hx)
  clear hx k0 k1 k2 lk
  obtain ⟨c0, c1, c2, c3, c4⟩ := (BS.out.ext Z6.out).cells
  have lc := (BS.out.ext Z6.out).lt
  go_wp2_with fail
  refine (HTx.out _ Z6.out).out.mono ?_
  rintro e v7 ⟨rfl, hx⟩
  have Z7 := hide (Z6.out.trans hx)
  clear hx c0 c1 c2 c3 c4 lc
  obtain ⟨c0, c1, c2, c3, c4⟩ := (BS.out.ext Z7.out).cells
  have lc := (BS.out.ext Z7.out).lt
  go_wp2_with fail
  refine (HFr.out _ Z7.out).out.mono ?_
  rintro e v8 ⟨⟨FA, fc, rfl, hfi⟩, hx⟩
  have Z8 := hide (Z7.out.trans hx)
  have HFi := hide hfi
  clear hfi
  clear hx c0 c1 c2 c3 c4 lc
  have HIn := hide (ref_ints FA (some ⟨v8.heap.size, 0, none⟩) fc 1 [-6] [-6] (v8.alloc (.cells #[.int .i64 (-6)] 3)) (RowOf.ext intC HFi.out ((Ext.refl _).alloc _)) (RowOf.block intC [-6] (at_newB _ _ _ rfl)) (by decide))
  go_wp2_with fail
  refine HIn.out.mono ?_
  rintro e v9 ⟨rfl, hx⟩
  have Z9 := hide (Z8.out.trans (((Ext.refl _).alloc _).trans hx))
  clear hx
  obtain ⟨c0, c1, c2, c3, c4⟩ := (BS.out.ext Z9.out).cells
  have lc := (BS.out.ext Z9.out).lt
  go_wp2_with fail
  refine (HLg.out _ Z9.out).out.mono ?_
  rintro e v10 ⟨rfl, hx⟩
  have Z10 := hide (Z9.out.trans hx)
  clear hx c0 c1 c2 c3 c4 lc
  obtain ⟨c0, c1, c2, c3, c4⟩ := (BS.out.ext Z10.out).cells
  have lc := (BS.out.ext Z10.out).lt
  go_wp2_with fail
  refine (HSm.out _ Z10.out).out.mono ?_
  rintro e v11 ⟨rfl, hx⟩
  have Z11 := hide (Z10.out.trans hx)
  clear hx c0 c1 c2 c3 c4 lc
  obtain ⟨c0, c1, c2, c3, c4⟩ := (BS.out.ext Z11.out).cells
  have lc := (BS.out.ext Z11.out).lt
  go_wp2_with fail
  refine (HA1.out _ Z11.out).out.mono ?_
  rintro e v12 ⟨rfl, hx⟩
  have Z12 := hide (Z11.out.trans hx)
  clear hx c0 c1 c2 c3 c4 lc
  obtain ⟨c0, c1, c2, c3, c4⟩ := (BS.out.ext Z12.out).cells
  have lc := (BS.out.ext Z12.out).lt
  go_wp2_with fail
  refine (HA2.out _ Z12.out).out.mono ?_
  rintro e v13 ⟨rfl, hx⟩
  have Z13 := hide (Z12.out.trans hx)
  clear hx c0 c1 c2 c3 c4 lc
  go_wp2
  go_ret
  exact ⟨rfl, Y4.out.trans Z13.out⟩

end Go.Proofs.YtmjiljhcjfnfpaaGreat

/- Contract: a type with others in the place of variables; of the reference. -/
namespace Go.Proofs.YtmjiljhcjfnfpaaGreat
open Go.RowKit

theorem Row.ty3 {w : World} {b : Nat} {t : TypeId} {fr : Nat × Nat} (x0 x1 x2 : Value) (h : w.heap[b]? = some (.cells #[x0, x1, x2] t fr)) : Row w (some ⟨b, 0, none⟩) 3 1 [x0, x1, x2] := by
  refine ⟨rfl, fun _ => ⟨b, 0, rfl, lt_of_obj h, fun j u hu => ?_⟩⟩
  rw [Nat.zero_add]
  simp only [World.cell?, h]
  simpa using hu
theorem flat_snoc (us : List Ty) (u : Ty) : (us ++ [u]).flatMap tyC.f = us.flatMap tyC.f ++ [encStr u.con, .int .i64 u.var, .slice u.A u.args.length u.cap] := by
  rw [List.flatMap_append, List.flatMap_cons, List.flatMap_nil, List.append_nil]
  rfl
theorem ty_info3 : (Tryz.prog.info? 25).map (fun i => (i.zero, i.size, i.bytes)) = some (some (.agg #[.string ⟨#[]⟩, .int .i64 0, .slice none 0 0]), 3, 48) := by kernel_rfl


end Go.Proofs.YtmjiljhcjfnfpaaGreat

/- Contract: is a scheme not too great? -/
namespace Go.Proofs.YtmjiljhcjfnfpaaGreat
open Go.RowKit

set_option maxRecDepth 10000 in
set_option maxHeartbeats 4000000 in
theorem l_few21 (s : Sc) (w : World) (h : ScIn w s) : Calls Tryz.prog 6 #[scV s] w fun e w' => (∃ r : Int, e = .returned (.int .i64 r) ∧ (r = 0 ∨ (r = 1 ∧ s.preds.length ≤ 6 ∧ s.n ≤ 5000 ∧ s.ty.size + psz s.preds ≤ 20000))) ∧ Ext w w' := by
  obtain ⟨i1, hj, hy0, hy1, hy2⟩ := info_parts ty_info3
  obtain ⟨W, hW⟩ : ∃ W, W = w.alloc (.cells #[.int .i64 s.n, .slice s.A s.preds.length s.cap, encStr s.ty.con, .int .i64 s.ty.var, .slice s.ty.A s.ty.args.length s.ty.cap] 27) := ⟨_, rfl⟩
  have HW := hide hW.symm
  have X0 : Hid (Ext w W) := hide (by rw [hW]; exact (Ext.refl _).alloc _)
  have B1 : Hid (ScBox W w.heap.size s) := hide (by rw [hW]; exact ScBox.new w s)
  have H := hide h
  have HP : Hid (tsizes (s.ty :: s.preds.map Pd.ty) = s.ty.size + psz s.preds) := hide (by unfold tsizes psz; simp [Function.comp_def])
  have hmx := h.max
  have hle := h.le
  obtain ⟨c0, c1, c2, c3, c4⟩ := B1.out.cells
  clear h hW
  unfold scV
  by_cases hn : (s.preds.length : Int) > 6
  · go_enter Tryz.func6, Tryz.ntmps6
    go_upto_region 1 with fail
    rw [HW.out]
    go_wp2
    go_ret
    exact ⟨⟨0, rfl, .inl rfl⟩, X0.out⟩
  by_cases hn2 : s.n > 5000
  · go_enter Tryz.func6, Tryz.ntmps6
    go_upto_region 1 with fail
    rw [HW.out]
    go_wp2
    go_ret
    exact ⟨⟨0, rfl, .inl rfl⟩, X0.out⟩
  obtain ⟨W1, hW1⟩ : ∃ W1, W1 = W.alloc (.cells #[encStr s.ty.con, .int .i64 s.ty.var, .slice s.ty.A s.ty.args.length s.ty.cap] 25) := ⟨_, rfl⟩
  have HW1 := hide hW1.symm
  have E1 : Ext W W1 := by rw [hW1]; exact (Ext.refl _).alloc _
  have X1 := hide E1
  have O0 : Hid (W1.ownsRow W.heap.size 25 3 (.slice (some ⟨W.heap.size, 0, none⟩) 1 1) (s.ty :: (s.preds.take 0).map Pd.ty).length ((s.ty :: (s.preds.take 0).map Pd.ty).flatMap tyC.f)) := hide (by
    have := World.ownsRow_lit (base := W.heap.size) (e := 25) (size := 3) W #[encStr s.ty.con, .int .i64 s.ty.var, .slice s.ty.A s.ty.args.length s.ty.cap] 1 (Nat.le_refl _) (by unfold maxLen; omega) rfl
    rw [hW1]
    exact this)
  clear E1 hW1
  go_enter Tryz.func6, Tryz.ntmps6
  go_upto_region 1 with fail
  rw [HW.out]
  go_upto_region 4 with fail
  rw [HW1.out]
  clear c0 c1 c2 c3 c4
  go_wp2
  go_loopw [3, 4] (fun v i wr => ∃ k : Nat, k ≤ s.preds.length ∧ i = .int .i64 k ∧ Hid (Ext W wr) ∧ Hid (wr.ownsRow W.heap.size 25 3 v (s.ty :: (s.preds.take k).map Pd.ty).length ((s.ty :: (s.preds.take k).map Pd.ty).flatMap tyC.f))) (fun _ i _ => s.preds.length - (intOf i).toNat)
  case atStart => exact ⟨0, Nat.zero_le _, rfl, X1, O0⟩
  case round =>
    obtain ⟨k, hk, rfl, HX, HO⟩ := hrel
    have XR := hide (X0.out.trans HX.out)
    obtain ⟨c0, c1, -, -, -⟩ := (B1.out.ext HX.out).cells
    by_cases hlt : k < s.preds.length
    · have hlt' : (k : Int) < (s.preds.length : Int) := by omega
      have hk0 : (0 : Int) ≤ (k : Int) := by omega
      obtain ⟨b, o, hA, hb, q0, q1, q2, q3⟩ := (H.out.row.ext XR.out).at_ hlt
      have Htk : Hid (s.ty :: (s.preds.take (k + 1)).map Pd.ty = (s.ty :: (s.preds.take k).map Pd.ty) ++ [(s.preds[k]'hlt).ty]) := hide (by rw [List.take_succ_eq_append_getElem hlt, List.map_append]; rfl)
      have Hln : Hid ((s.ty :: (s.preds.take k).map Pd.ty).length = 1 + k) := hide (by simp; omega)
      generalize s.preds[k]'hlt = x at *
      generalize s.ty :: (s.preds.take k).map Pd.ty = L at *
      have hLk : L.length ≤ 10 := by rw [Hln.out]; omega
      obtain ⟨A6, c6, rfl, -, -, -, -⟩ := RowOf.own tyC (l := L) HO.out
      have hszB := HX.out.size
      rw [hA] at c1
      clear hA
      go_wp2_with (at_builtin; refine wpList_append_row _ rfl _ _ 23 rfl W.heap.size 25 i1 _ 3 48 Tryz.underlying23 hj hy0 hy1 hy2 rfl (by decide) (.slice A6 L.length c6) L.length (L.flatMap tyC.f) rfl (HO.out.alloc _) _ 1 1 [encStr x.ty.con, .int .i64 x.ty.var, .slice x.ty.A x.ty.args.length x.ty.cap] rfl ?c2 ?c3 ?c4 ?c5 ?c6 ?_)
      case c2 => exact Row.ty3 _ _ _ (at_newB _ _ _ rfl)
      case c3 =>
        intro y hy
        simp at hy
        rcases hy with rfl | rfl | rfl <;> rfl
      case c4 => unfold maxLen; omega
      case c5 => omega
      case c6 => simp; omega
      intro v4 w4 hown4 hg4 hat4
      have X4 := hide (Ext.app (HX.out.alloc _) hg4 (HO.out.alloc _) (Nat.le_refl _))
      have O4 : Hid (w4.ownsRow W.heap.size 25 3 v4 (s.ty :: (s.preds.take (k + 1)).map Pd.ty).length ((s.ty :: (s.preds.take (k + 1)).map Pd.ty).flatMap tyC.f)) := hide (by rw [Htk.out, flat_snoc, List.length_append]; exact hown4)
      clear hown4 hg4 hat4
      go_wp2
      go_roundw
      case rel => exact ⟨k + 1, hlt, by go_num, X4, O4⟩
      case measure => simp [intOf]; omega
    · have hge : ¬ (k : Int) < (s.preds.length : Int) := by omega
      have HO2 : Hid (wr.ownsRow W.heap.size 25 3 u3 (s.ty :: s.preds.map Pd.ty).length ((s.ty :: s.preds.map Pd.ty).flatMap tyC.f)) := hide (by have := HO.out; rwa [List.take_of_length_le (by omega)] at this)
      have hL : (s.ty :: s.preds.map Pd.ty).length ≤ 10 := by simp; omega
      have hTs : ∀ t ∈ s.ty :: s.preds.map Pd.ty, TyIn wr t := by
        intro t ht
        rcases List.mem_cons.1 ht with rfl | ht
        · exact H.out.ty.ext XR.out
        · obtain ⟨p, hp, rfl⟩ := List.mem_map.1 ht
          exact (H.out.row.all p hp).ty.ext XR.out
      generalize s.ty :: s.preds.map Pd.ty = L at *
      obtain ⟨A6, c6, rfl, d1, d2, d3, -⟩ := RowOf.own tyC (l := L) HO2.out
      have HF := hide (l_few16 A6 c6 L wr ⟨d3, hTs⟩ (by omega))
      clear hTs d3
      go_wp2_with fail
      refine HF.out.mono ?_
      rintro e w5 ⟨⟨r, rfl, hr⟩, hx⟩
      have HR : Hid (r = 0 ∨ (r = 1 ∧ s.preds.length ≤ 6 ∧ s.n ≤ 5000 ∧ s.ty.size + psz s.preds ≤ 20000)) := hide (by
        rcases hr with rfl | ⟨rfl, hsz, -⟩
        · exact .inl rfl
        · exact .inr ⟨rfl, by omega, by omega, by rw [← HP.out]; exact hsz⟩)
      clear hr
      go_wp2
      go_ret
      exact ⟨⟨r, rfl, HR.out⟩, XR.out.trans hx⟩

end Go.Proofs.YtmjiljhcjfnfpaaGreat

/- Contract: chapter 21's law of schemes that are opened, and closed again. -/
namespace Go.Proofs.YtmjiljhcjfnfpaaGreat
open Go.RowKit

theorem psz_legal : ∀ l : List Pd, (∀ p ∈ l, legalT p.ty = true) → psz l ≤ 4096 * l.length
  | [], _ => by unfold psz; simp
  | p :: l, h => by
    have h1 := (legal_parts (h p (by simp))).1
    have h2 := psz_legal l (fun q hq => h q (by simp [hq]))
    have e : psz (p :: l) = p.ty.size + psz l := by unfold psz; simp
    rw [e, List.length_cons]
    omega
theorem leg_size {s : Sc} (h : scB s = true) (hl : s.preds.length ≤ 6) : s.ty.size + psz s.preds ≤ 50000 := by
  have hg := scB_leg h
  have h1 := (legal_parts hg.ty).1
  have h2 := psz_legal s.preds (fun p hp => pdB_ty (hg.ps p hp))
  omega
theorem frS_len (s : Sc) : (frS s).length ≤ s.ty.size + psz s.preds := by
  unfold frS
  exact Nat.le_trans (List.length_filter_le _ _) (sVars_len _ _)

set_option maxRecDepth 10000 in
set_option maxHeartbeats 8000000 in
theorem l_back21 (s : Sc) (first : Int) (w : World) (h : ScIn w s) (hok : okS s) :
    Calls Tryz.prog 4 #[scV s, .int .i64 first] w fun e w' => e = .returned (.bool true) ∧ Ext w w' := by
  obtain ⟨W, hW⟩ : ∃ W, W = w.alloc (.cells #[.int .i64 s.n, .slice s.A s.preds.length s.cap, encStr s.ty.con, .int .i64 s.ty.var, .slice s.ty.A s.ty.args.length s.ty.cap] 27) := ⟨_, rfl⟩
  have HW := hide hW.symm
  have X0 : Hid (Ext w W) := hide (by rw [hW]; exact (Ext.refl _).alloc _)
  have B1 : Hid (ScBox W w.heap.size s) := hide (by rw [hW]; exact ScBox.new w s)
  have HFw := hide (l_few21 s W (h.ext X0.out))
  have H := hide h
  have Hok := hide hok
  obtain ⟨c0, c1, c2, c3, c4⟩ := B1.out.cells
  have lc := B1.out.lt
  clear hW h hok
  unfold scV at *
  go_enter Tryz.func4, Tryz.ntmps4
  go_upto_region 1 with fail
  rw [HW.out]
  clear HW
  go_wp2_with fail
  refine HFw.out.mono ?_
  rintro e w1 ⟨⟨r, rfl, hr⟩, hx⟩
  have X1 := hide hx
  clear hx HFw c0 c1 c2 c3 c4 lc
  rcases hr with rfl | ⟨rfl, hp6, -, hsz⟩
  · go_wp2_with fail
    refine (l_awake21 _).mono ?_
    rintro e v ⟨rfl, hz⟩
    go_wp2
    go_ret
    exact ⟨rfl, X0.out.trans (X1.out.trans hz)⟩
  have HFr := hide (s_free s w1 (H.out.ext (X0.out.trans X1.out)) (by omega) (by omega))
  have hFl := frS_len s
  have HFi := hide (okS_in Hok.out)
  have HFm : Hid (∀ v, v ∈ frS s ↔ v ∈ frS s) := hide (fun _ => Iff.rfl)
  obtain ⟨F, hF⟩ : ∃ F, F = frS s := ⟨_, rfl⟩
  have HF := hide hF
  rw [← hF] at HFr hFl HFi
  clear hF HFm
  obtain ⟨c0, c1, c2, c3, c4⟩ := (B1.out.ext X1.out).cells
  have lc := (B1.out.ext X1.out).lt
  go_wp2_with fail
  refine HFr.out.mono ?_
  rintro e w2 ⟨⟨FA, fc, rfl, p1, p2, p3⟩, hx⟩
  have X2 := hide (X1.out.trans hx)
  have HI := hide p3
  clear hx p3 HFr c0 c1 c2 c3 c4 lc
  have HOp := hide (s_open s first w2 (H.out.ext (X0.out.trans X2.out)) (by omega) (by omega))
  unfold scV tyV at HOp
  obtain ⟨c0, c1, c2, c3, c4⟩ := (B1.out.ext X2.out).cells
  have lc := (B1.out.ext X2.out).lt
  go_wp2_with fail
  refine HOp.out.mono ?_
  rintro e w3 ⟨⟨u, UA, uc, ds, m, n, rfl, hop⟩, hx⟩
  have X3 := hide (X2.out.trans hx)
  have X23 := hide hx
  have HOk := hide hop
  clear hx hop HOp c0 c1 c2 c3 c4 lc
  go_upto_region 5 with fail
  refine wp_named ?_
  intro W4 hW4
  have X34 : Hid (Ext w3 W4) := hide (by rw [hW4]; exact (Ext.refl _).alloc _)
  have BU : Hid (TBox W4 w3.heap.size u) := hide (by rw [hW4]; exact TBox.new w3 u)
  have X4 := hide (X3.out.trans X34.out)
  clear hW4
  cases hD : (scB s && decide (0 ≤ first) && decide (first ≤ 1099511627776))
  · obtain rfl := HOk.out.no hD
    clear hD HOk
    go_wp2_with fail
    refine (l_awake21 _).mono ?_
    rintro e v ⟨rfl, hz⟩
    go_wp2
    go_ret
    exact ⟨rfl, X0.out.trans (X4.out.trans hz)⟩
  obtain ⟨rfl, hm, hu, hds⟩ := HOk.out.yes hD
  have Hm := hide hm
  have Hu := hide hu
  have Hds := hide hds
  have hDl := hD
  simp only [Bool.and_eq_true, decide_eq_true_eq] at hDl
  obtain ⟨⟨hsl, hf0⟩, hf1⟩ := hDl
  have Hsl := hide hsl
  have Hbk : Hid (∀ c : Sc, (∀ v ∈ F, v < 0) → CloseIs F u ds c → c.n = s.n ∧ sameS c s = true) := hide (fun c hneg hc => by
    rw [HF.out] at hneg hc
    exact back_same hsl hf0 hneg hu hds hc)
  have hn0 := (scB_leg hsl).n0
  have hn1 := (scB_leg hsl).n1
  have Hdl : Hid (ds.length = s.preds.length) := hide (by simpa using congrArg List.length hds)
  have Hul : Hid (legalT u = true) := hide (legal_ren (scB_leg hsl).ty hu)
  have Hdg : Hid (∀ p ∈ ds, legalT p.ty = true) := hide (fun p hp => by
    have hmem : (p.cls, p.ty.pure) ∈ s.preds.map fun x => (x.cls, renP (openF s.n first) x.ty) := by rw [← hds]; exact List.mem_map.2 ⟨p, hp, rfl⟩
    obtain ⟨x, hx, ex⟩ := List.mem_map.1 hmem
    injection ex with _ ex
    exact legal_ren (pdB_ty ((scB_leg hsl).ps x hx)) ex.symm)
  clear hD hm hu hds hsl
  have HI4 := hide (RowOf.ext intC HI.out (X23.out.trans X34.out))
  go_wp2
  go_loopw [10] (fun i wr => ∃ k : Nat, k ≤ F.length ∧ i = .int .i64 k ∧ Hid (∀ j (hj : j < F.length), j < k → F[j]'hj < 0) ∧ wr = W4) (fun i _ => F.length - (intOf i).toNat)
  case atStart => exact ⟨0, Nat.zero_le _, rfl, hide (fun j _ h => absurd h (by omega)), rfl⟩
  case round =>
    obtain ⟨k, hk, rfl, HN, rfl⟩ := hrel
    by_cases hlt : k < F.length
    · have hlt' : (k : Int) < (F.length : Int) := by omega
      have hk0 : (0 : Int) ≤ (k : Int) := by omega
      obtain ⟨b, o, rfl, hb, hc⟩ := Ints.at_ HI4.out hlt
      have HN2 : Hid (F[k]'hlt < 0 → ∀ j (hj : j < F.length), j < k + 1 → F[j]'hj < 0) := hide (fun h0 j hj h1 => by
        by_cases e : j = k
        · subst e; exact h0
        · exact HN.out j hj (by omega))
      generalize F[k]'hlt = x at *
      by_cases hx0 : x ≥ 0
      · clear HN2
        go_wp2_with fail
        refine (l_awake21 _).mono ?_
        rintro e v ⟨rfl, hz⟩
        go_wp2
        go_ret
        exact ⟨rfl, X0.out.trans (X4.out.trans hz)⟩
      · have HN3 := hide (HN2.out (by omega))
        clear HN2
        go_wp2
        go_roundw
        case rel => exact ⟨k + 1, hlt, by go_num, HN3, by first | rfl | trivial⟩
        case measure => simp [intOf]; omega
    · have hge : ¬ (k : Int) < (F.length : Int) := by omega
      have HNeg : Hid (∀ v ∈ F, v < 0) := hide (fun v hv => by
        obtain ⟨j, hj, rfl⟩ := List.mem_iff_getElem.1 hv
        exact HN.out j hj (by omega))
      clear HN
      have hus := (legal_parts Hul.out).1
      have hps := psz_legal ds Hdg.out
      have hdl := Hdl.out
      have HC := hide (sc_close u UA uc ds FA fc F wr (HOk.out.ty.ext X34.out) (HOk.out.ps.ext X34.out) HI4.out HFi.out (by omega) (by omega) (by omega))
      unfold scV tyV at HC
      clear hus hps hdl
      obtain ⟨k0, k1, k2⟩ := And.intro BU.out.c0 (And.intro BU.out.c1 BU.out.c2)
      have lk := BU.out.lt
      go_wp2_with fail
      refine HC.out.mono ?_
      rintro e w5 ⟨⟨c, rfl, hci, hcc, -⟩, hx⟩
      obtain ⟨hcn, hcs⟩ := Hbk.out c HNeg.out hcc
      have X45 := hide hx
      have Hci := hide hci
      have Hcs := hide hcs
      have Hcn := hide hcn
      have Hcl : Hid (scB c = true) := hide (sameS_iff.1 hcs).1
      have hcp : c.preds.length ≤ 6 := by
        have := (sameS_iff.1 hcs).2.2.2.1
        have := congrArg List.length this
        rw [List.length_map, List.length_map] at this
        omega
      clear hx hci hcc hcs hcn HC k0 k1 k2 lk
      go_upto_region 13 with fail
      refine wp_named ?_
      intro W6 hW6
      have X56 : Hid (Ext w5 W6) := hide (by rw [hW6]; exact (Ext.refl _).alloc _)
      have BC : Hid (ScBox W6 w5.heap.size c) := hide (by rw [hW6]; exact ScBox.new w5 c)
      have X6 := hide (X4.out.trans (X45.out.trans X56.out))
      clear hW6
      have HSm := hide (s_same c s W6 (Hci.out.ext X56.out) (H.out.ext (X0.out.trans X6.out)) (by omega) (by omega) (leg_size Hcl.out hcp) (leg_size Hsl.out hp6))
      rw [Hcs.out] at HSm
      unfold scV at HSm
      have g1 : IntKind.i64.wrap (m - first) = s.n := by rw [Hm.out, IntWalk.i64_in _ (by omega)]; omega
      have g2 : (c.n == s.n) = true := by rw [Hcn.out]; simp
      obtain ⟨c0, c1, c2, c3, c4⟩ := BC.out.cells
      have lc := BC.out.lt
      obtain ⟨d0, d1, d2, d3, d4⟩ := (B1.out.ext X6.out).cells
      have ld := (B1.out.ext X6.out).lt
      go_wp2_with fail
      refine HSm.out.mono ?_
      rintro e w7 ⟨rfl, hx⟩
      have X7 := hide (X6.out.trans hx)
      clear hx c0 c1 c2 c3 c4 lc d0 d1 d2 d3 d4 ld
      go_wp2_with fail
      refine (l_awake21 _).mono ?_
      rintro e v ⟨rfl, hz⟩
      go_wp2
      go_ret
      exact ⟨rfl, X0.out.trans (X7.out.trans hz)⟩

end Go.Proofs.YtmjiljhcjfnfpaaGreat
