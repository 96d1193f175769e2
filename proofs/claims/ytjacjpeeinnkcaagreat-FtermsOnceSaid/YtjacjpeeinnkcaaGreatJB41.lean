/- Contract on the reference: rows of terms that say the same. -/
import Derived.Test.YtjacjpeeinnkcaaGreatJB40
/- Contract on the reference: rows of terms that say the same. -/
namespace Go.Proofs.YtjacjpeeinnkcaaGreat
open Go.RowKit

/-- A term of kids alone. -/
def kidsT (A : Option Addr) (cap : Nat) (l : List Tm) : Tm := .mk 0 0 [] none 0 [] none 0 [] A cap l
theorem kidsT_in {w : World} {A : Option Addr} {cap : Nat} {l : List Tm} (h : TmsIn w A l) (h1 : l.length ≤ cap) (h2 : cap ≤ 9223372036854775807) : TmIn w (kidsT A cap l) :=
  .mk ⟨Nat.zero_le _, by show 0 ≤ 9223372036854775807; omega, Nat.zero_le _, by show 0 ≤ 9223372036854775807; omega, h1, h2, by show 0 ≤ 9223372036854775807; omega, RowOf.nil _ _ _, TysIn.nil _ _, h.row⟩ h.kids

set_option maxRecDepth 10000 in
set_option maxHeartbeats 1000000 in
theorem r_rows32 (A B : Option Addr) (ca cb : Nat) (l m : List Tm) (w : World) (ha : TmsIn w A l) (hb : TmsIn w B m) (h1 : l.length ≤ ca) (h2 : ca ≤ 9223372036854775807) (h3 : m.length ≤ cb) (h4 : cb ≤ 9223372036854775807) (hp : l.map Tm.pure = m.map Tm.pure) :
    Calls Tryz.prog 19 #[.slice A l.length ca, .slice B m.length cb] w fun e w' => e = .returned (.bool true) ∧ Ext w w' := by
  have HS := hide (r_same32 (kidsT A ca l) (kidsT B cb m) w (kidsT_in ha h1 h2) (kidsT_in hb h3 h4) (by rw [Tm.pure_eq, Tm.pure_eq]; show Tm.Pure.mk 0 0 [] [] [] (l.map Tm.pure) = .mk 0 0 [] [] [] (m.map Tm.pure); rw [hp]))
  unfold tmV kidsT at HS
  simp only [Tm.kind, Tm.n, Tm.name, Tm.V, Tm.vc, Tm.vars, Tm.T, Tm.tc, Tm.types, Tm.A, Tm.cap, Tm.kids, encStr, List.length_nil] at HS
  clear ha hb hp
  go_enter Tryz.func19, Tryz.ntmps19
  go_wp2_with fail
  refine HS.out.mono ?_
  rintro e w2 ⟨rfl, hx⟩
  go_wp2
  go_ret
  exact ⟨rfl, hx⟩

end Go.Proofs.YtjacjpeeinnkcaaGreat

/- FtermsOnce, plain: what canonical terms keep. No program in sight. -/
namespace Go.Proofs.YtjacjpeeinnkcaaGreat
open Go.RowKit

theorem few_sk (t : Tm) : ∀ u : Tm, SkM t.pure u.pure → u.vars.length ≤ 10000 ∧ FewM t → FewM u := by
  induction t using Tm.ind with
  | h t ih =>
  intro u h ⟨hv, hf⟩
  have p := skm_parts h
  refine .mk (by rw [← p.tys]; exact hf.tys4) (fun x hx => ?_) (by rw [← p.len]; exact hf.kl) hv (fun k hk => ?_)
  · obtain ⟨i, h1, rfl⟩ := List.mem_iff_getElem.1 hx
    have h2 : i < t.types.length := by rw [p.tys]; exact h1
    rw [← (sk_ty _ _ (p.ty i h2 h1)).1]
    exact hf.ty _ (List.getElem_mem h2)
  · obtain ⟨i, h1, rfl⟩ := List.mem_iff_getElem.1 hk
    have h2 : i < t.kids.length := by rw [p.len]; exact h1
    refine ih _ (List.getElem_mem h2) _ (p.kid i h2 h1) ⟨?_, hf.kids _ (List.getElem_mem h2)⟩
    rw [← (skm_parts (p.kid i h2 h1)).vars]
    exact (hf.kids _ (List.getElem_mem h2)).vl
theorem vsz_sk (t : Tm) : ∀ u : Tm, SkM t.pure u.pure → vszM t = vszM u := by
  induction t using Tm.ind with
  | h t ih =>
  intro u h
  have p := skm_parts h
  rw [vszM_eq, vszM_eq, map_same Ty.size Ty.size p.tys (fun i h1 h2 => (sk_ty _ _ (p.ty i h1 h2)).1), map_same vszM vszM p.len (fun i h1 h2 => ih _ (List.getElem_mem h1) _ (p.kid i h1 h2))]
theorem ty_varsQ (x : Ty) : varsQ x.pure = x.vars := by
  induction x using Ty.ind with
  | h t ih =>
  rw [Ty.pure_eq, varsQ, varsQs_flat, vars_eq]
  congr 1
  rw [List.flatMap_def, List.map_map]
  congr 1
  exact List.map_congr_left (fun y hy => ih y hy)
theorem contains_any (d : List Int) (v : Int) : d.contains v = d.any (· == v) := by
  rw [Bool.eq_iff_iff, List.contains_iff_mem, List.any_eq_true]
  simp
theorem vs_free (t : Tm) : ∀ b v, v ∈ vsM t b ↔ v ∈ freeV t.pure b := by
  induction t using Tm.ind with
  | h t ih =>
  intro b v
  rw [vsM_eq, Tm.pure_eq, freeV, freeVs_flat, List.mem_append, List.mem_append]
  have hb : vbM t b = if t.kind = 5 ∨ t.kind = 11 then b ++ t.vars else b := rfl
  rw [← hb]
  generalize vbM t b = d
  refine or_congr ⟨fun h => ?_, fun h => ?_⟩ ⟨fun h => ?_, fun h => ?_⟩
  · obtain ⟨x, hx, h⟩ := List.mem_flatMap.1 h
    obtain ⟨h1, h2⟩ := List.mem_filter.1 h
    refine List.mem_filter.2 ⟨List.mem_flatMap.2 ⟨x.pure, List.mem_map.2 ⟨x, hx, rfl⟩, by rw [ty_varsQ]; exact (onceI_mem _ _).1 h1⟩, ?_⟩
    rw [contains_any]
    exact h2
  · obtain ⟨h1, h2⟩ := List.mem_filter.1 h
    obtain ⟨y, hy, h1⟩ := List.mem_flatMap.1 h1
    obtain ⟨x, hx, rfl⟩ := List.mem_map.1 hy
    rw [ty_varsQ] at h1
    rw [contains_any] at h2
    exact List.mem_flatMap.2 ⟨x, hx, List.mem_filter.2 ⟨(onceI_mem _ _).2 h1, h2⟩⟩
  · obtain ⟨k, hk, h⟩ := List.mem_flatMap.1 h
    exact List.mem_flatMap.2 ⟨k.pure, List.mem_map.2 ⟨k, hk, rfl⟩, (ih k hk _ _).1 h⟩
  · obtain ⟨y, hy, h⟩ := List.mem_flatMap.1 h
    obtain ⟨k, hk, rfl⟩ := List.mem_map.1 hy
    exact List.mem_flatMap.2 ⟨k, hk, (ih k hk _ _).2 h⟩
theorem bnd0 : Bnd cn0 [] [] := ⟨rfl, fun v => Iff.rfl, (fun n hn => by cases hn)⟩
theorem vrL_len {t u : Tm} (ht : TOk t.pure) (h : u.pure = (canQ numS t.pure cn0 0 0).1) : (vrL u).length ≤ (vrL t).length := by
  refine List.Nodup.length_le_of_subset (onceGo_nodup _ _ List.nodup_nil) (fun v hv => ?_)
  unfold vrL at *
  rw [onceGo_mem] at hv ⊢
  rcases hv with hv | hv
  · cases hv
  · refine .inr ((vs_free t [] v).2 (can_free numS t.pure ht cn0 0 0 [] [] bnd0 v ?_))
    rw [← h]
    exact (vs_free u [] v).1 hv
theorem still0 : Still cn0 := ⟨(fun p hp => by cases hp), rfl⟩
theorem names0 : NamesOk cn0 := fun p hp => by cases hp
/-- What a term becomes whose bound names are told by numbers, the second time too. -/
structure Once32 (t u : Tm) : Prop where
  legal : legalM u = legalM t
  size : u.size = t.size
  few : FewM u
  vsz : vszM u = vszM t
  vars : (vrL u).length ≤ (vrL t).length
  again : (canQs numS [u.pure] cn0 0 0).1 = [u.pure]
theorem once32 {t u : Tm} (hl : legalM t = true) (hf : FewM t) (h : [u.pure] = (canQs numS [t.pure] cn0 0 0).1) : Once32 t u := by
  have ht := tok_legal hl
  have h1 : u.pure = (canQ numS t.pure cn0 0 0).1 := by
    rw [canQs_cons] at h
    exact (List.cons.inj h).1
  have hk : SkM t.pure u.pure := by rw [h1]; exact can_sk numS t.pure ht cn0 0 0 names0
  have p := skm_parts hk
  have h2 := skm_legal hk
  refine ⟨h2.1.symm, h2.2.symm, few_sk t u hk ⟨?_, hf⟩, (vsz_sk t u hk).symm, vrL_len ht h1, ?_⟩
  · rw [← p.vars]
    exact hf.vl
  · rw [canQs_cons]
    have : (canQ numS u.pure cn0 0 0).1 = u.pure := by
      rw [h1, can_again numS t.pure ht cn0 cn0 0 0 still0]
    rw [this]
    rfl

end Go.Proofs.YtjacjpeeinnkcaaGreat

/- The law FtermsOnce, walked. -/
namespace Go.Proofs.YtjacjpeeinnkcaaGreat
open Go.RowKit

set_option maxRecDepth 10000 in
set_option maxHeartbeats 16000000 in
theorem law_once (t : Tm) (w : World) (h : TmIn w t) : Calls Tryz.prog 4 #[tmV t] w fun e w' => e = .returned (.bool true) ∧ Ext w w' := by
  obtain ⟨W, hW⟩ : ∃ W, W = w.alloc (.cells #[.int .i64 t.kind, .int .i64 t.n, encStr t.name, .slice t.V t.vars.length t.vc, .slice t.T t.types.length t.tc, .slice t.A t.kids.length t.cap] 31) := ⟨_, rfl⟩
  have HW := hide hW.symm
  have X0 : Hid (Ext w W) := hide (by rw [hW]; exact (Ext.refl _).alloc _)
  have HB : Hid (TmBox W w.heap.size t) := hide (by rw [hW]; exact TmBox.new w t)
  clear hW
  have HT : Hid (TmIn W t) := hide (h.ext X0.out)
  have HFw := hide (l_few32 (some ⟨W.heap.size, 0, none⟩) 1 [t] (W.alloc (.cells #[.int .i64 t.kind, .int .i64 t.n, .string ⟨t.name.toArray⟩, .slice t.V t.vars.length t.vc, .slice t.T t.types.length t.tc, .slice t.A t.kids.length t.cap] 31)) ⟨tm_block (t := t) (at_newB _ _ _ rfl), fun k hk => by rcases List.mem_singleton.1 hk with rfl; exact HT.out.ext ((Ext.refl _).alloc _)⟩ (by show 1 ≤ 100000; omega))
  simp only [List.length_cons, List.length_nil, Nat.zero_add] at HFw
  have HAw := hide l_awake32
  obtain ⟨c0, c1, c2, c3, c4, c5⟩ := HB.out.cells
  have hlt := HB.out.lt
  clear h
  unfold tmV
  go_enter Tryz.func4, Tryz.ntmps4
  go_upto_region 1 with fail
  rw [HW.out]
  clear HW
  go_wp2_with fail
  refine HFw.out.mono ?_
  rintro e w2 ⟨⟨r, rfl, hr⟩, hx2⟩
  have X2 : Hid (Ext W w2) := hide (((Ext.refl W).alloc _).trans hx2)
  clear hx2 HFw c0 c1 c2 c3 c4 c5 hlt
  rcases hr with rfl | ⟨rfl, hsz, hf⟩
  · go_wp2_with fail
    refine (HAw.out _).mono ?_
    rintro e w3 ⟨rfl, hx⟩
    go_wp2
    go_ret
    exact ⟨rfl, X0.out.trans (X2.out.trans hx)⟩
  have hsz3 : t.size ≤ 3000 := by have : msizes [t] ≤ 3000 := hsz; unfold msizes at this; simpa using this
  have HF32 : Hid (F32 t) := hide (hf t (List.mem_singleton.2 rfl))
  have HFM : Hid (FewM t) := hide (HF32.out.few (by omega))
  clear hsz hf
  have B2 := hide (HB.out.ext X2.out)
  have HCn := hide (m_canon (some ⟨w2.heap.size, 0, none⟩) 1 [t] (w2.alloc (.cells #[.int .i64 t.kind, .int .i64 t.n, .string ⟨t.name.toArray⟩, .slice t.V t.vars.length t.vc, .slice t.T t.types.length t.tc, .slice t.A t.kids.length t.cap] 31)) ⟨tm_block (t := t) (at_newB _ _ _ rfl), fun k hk => by rcases List.mem_singleton.1 hk with rfl; exact (HT.out.ext X2.out).ext ((Ext.refl _).alloc _)⟩ (fun k hk => by rcases List.mem_singleton.1 hk with rfl; exact HFM.out) (fun k hk => by rcases List.mem_singleton.1 hk with rfl; omega) (by show msizes [t] ≤ 1000000; unfold msizes; simp; omega) (by show 1 ≤ 1000000; omega))
  rw [List.map_cons, List.map_nil] at HCn
  simp only [List.length_cons, List.length_nil, Nat.zero_add] at HCn
  obtain ⟨c0, c1, c2, c3, c4, c5⟩ := B2.out.cells
  go_wp2_with fail
  refine HCn.out.mono ?_
  rintro e w3 ⟨⟨cv, us, rfl, hown, hlen, hin, hpu⟩, hx3⟩
  have X3 : Hid (Ext W w3) := hide ((X2.out.alloc _).trans hx3)
  obtain ⟨u, rfl⟩ := List.length_eq_one_iff.1 hlen
  obtain ⟨A3, cp3, rfl, p1, p2, p3, -⟩ := RowOf.own tmC hown
  have HU : Hid (TmsIn w3 A3 [u]) := hide ⟨p3, hin⟩
  have HP : Hid ([u.pure] = (canQs numS [t.pure] cn0 0 0).1) := hide hpu
  have p1' : 1 ≤ cp3 := p1
  simp only [List.length_cons, List.length_nil, Nat.zero_add] at p1 ⊢
  clear hown hlen hin hpu hx3 p3 HCn c0 c1 c2 c3 c4 c5 B2
  have B3 := hide (HB.out.ext X3.out)
  obtain ⟨c0, c1, c2, c3, c4, c5⟩ := B3.out.cells
  have HLe := hide (m_legal t w3 (HT.out.ext X3.out) HFM.out (by omega))
  have hd1 : (((1 : Nat) : Int) != 1) = false := by decide
  have hd2 : (((1 : Nat) : Int) == 1) = true := by decide
  unfold tmV at HLe
  cases hl : legalM t
  · rw [hl] at HLe
    go_wp2_with fail
    refine HLe.out.mono ?_
    rintro e w4 ⟨rfl, hx4⟩
    go_wp2_with fail
    refine (HAw.out _).mono ?_
    rintro e w5 ⟨rfl, hx⟩
    go_wp2
    go_ret
    exact ⟨rfl, X0.out.trans (X3.out.trans (hx4.trans hx))⟩
  rw [hl] at HLe
  have HO : Hid (Once32 t u) := hide (once32 hl HFM.out HP.out)
  go_wp2_with fail
  refine HLe.out.mono ?_
  rintro e w4 ⟨rfl, hx4⟩
  have X4 : Hid (Ext W w4) := hide (X3.out.trans hx4)
  have HU4 := hide (HU.out.ext hx4)
  have husz : u.size ≤ 3000 := by rw [HO.out.size]; exact hsz3
  have HCn2 := hide (m_canon A3 cp3 [u] w4 HU4.out (fun k hk => by rcases List.mem_singleton.1 hk with rfl; exact HO.out.few) (fun k hk => by rcases List.mem_singleton.1 hk with rfl; omega) (by show msizes [u] ≤ 1000000; unfold msizes; simp; omega) (by show 1 ≤ 1000000; omega))
  rw [List.map_cons, List.map_nil, HO.out.again] at HCn2
  simp only [List.length_cons, List.length_nil, Nat.zero_add] at HCn2
  clear HLe c0 c1 c2 c3 c4 c5 B3 HU hx4 X3
  go_wp2_with fail
  refine HCn2.out.mono ?_
  rintro e w5 ⟨⟨cv, us, rfl, hown, hlen, hin, hpu⟩, hx5⟩
  obtain ⟨A5, cp5, rfl, r1, r2, r3, -⟩ := RowOf.own tmC hown
  have X5 : Hid (Ext W w5) := hide (X4.out.trans hx5)
  have HRw := hide (fun w' (e : Ext w5 w') => hide (r_rows32 A5 A3 cp5 cp3 us [u] w' (TmsIn.ext ⟨r3, hin⟩ e) (HU4.out.ext (hx5.trans e)) r1 r2 (by simpa using p1') p2 (by rw [hpu]; rfl)))
  rw [hlen] at HRw
  have hl0 : 0 < [u].length := by simp
  obtain ⟨b, o, hA, -, -⟩ := (HU4.out.ext hx5).at_ hl0
  subst hA
  have HS := hide (fun w' (e : Ext w5 w') => by
    obtain ⟨b', o', hA, hb, q⟩ := ((HU4.out.ext hx5).ext e).at_ hl0
    cases hA
    exact q)
  simp only [Nat.zero_mul, Nat.add_zero, List.getElem_cons_zero] at HS
  have HUi : Hid (TmIn w5 u) := hide ((HU4.out.ext hx5).kids u (List.mem_singleton.2 rfl))
  have HB5 := hide (HB.out.ext X5.out)
  have HT5 := hide (HT.out.ext X5.out)
  rw [hlen]
  simp only [List.length_cons, List.length_nil, Nat.zero_add] at HRw ⊢
  have HSS := hide (fun w' (e : Ext w5 w') => And.intro (HS.out w' e) (HB5.out.ext e).cells)
  have H2 := hide (fun w' (e : Ext w5 w') => hide (m_legal u w' (HUi.out.ext e) HO.out.few (by omega)))
  rw [HO.out.legal, hl] at H2
  have H3 := hide (fun w' (e : Ext w5 w') => hide (m_size u w' (HUi.out.ext e) (by omega)))
  rw [HO.out.size] at H3
  have H4 := hide (fun w' (e : Ext w5 w') => hide (m_size t w' (HT5.out.ext e) (by omega)))
  have hvs := HF32.out.vsz
  have H5 := hide (fun w' (e : Ext w5 w') => hide (m_vars u w' (HUi.out.ext e) HO.out.few (by omega) (by rw [HO.out.vsz]; omega)))
  have H6 := hide (fun w' (e : Ext w5 w') => hide (m_vars t w' (HT5.out.ext e) HFM.out (by omega) (by omega)))
  have hvl : ((vrL u).length : Int) ≤ ((vrL t).length : Int) := by have := HO.out.vars; omega
  unfold tmV at H2 H3 H4 H5 H6
  generalize vrL u = LU at *
  generalize vrL t = LT at *
  obtain ⟨z0, z1⟩ := HSS.out w5 (Ext.refl _)
  obtain ⟨q0, q1, q2, q3, q4, q5⟩ := z0
  obtain ⟨c0, c1, c2, c3, c4, c5⟩ := z1
  have i0 : (0 : Int) < ((1 : Nat) : Int) := by decide
  have X05 := hide (X0.out.trans X5.out)
  have hdt : ((t.size : Int) == (t.size : Int)) = true := by simp
  clear HS HB HT HB5 HT5 HUi HU4 HP HO HF32 HFM hown hlen hin hpu hx5 r1 r2 r3 p1 p2 p1' husz hsz3 hvs HCn2 X2 X4 X5 X0 hd1 hd2 hl0 hl
  go_wp2
  go_region_held3 (fun w' => (w'.cell? ⟨b, o, none⟩ = some (.int .i64 u.kind) ∧ w'.cell? ⟨b, o + 1, none⟩ = some (.int .i64 u.n) ∧ w'.cell? ⟨b, o + 2, none⟩ = some (.string ⟨u.name.toArray⟩) ∧ w'.cell? ⟨b, o + 3, none⟩ = some (.slice u.V u.vars.length u.vc) ∧ w'.cell? ⟨b, o + 4, none⟩ = some (.slice u.T u.types.length u.tc) ∧ w'.cell? ⟨b, o + 5, none⟩ = some (.slice u.A u.kids.length u.cap)) ∧ (w'.cell? ⟨w.heap.size, 0, none⟩ = some (.int .i64 t.kind) ∧ w'.cell? ⟨w.heap.size, 1, none⟩ = some (.int .i64 t.n) ∧ w'.cell? ⟨w.heap.size, 2, none⟩ = some (.string ⟨t.name.toArray⟩) ∧ w'.cell? ⟨w.heap.size, 3, none⟩ = some (.slice t.V t.vars.length t.vc) ∧ w'.cell? ⟨w.heap.size, 4, none⟩ = some (.slice t.T t.types.length t.tc) ∧ w'.cell? ⟨w.heap.size, 5, none⟩ = some (.slice t.A t.kids.length t.cap))) (first | assumption | go_keep) (first
    | (go_at_call 19
       with_reducible refine Calls.mono (HRw.out _ (Ext.refl _).drew).out ?_
       rintro e y0 ⟨rfl, hx⟩
       have Y0 := hide ((Ext.refl w5).drew.trans hx)
       have k0 := HSS.out _ Y0.out
       clear hx)
    | (go_at_call 18
       with_reducible refine Calls.mono (H2.out _ Y0.out).out ?_
       rintro e y1 ⟨rfl, hx⟩
       have Y1 := hide (Y0.out.trans hx)
       have k1 := HSS.out _ Y1.out
       clear hx)
    | (go_at_call 20
       with_reducible refine Calls.mono (H3.out _ Y1.out).out ?_
       rintro e y2 ⟨rfl, hx⟩
       have Y2 := hide (Y1.out.trans hx)
       have k2 := HSS.out _ Y2.out
       clear hx)
    | (go_at_call 20
       with_reducible refine Calls.mono (H4.out _ Y2.out).out ?_
       rintro e y3 ⟨rfl, hx⟩
       have Y3 := hide (Y2.out.trans hx)
       have k3 := HSS.out _ Y3.out
       clear hx)
    | (go_at_call 21
       with_reducible refine Calls.mono (H5.out _ Y3.out).out ?_
       rintro e y4 ⟨⟨v4, rfl, hO4⟩, hx⟩
       obtain ⟨A4, c4', rfl, -, -, -, -⟩ := Ints.own hO4
       have Y4 := hide (Y3.out.trans hx)
       have k4 := HSS.out _ Y4.out
       clear hx hO4)
    | (go_at_call 21
       with_reducible refine Calls.mono (H6.out _ Y4.out).out ?_
       rintro e y5 ⟨⟨v5, rfl, hO5⟩, hx⟩
       obtain ⟨A5', c5', rfl, -, -, -, -⟩ := Ints.own hO5
       have Y5 := hide (Y4.out.trans hx)
       have k5 := HSS.out _ Y5.out
       clear hx hO5)
    | (go_at_call 11
       with_reducible refine Calls.mono (HAw.out _) ?_
       rintro e y6 ⟨rfl, hx⟩
       have Y6 := hide (Y5.out.trans hx)
       have k6 := HSS.out _ Y6.out
       clear hx))
  clear k0 k1 k2 k3 k4 k5 k6
  go_wp2
  go_ret
  exact ⟨rfl, X05.out.trans Y6.out⟩

end Go.Proofs.YtjacjpeeinnkcaaGreat
