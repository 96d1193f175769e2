/- The law FtermsMakes, walked. -/
import Derived.Test.YtjacjpeeinnkcaaGreatJB39
/- The law FtermsMakes, walked. -/
namespace Go.Proofs.YtjacjpeeinnkcaaGreat
open Go.RowKit

set_option maxRecDepth 10000 in
set_option maxHeartbeats 8000000 in
theorem law_makes (N : Option Addr) (nc : Nat) (names : List Str) (T : Option Addr) (tc : Nat) (types : List Ty) (A : Option Addr) (cap : Nat) (l : List Tm) (w : World) (hN : Strs w N names) (hs : ∀ x ∈ names, x.length ≤ 9223372036854775807) (hT : TysIn w T types) (hl : TmsIn w A l) (hle : l.length ≤ cap) (hcap : cap ≤ 9223372036854775807) :
    Calls Tryz.prog 3 #[.slice N names.length nc, .slice T types.length tc, .slice A l.length cap] w fun e w' => e = .returned (.bool true) ∧ Ext w w' := by
  have HAw := hide l_awake32
  have HN := hide hN
  have HT := hide hT
  have HL := hide hl
  have Hs := hide hs
  clear hN hT hl hs
  go_enter Tryz.func3, Tryz.ntmps3
  by_cases h1 : l.length = 0
  · have i1 : ((l.length : Int) == 0) = true := by rw [beq_iff_eq]; omega
    go_wp2_with fail
    refine (HAw.out _).mono ?_
    rintro e w9 ⟨rfl, hx⟩
    go_wp2
    go_ret
    exact ⟨rfl, hx⟩
  have i1 : ((l.length : Int) == 0) = false := by rw [beq_eq_false_iff_ne]; omega
  by_cases h2 : l.length > 10
  · have i2 : (l.length : Int) > 10 := by omega
    go_wp2_with fail
    refine (HAw.out _).mono ?_
    rintro e w9 ⟨rfl, hx⟩
    go_wp2
    go_ret
    exact ⟨rfl, hx⟩
  have i2 : ¬ (l.length : Int) > 10 := by omega
  by_cases h3 : names.length > 20
  · have i3 : (names.length : Int) > 20 := by omega
    go_wp2_with fail
    refine (HAw.out _).mono ?_
    rintro e w9 ⟨rfl, hx⟩
    go_wp2
    go_ret
    exact ⟨rfl, hx⟩
  have i3 : ¬ (names.length : Int) > 20 := by omega
  by_cases h4 : types.length > 20
  · have i4 : (types.length : Int) > 20 := by omega
    go_wp2_with fail
    refine (HAw.out _).mono ?_
    rintro e w9 ⟨rfl, hx⟩
    go_wp2
    go_ret
    exact ⟨rfl, hx⟩
  have i4 : ¬ (types.length : Int) > 20 := by omega
  go_wp2_with fail
  refine (l_few32 A cap l w HL.out (by omega)).mono ?_
  rintro e w2 ⟨⟨r, rfl, hr⟩, hx2⟩
  have X2 := hide hx2
  clear hx2
  rcases hr with rfl | ⟨rfl, -, -⟩
  · go_wp2_with fail
    refine (HAw.out _).mono ?_
    rintro e w9 ⟨rfl, hx⟩
    go_wp2
    go_ret
    exact ⟨rfl, X2.out.trans hx⟩
  go_wp2_with fail
  refine (l_few16 T tc types w2 (HT.out.ext X2.out) (by omega)).mono ?_
  rintro e w3 ⟨⟨r, rfl, hr⟩, hx3⟩
  have X3 := hide (X2.out.trans hx3)
  clear hx3
  rcases hr with rfl | ⟨rfl, -, -⟩
  · go_wp2_with fail
    refine (HAw.out _).mono ?_
    rintro e w9 ⟨rfl, hx⟩
    go_wp2
    go_ret
    exact ⟨rfl, X3.out.trans hx⟩
  have hl0 : 0 < l.length := by omega
  obtain ⟨b, o, rfl, -, -⟩ := HL.out.at_ hl0
  have HS := hide (fun w' (e : Ext w w') => by
    obtain ⟨b', o', hA, hb, q⟩ := (HL.out.ext e).at_ hl0
    cases hA
    exact q)
  simp only [Nat.zero_mul, Nat.add_zero] at HS
  have HC : Hid (TmsIn w (if cap = 1 then some ⟨b, o, none⟩ else (some (⟨b, o, none⟩ : Addr)).map (·.add (1 * 6))) (l.drop 1)) := hide (HL.out.cut (by omega) hle)
  have hdl : (l.drop 1).length = l.length - 1 := by simp
  have Ht0 : Hid (TmIn w (l[0]'hl0)) := hide (HL.out.kids _ (List.getElem_mem hl0))
  generalize l[0]'hl0 = t at *
  have H1 := hide (fun w' (e : Ext w w') => hide (m_lams N nc names T tc types t w' (HN.out.ext e) (HT.out.ext e) (Ht0.out.ext e) Hs.out (by omega) (by omega)))
  have H2 := hide (fun w' (e : Ext w w') => hide (r_lams32 N nc names T tc types t w' (HN.out.ext e) (HT.out.ext e) (Ht0.out.ext e) Hs.out (by omega) (by omega)))
  have H5 := hide (fun (a b : Tm) w' (ha : TmIn w' a) (hb : TmIn w' b) (h : a.pure = b.pure) => hide (r_same32 a b w' ha hb h))
  unfold tmV at H1 H2 H5
  obtain ⟨q0, q1, q2, q3, q4, q5⟩ := HS.out _ X3.out
  have i0 : (0 : Int) < (l.length : Int) := by omega
  have j1 : (1 : Int) ≤ (l.length : Int) := by omega
  have j2 : (1 : Int) ≤ (cap : Int) := by omega
  clear HN HT HL Hs
  by_cases hc : cap = 1
  · subst hc
    have HC1 : Hid (TmsIn w (some ⟨b, o, none⟩) (l.drop 1)) := hide (by have := HC.out; rw [if_pos rfl] at this; exact this)
    have H3 := hide (fun w' (e : Ext w w') => hide (m_apps (some ⟨b, o, none⟩) (0) (l.drop 1) t w' (HC1.out.ext e) (Ht0.out.ext e) (by omega)))
    have H4 := hide (fun w' (e : Ext w w') => hide (r_apps32 (some ⟨b, o, none⟩) (0) (l.drop 1) t w' (HC1.out.ext e) (Ht0.out.ext e) (by omega)))
    have h01 : l.length - 1 = 0 := by omega
    rw [hdl, h01] at H3 H4
    unfold tmV at H3 H4
    clear h01 hdl HC HC1 Ht0
    go_wp2
    go_region_held3 (fun w' => w'.cell? ⟨b, o, none⟩ = some (.int .i64 t.kind) ∧ w'.cell? ⟨b, o + 1, none⟩ = some (.int .i64 t.n) ∧ w'.cell? ⟨b, o + 2, none⟩ = some (.string ⟨t.name.toArray⟩) ∧ w'.cell? ⟨b, o + 3, none⟩ = some (.slice t.V t.vars.length t.vc) ∧ w'.cell? ⟨b, o + 4, none⟩ = some (.slice t.T t.types.length t.tc) ∧ w'.cell? ⟨b, o + 5, none⟩ = some (.slice t.A t.kids.length t.cap)) (first | assumption | go_keep) (first
    | (go_at_call 13
       with_reducible refine Calls.mono (H1.out _ (X3.out.trans (Ext.refl _).drew)).out ?_
       rintro e y0 ⟨⟨u1, rfl, hu1, hp1, -⟩, hx⟩
       have Y0 := hide ((X3.out.trans (Ext.refl w3).drew).trans hx)
       have k0 := HS.out _ Y0.out
       have U1 := hide hu1
       have P1 := hide hp1
       clear hx hu1 hp1)
    | (go_at_call 14
       with_reducible refine Calls.mono (H2.out _ Y0.out).out ?_
       rintro e y1 ⟨⟨u2, rfl, hu2, hp2, -⟩, hx⟩
       have Y1 := hide (Y0.out.trans hx)
       have k1 := HS.out _ Y1.out
       have U1' := hide (U1.out.ext hx)
       have U2 := hide hu2
       have P2 := hide (P1.out.trans hp2.symm)
       clear hx hu2 hp2)
    | (go_at_call 12
       with_reducible refine Calls.mono (H5.out _ _ _ U1'.out U2.out P2.out).out ?_
       rintro e y2 ⟨rfl, hx⟩
       have Y2 := hide (Y1.out.trans hx)
       have k2 := HS.out _ Y2.out
       clear hx)
    | (go_at_call 15
       with_reducible refine Calls.mono (H3.out _ Y2.out).out ?_
       rintro e y3 ⟨⟨u3, rfl, hu3, hp3, -⟩, hx⟩
       have Y3 := hide (Y2.out.trans hx)
       have k3 := HS.out _ Y3.out
       have U3 := hide hu3
       have P3 := hide hp3
       clear hx hu3 hp3)
    | (go_at_call 16
       with_reducible refine Calls.mono (H4.out _ Y3.out).out ?_
       rintro e y4 ⟨⟨u4, rfl, hu4, hp4, -⟩, hx⟩
       have Y4 := hide (Y3.out.trans hx)
       have k4 := HS.out _ Y4.out
       have U3' := hide (U3.out.ext hx)
       have U4 := hide hu4
       have P4 := hide (P3.out.trans hp4.symm)
       clear hx hu4 hp4)
    | (go_at_call 12
       with_reducible refine Calls.mono (H5.out _ _ _ U3'.out U4.out P4.out).out ?_
       rintro e y5 ⟨rfl, hx⟩
       have Y5 := hide (Y4.out.trans hx)
       have k5 := HS.out _ Y5.out
       clear hx)
    | (go_at_call 11
       with_reducible refine Calls.mono (HAw.out _) ?_
       rintro e y6 ⟨rfl, hx⟩
       have Y6 := hide (Y5.out.trans hx)
       have k6 := HS.out _ Y6.out
       clear hx))
    clear k0 k1 k2 k3 k4 k5 k6
    go_wp2
    go_ret
    exact ⟨rfl, Y6.out⟩
  · skip
    have HC1 : Hid (TmsIn w (some ⟨b, o + 6, none⟩) (l.drop 1)) := hide (by have := HC.out; rw [if_neg hc] at this; exact this)
    have H3 := hide (fun w' (e : Ext w w') => hide (m_apps (some ⟨b, o + 6, none⟩) (cap - 1) (l.drop 1) t w' (HC1.out.ext e) (Ht0.out.ext e) (by omega)))
    have H4 := hide (fun w' (e : Ext w w') => hide (r_apps32 (some ⟨b, o + 6, none⟩) (cap - 1) (l.drop 1) t w' (HC1.out.ext e) (Ht0.out.ext e) (by omega)))
    rw [hdl] at H3 H4
    unfold tmV at H3 H4
    clear hdl HC HC1 Ht0
    go_wp2
    go_region_held3 (fun w' => w'.cell? ⟨b, o, none⟩ = some (.int .i64 t.kind) ∧ w'.cell? ⟨b, o + 1, none⟩ = some (.int .i64 t.n) ∧ w'.cell? ⟨b, o + 2, none⟩ = some (.string ⟨t.name.toArray⟩) ∧ w'.cell? ⟨b, o + 3, none⟩ = some (.slice t.V t.vars.length t.vc) ∧ w'.cell? ⟨b, o + 4, none⟩ = some (.slice t.T t.types.length t.tc) ∧ w'.cell? ⟨b, o + 5, none⟩ = some (.slice t.A t.kids.length t.cap)) (first | assumption | go_keep) (first
    | (go_at_call 13
       with_reducible refine Calls.mono (H1.out _ (X3.out.trans (Ext.refl _).drew)).out ?_
       rintro e y0 ⟨⟨u1, rfl, hu1, hp1, -⟩, hx⟩
       have Y0 := hide ((X3.out.trans (Ext.refl w3).drew).trans hx)
       have k0 := HS.out _ Y0.out
       have U1 := hide hu1
       have P1 := hide hp1
       clear hx hu1 hp1)
    | (go_at_call 14
       with_reducible refine Calls.mono (H2.out _ Y0.out).out ?_
       rintro e y1 ⟨⟨u2, rfl, hu2, hp2, -⟩, hx⟩
       have Y1 := hide (Y0.out.trans hx)
       have k1 := HS.out _ Y1.out
       have U1' := hide (U1.out.ext hx)
       have U2 := hide hu2
       have P2 := hide (P1.out.trans hp2.symm)
       clear hx hu2 hp2)
    | (go_at_call 12
       with_reducible refine Calls.mono (H5.out _ _ _ U1'.out U2.out P2.out).out ?_
       rintro e y2 ⟨rfl, hx⟩
       have Y2 := hide (Y1.out.trans hx)
       have k2 := HS.out _ Y2.out
       clear hx)
    | (go_at_call 15
       with_reducible refine Calls.mono (H3.out _ Y2.out).out ?_
       rintro e y3 ⟨⟨u3, rfl, hu3, hp3, -⟩, hx⟩
       have Y3 := hide (Y2.out.trans hx)
       have k3 := HS.out _ Y3.out
       have U3 := hide hu3
       have P3 := hide hp3
       clear hx hu3 hp3)
    | (go_at_call 16
       with_reducible refine Calls.mono (H4.out _ Y3.out).out ?_
       rintro e y4 ⟨⟨u4, rfl, hu4, hp4, -⟩, hx⟩
       have Y4 := hide (Y3.out.trans hx)
       have k4 := HS.out _ Y4.out
       have U3' := hide (U3.out.ext hx)
       have U4 := hide hu4
       have P4 := hide (P3.out.trans hp4.symm)
       clear hx hu4 hp4)
    | (go_at_call 12
       with_reducible refine Calls.mono (H5.out _ _ _ U3'.out U4.out P4.out).out ?_
       rintro e y5 ⟨rfl, hx⟩
       have Y5 := hide (Y4.out.trans hx)
       have k5 := HS.out _ Y5.out
       clear hx)
    | (go_at_call 11
       with_reducible refine Calls.mono (HAw.out _) ?_
       rintro e y6 ⟨rfl, hx⟩
       have Y6 := hide (Y5.out.trans hx)
       have k6 := HS.out _ Y6.out
       clear hx))
    clear k0 k1 k2 k3 k4 k5 k6
    go_wp2
    go_ret
    exact ⟨rfl, Y6.out⟩

end Go.Proofs.YtjacjpeeinnkcaaGreat
