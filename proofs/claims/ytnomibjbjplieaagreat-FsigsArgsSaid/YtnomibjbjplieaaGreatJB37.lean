/- The law FsigsArgs, walked. -/
import Derived.Test.YtnomibjbjplieaaGreatJB36
import Derived.RegionTactic
import Derived.Deep.RegionHeld3
/- The law FsigsArgs, walked. -/
namespace Go.Proofs.YtnomibjbjplieaaGreat
open Go.RowKit

theorem conIx_drop (s : Str) (d : DaD) : conIx s d = ((d.cons.drop 0).findIdx? fun c => c.name == s).map (· + 0) := by rw [List.drop_zero]; simp [conIx]

set_option maxRecDepth 10000 in
set_option maxHeartbeats 2000000 in
theorem law_args (x : EnD) (name : Str) (w : World) (h : EnIn w x) (hms : ∀ c ∈ x.classes, c.meths.length ≤ 2000000000000) :
    Calls Tryz.prog 4 #[enV x, encStr name] w fun e w' => e = .returned (.bool true) ∧ Ext w w' := by
  have HAw := hide l_awake33
  obtain ⟨W, hW⟩ : ∃ W, W = w.alloc (.cells #[.slice x.D x.datas.length x.dc, .slice x.C x.classes.length x.cc, .slice x.I x.insts.length x.ic] 26) := ⟨_, rfl⟩
  have HW := hide hW.symm
  have X0 : Hid (Ext w W) := hide (by rw [hW]; exact (Ext.refl _).alloc _)
  have B1 : Hid (EnBox W w.heap.size x) := hide (by rw [hW]; exact EnBox.new w x)
  have HFw := hide (l_few33 x W (h.ext X0.out) hms)
  have HCon := hide (fun (hf : EnFew x) w' (e : Ext W w') => hide (f_con x name w' (h.ext (X0.out.trans e)) hf.da))
  have HD := hide h.datas
  obtain ⟨c0, c1, c2⟩ := B1.out.cells
  have hb := B1.out.lt
  have hdm := h.dmax
  have hdl := h.dle
  clear h hW hms
  unfold enV at *
  go_enter Tryz.func4, Tryz.ntmps4
  go_upto_region 1 with fail
  rw [HW.out]
  clear HW
  go_wp2_with fail
  refine HFw.out.mono ?_
  rintro e w2 ⟨⟨r, rfl, hr⟩, hx⟩
  have Y2 := hide hx
  have d0 := hx.cell c0
  have d1 := hx.cell c1
  have d2 := hx.cell c2
  have hb2 : w.heap.size < w2.heap.size := by have := hx.size; omega
  clear hx HFw c0 c1 c2
  rcases hr with rfl | ⟨rfl, hf⟩
  · go_wp2_with fail
    refine (HAw.out w2).mono ?_
    rintro e w3 ⟨rfl, hx⟩
    go_wp2
    go_ret
    exact ⟨rfl, X0.out.trans (Y2.out.trans hx)⟩
  have HF := hide hf
  have HC := hide (HCon.out hf w2 Y2.out)
  clear hf HCon
  obtain ⟨F, hF⟩ : ∃ F, F = conF name x.datas := ⟨_, rfl⟩
  rw [← hF] at HC
  have HF0 : Hid (F = conF name (x.datas.drop 0)) := hide (by rw [hF, List.drop_zero])
  clear hF
  unfold poV at HC
  go_wp2_with fail
  refine HC.out.out.mono ?_
  rintro e w3 ⟨⟨p, rfl, hp⟩, hx⟩
  have Y3 := hide (Y2.out.trans hx)
  have HPo := hide hp.po
  have HPv := hide hp.vars
  have HPt := hide hp.ty
  have hple := hp.po.le
  have hpmx := hp.po.max
  clear hx hp HC d0 d1 d2 hb2
  obtain ⟨W4, hW4⟩ : ∃ W', W' = w3.alloc (.cells #[.slice p.A p.vars.length p.cap, encStr p.ty.con, .int .i64 p.ty.var, .slice p.ty.A p.ty.args.length p.ty.cap] 34) := ⟨_, rfl⟩
  have X34 : Hid (Ext w3 W4) := hide (by rw [hW4]; exact (Ext.refl _).alloc _)
  have HPb : Hid (PBox W4 w3.heap.size p) := hide (by rw [hW4]; exact PBox.new w3 p)
  have Y4 : Hid (Ext W W4) := hide (Y3.out.trans X34.out)
  have HPi := hide (HPo.out.ext X34.out)
  go_upto_region 4 with fail
  rw [← hW4]
  clear hW4
  obtain ⟨e0, e1, e2, e3⟩ := HPb.out.cells
  have hb4 := HPb.out.lt
  cases F with
  | none =>
    have hv : p.vars.length = 0 := by rw [HPv.out]; rfl
    rw [hv] at e0
    clear hv hple
    go_wp2_with fail
    refine (HAw.out W4).mono ?_
    rintro e w5 ⟨rfl, hx⟩
    go_wp2
    go_ret
    exact ⟨rfl, X0.out.trans (Y4.out.trans hx)⟩
  | some dk =>
    obtain ⟨d, k⟩ := dk
    have hsz : p.ty.size ≤ 100000 := by
      have h1 := conF_some HF0.out.symm
      obtain ⟨h2, hk, h3⟩ := h1
      rw [List.drop_zero] at h2
      have h4 := HF.out.da d h2
      have h5 := h4.2.2 _ (List.getElem_mem hk)
      rw [size_pure, HPt.out, conTy_some hk, sz_funP, ofP_size]
      have h6 := h4.1
      have h7 := h5.1
      have h8 := h5.2
      omega
    have HSp := hide (r_split p.ty W4 HPi.out.ty hsz)
    have HSf : Hid (∀ (hk : k < d.cons.length), (d.cons[k]'hk).types.length ≤ (splitL p.ty).length ∧ ((splitL p.ty).take (d.cons[k]'hk).types.length).map Ty.pure = (d.cons[k]'hk).types.map Ty.pure) := hide (fun hk => splitL_fun _ _ _ (HPt.out.trans (conTy_some hk)))
    clear hsz HPo HPv HPt hple
    generalize splitL p.ty = L at *
    unfold tyV at HSp
    go_wp2_with fail
    refine HSp.out.mono ?_
    rintro e w5 ⟨⟨A5, c5, u, rfl, hts, hle5, hmx5⟩, hx⟩
    have Y5 := hide (Y4.out.trans hx)
    have HTs := hide hts
    clear hx hts HSp e0 e1 e2 e3 hb4
    obtain ⟨W6, hW6⟩ : ∃ W', W' = w5.alloc (.cells #[encStr u.con, .int .i64 u.var, .slice u.A u.args.length u.cap] 32) := ⟨_, rfl⟩
    have X56 : Hid (Ext w5 W6) := hide (by rw [hW6]; exact (Ext.refl _).alloc _)
    have Y6 : Hid (Ext W W6) := hide (Y5.out.trans X56.out)
    have HTs6 := hide (HTs.out.ext X56.out)
    go_upto_region 7 with fail
    rw [← hW6]
    clear hW6
    go_wp2
    go_loopw [9] (fun i wr => ∃ m : Nat, m ≤ x.datas.length ∧ i = .int .i64 m ∧ Hid (Ext W6 wr) ∧ Hid (some (d, k) = conF name (x.datas.drop m))) (fun i _ => x.datas.length - (intOf i).toNat)
    case atStart => exact ⟨0, Nat.zero_le _, rfl, hide (Ext.refl _), HF0⟩
    case round =>
      obtain ⟨m, hm, rfl, HX, HR⟩ := hrel
      have YR := hide (Y6.out.trans HX.out)
      obtain ⟨e0, e1, e2⟩ := (B1.out.ext YR.out).cells
      have hbr := (B1.out.ext YR.out).lt
      by_cases hlt : m < x.datas.length
      · have hlt' : (m : Int) < (x.datas.length : Int) := by omega
        have hk0 : (0 : Int) ≤ (m : Int) := by omega
        obtain ⟨b, o, hA, hb4, q0, q1, q2⟩ := (HD.out.ext (X0.out.trans YR.out)).at_ hlt
        have HDk := hide (HD.out.all _ (List.getElem_mem hlt))
        have HR2 := hide (HR.out.trans (conF_step name x.datas hlt))
        have HDB : Hid (∀ w', Ext wr w' → w'.cell? ⟨b, o + m * 3 + 2, none⟩ = some (.slice (x.datas[m]'hlt).A (x.datas[m]'hlt).cons.length (x.datas[m]'hlt).cap) ∧ b < w'.heap.size) := hide (fun w' e => ⟨e.cell q2, by have := e.size; omega⟩)
        generalize x.datas[m]'hlt = dd at *
        have hdl4 := HDk.out.le
        have hdm4 := HDk.out.max
        have HCo := hide HDk.out.row
        obtain ⟨G, hG⟩ : ∃ G, G = conIx name dd := ⟨_, rfl⟩
        rw [← hG] at HR2
        have HG : Hid (G = ((dd.cons.drop 0).findIdx? fun c => c.name == name).map (· + 0)) := hide (by rw [hG]; exact conIx_drop name dd)
        have HEB : Hid (∀ w', Ext wr w' → w'.cell? ⟨w.heap.size, 0, none⟩ = some (.slice (some ⟨b, o, none⟩) x.datas.length x.dc) ∧ w.heap.size < w'.heap.size) := hide (fun w' e => by
          have hc := ((B1.out.ext (YR.out.trans e)).cells).1
          rw [hA] at hc
          exact ⟨hc, (B1.out.ext (YR.out.trans e)).lt⟩)
        rw [hA] at e0
        clear hG hA q0 q1 HR
        go_wp2
        rename World => wA
        go_loopw [10] (fun j wr => ∃ n : Nat, n ≤ dd.cons.length ∧ j = .int .i64 n ∧ Hid (Ext wA wr) ∧ Hid (G = ((dd.cons.drop n).findIdx? fun c => c.name == name).map (· + n))) (fun j _ => dd.cons.length - (intOf j).toNat)
        case atStart => exact ⟨0, Nat.zero_le _, rfl, hide (Ext.refl _), HG⟩
        case round =>
          obtain ⟨n, hn, rfl, HY, HS⟩ := hrel
          have YS := hide (YR.out.trans HY.out)
          obtain ⟨f0, hbe⟩ := HEB.out _ HY.out
          obtain ⟨f2, hbd⟩ := HDB.out _ HY.out
          clear e0 e1 e2 q2
          by_cases hln : n < dd.cons.length
          · have hln' : (n : Int) < (dd.cons.length : Int) := by omega
            have hn0 : (0 : Int) ≤ (n : Int) := by omega
            obtain ⟨b2, o2, hA2, hb5, r0, r1⟩ := (HCo.out.ext (X0.out.trans YS.out)).at_ hln
            have HCm := hide ((HCo.out.ext (X0.out.trans YS.out)).all _ (List.getElem_mem hln))
            have HS2 := hide (HS.out.trans (findIdx_step dd.cons (fun c => c.name == name) hln))
            have HcE : Hid (∀ (hk : n < dd.cons.length), dd.cons[n]'hk = dd.cons[n]'hln) := hide (fun _ => rfl)
            generalize dd.cons[n]'hln = c at *
            rw [hA2] at f2
            cases hc : (c.name == name)
            · rw [hc] at HS2
              go_wp2
              go_roundw
              case rel => exact ⟨n + 1, hln, by go_num, hide (HY.out.alloc _), hide (by have := HS2.out; simpa using this)⟩
              case measure => simp [intOf]; omega
            · rw [hc] at HS2
              have hG : G = some n := by have := HS2.out; simpa using this
              have HR3 : Hid (d = dd ∧ k = n) := hide (by
                have := HR2.out
                rw [hG] at this
                injection this with this
                injection this with h1 h2
                exact ⟨h1, h2⟩)
              obtain ⟨hle6, htk⟩ : c.types.length ≤ L.length ∧ (L.take c.types.length).map Ty.pure = c.types.map Ty.pure := by
                obtain ⟨h1, h2⟩ := HR3.out
                subst h1 h2
                have := HSf.out hln
                rw [HcE.out hln] at this
                exact this
              have hge6 : (c.types.length : Int) ≤ (L.length : Int) := by omega
              have hge7 : (c.types.length : Int) ≤ (c5 : Int) := by omega
              have hge8 : (0 : Int) ≤ (c.types.length : Int) := by omega
              have hcle := HCm.out.le
              have hcmx := HCm.out.max
              have hTk : (L.take c.types.length).length = c.types.length := by rw [List.length_take]; omega
              have HAl := hide (fun w' (e : Ext wr w') => hide (r_all16T A5 c.A c5 c.cap (L.take c.types.length) c.types w' (TysIn.ext ⟨RowOf.take tyC HTs6.out.row hle6, fun y hy => HTs6.out.args y (List.mem_of_mem_take hy)⟩ (HX.out.trans (HY.out.trans e))) (HCm.out.row.ext e) htk (by omega)))
              rw [hTk] at HAl
              have HE := hide (Ext.refl wr)
              have YF := hide (X0.out.trans YS.out)
              have HcB : Hid (CoBox (wr.alloc (.cells #[encStr c.name, .slice c.A c.types.length c.cap] 57)) wr.heap.size c) := hide (CoBox.new wr c)
              obtain ⟨WB, hWB⟩ : ∃ WB, WB = wr.alloc (.cells #[encStr c.name, .slice c.A c.types.length c.cap] 57) := ⟨_, rfl⟩
              have XB : Hid (Ext wr WB) := hide (by rw [hWB]; exact (Ext.refl _).alloc _)
              rw [← hWB] at HcB
              clear htk HSf HR3 hG HS2 HS HG hTk
              go_upto_region 14 with fail
              rw [← hWB]
              clear hWB
              obtain ⟨k0, k1⟩ := HcB.out.cells
              have hbB := HcB.out.lt
              have HK := hide (fun w' (e : Ext WB w') => (HcB.out.ext e).cells.2)
              go_wp2
              go_region_held3 (fun w' => w'.cell? ⟨wr.heap.size, 1, none⟩ = some (.slice c.A c.types.length c.cap)) (first | assumption | go_keep) (first
              | (go_at_call 19
                 with_reducible refine Calls.mono (HAl.out _ (XB.out.trans (Ext.refl _).drew)).out ?_
                 rintro e y0 ⟨rfl, hx⟩
                 have Y0 := hide ((XB.out.trans (Ext.refl WB).drew).trans hx)
                 have Z0 := hide ((Ext.refl WB).drew.trans hx)
                 have kk := HK.out _ Z0.out
                 clear hx)
              | (go_at_call 6
                 with_reducible refine Calls.mono (HAw.out y0) ?_
                 rintro e y1 ⟨rfl, hx⟩
                 have Y1 := hide (Y0.out.trans hx)
                 have kk1 := HK.out _ (Z0.out.trans hx)
                 clear hx))
              go_wp2
              go_ret
              exact ⟨rfl, YF.out.trans Y1.out⟩
          · have hge : ¬ (n : Int) < (dd.cons.length : Int) := by omega
            have hG : G = none := HS.out.trans (findIdx_end dd.cons (fun c => c.name == name) hln)
            have HR3 : Hid (some (d, k) = conF name (x.datas.drop (m + 1))) := hide (by have := HR2.out; rw [hG] at this; exact this)
            go_wp2
            go_roundw
            case rel => exact ⟨m + 1, hlt, by go_num, hide (HX.out.trans HY.out), HR3⟩
            case measure => simp [intOf]; omega
      · exfalso
        have := HR.out
        rw [List.drop_eq_nil_of_le (by omega)] at this
        cases this

end Go.Proofs.YtnomibjbjplieaaGreat
