/- Contract: a term with bound names told by numbers: the walk. (A program of ours has printed the frames.) -/
import Derived.Test.YtjacjpeeinnkcaaGreatJB36
import Derived.Deep.DeepCutAuto
/- Contract: a term with bound names told by numbers: the walk. (A program of ours has printed the frames.) -/
namespace Go.Proofs.YtjacjpeeinnkcaaGreat
open Go.RowKit Go.Sort Go.Maps

/-- What a term becomes: a contract. -/
def TermsTo (t : Tm) : Prop := ∀ (w0 w : World) (cb : Nat) (r : Option Nat) (V : Option Addr) (vc : Nat) (T : Option Addr) (tc n : Nat) (c : Cn) (nv nn : Int), TmIn w0 t → FewM t → Below w0.heap.size w0 w → w0.heap.size ≤ cb → w.heap[cb]? = some (.cells #[.int .i64 nv, .int .i64 nn] 107 (0, 0)) →
  CnIn w r V T n c → OffB cb V c.vars.length → OffB cb T c.tys.length → t.size ≤ 10000 → n + t.size * 10000 ≤ 1000000000 → c.vars.length + t.size * 10000 ≤ 100000000 → 0 ≤ nv → nv + (t.size * 10000 : Nat) ≤ 1000000000000 → 0 ≤ nn → nn + (t.size : Nat) ≤ 1000000000000 →
  Calls Tryz.prog 56 #[.agg #[.map r, .slice V c.vars.length vc, .slice T c.tys.length tc], .pointer (some ⟨cb, 0, none⟩), tmV t] w fun e w' =>
    ∃ u, e = .returned (tmV u) ∧ TmIn w' u ∧ u.pure = (canQ numS t.pure c nv nn).1 ∧ (∀ k, k < w.heap.size → AwayM k t → AwayM k u) ∧
      w'.heap[cb]? = some (.cells #[.int .i64 (canQ numS t.pure c nv nn).2.1, .int .i64 (canQ numS t.pure c nv nn).2.2] 107 (0, 0)) ∧ w.grownBy w' (some cb)

set_option maxRecDepth 100000 in
set_option maxHeartbeats 8000000 in
theorem c_term1 (t : Tm) (ih : ∀ k ∈ t.kids, TermsTo k) : TermsTo t := by
  intro w0 w cb r V vc T tc n c nv nn ht hf hB hcb hcnt hc ov ot hsz hn hvl hnv0 hnv1 hnn0 hnn1
  obtain ⟨m, rfl⟩ := Int.eq_ofNat_of_zero_le hnn0
  clear hnn0
  obtain ⟨W, hW⟩ : ∃ W, W = ((w.alloc (.cells #[.map r, .slice V c.vars.length vc, .slice T c.tys.length tc] 110)).alloc (.cells #[.int .i64 t.kind, .int .i64 t.n, encStr t.name, .slice t.V t.vars.length t.vc, .slice t.T t.types.length t.tc, .slice t.A t.kids.length t.cap] 31)).alloc (.cells #[.int .i64 0, .int .i64 0, .string ⟨#[]⟩, .slice none 0 0, .slice none 0 0, .slice none 0 0] 31) := ⟨_, rfl⟩
  have HW := hide hW.symm
  have X0 : Hid (Ext w W) := hide (by rw [hW]; exact (((Ext.refl _).alloc _).alloc _).alloc _)
  have hWs : w.heap.size + 3 ≤ W.heap.size := by rw [hW]; simp
  have S0 := hide (tmst_start w0 w cb r V vc T tc n c nv (m : Nat) t ht hB hcb hcnt hc ov ot W hW)
  have IH := hide ih
  have Ht := hide ht
  have Hf := hide hf
  have HB := hide hB
  have HBi := hide (fun w' (e : Ext w w') => hide (m_binds t w' ((ht.old hB).ext e) (by omega)))
  have hcl := lt_of_obj hcnt
  have hvl2 := hf.vl
  have hsz1 := t.size_pos
  have hmul := Nat.mul_le_mul_right 10000 hsz1
  have Hlen := hide hc.len
  have htx := ht.hd.txt
  have hbl := bindsM_lt hsz
  clear hW ht hf hB hcnt hc ov ot ih
  obtain ⟨cA, hcA⟩ : ∃ x, x = (stepA t.kind t.name t.vars (bindsM t) c nv).1 := ⟨_, rfl⟩
  obtain ⟨sA, hsA⟩ : ∃ x, x = (stepA t.kind t.name t.vars (bindsM t) c nv).2.1 := ⟨_, rfl⟩
  obtain ⟨vA, hvA⟩ : ∃ x, x = (stepA t.kind t.name t.vars (bindsM t) c nv).2.2.1 := ⟨_, rfl⟩
  obtain ⟨nA, hnA⟩ : ∃ x, x = (stepA t.kind t.name t.vars (bindsM t) c nv).2.2.2 := ⟨_, rfl⟩
  have HA : Hid (stepA t.kind t.name t.vars (bindsM t) c nv = (cA, sA, vA, nA)) := hide (by rw [hcA, hsA, hvA, hnA])
  clear hcA hsA hvA hnA
  have HAp : Hid (∀ a b d e, stepA t.kind t.name t.vars (bindsM t) c nv = (a, b, d, e) → cA = a ∧ sA = b ∧ vA = d ∧ nA = e) := hide (fun a b d e h => by have := HA.out.symm.trans h; simpa using this)
  obtain ⟨cQ, hcQ⟩ : ∃ x, x = (stepQ numS t.kind t.name t.vars (t.kids.map Tm.pure) c nv m).1 := ⟨_, rfl⟩
  obtain ⟨sQ, hsQ⟩ : ∃ x, x = (stepQ numS t.kind t.name t.vars (t.kids.map Tm.pure) c nv m).2.1 := ⟨_, rfl⟩
  obtain ⟨vQ, hvQ⟩ : ∃ x, x = (stepQ numS t.kind t.name t.vars (t.kids.map Tm.pure) c nv m).2.2.1 := ⟨_, rfl⟩
  obtain ⟨nQ, hnQ⟩ : ∃ x, x = (stepQ numS t.kind t.name t.vars (t.kids.map Tm.pure) c nv m).2.2.2.1 := ⟨_, rfl⟩
  obtain ⟨mQ, hmQ⟩ : ∃ x, x = (stepQ numS t.kind t.name t.vars (t.kids.map Tm.pure) c nv m).2.2.2.2 := ⟨_, rfl⟩
  have HQ : Hid (stepQ numS t.kind t.name t.vars (t.kids.map Tm.pure) c nv m = (cQ, sQ, vQ, nQ, mQ)) := hide (by rw [hcQ, hsQ, hvQ, hnQ, hmQ])
  have HQp := hide (step_both HA.out HQ.out)
  clear hcQ hsQ hvQ hnQ hmQ
  have k0 := bytes_block S0.out.b1 0
  simp only [List.getElem?_toArray, List.getElem?_cons_zero] at k0
  unfold tmV at HBi ⊢
  go_enter Tryz.func56, Tryz.ntmps56
  go_upto_region 1 with fail
  rw [HW.out]
  go_upto_if 27 with fail
  refine wp_cutB (fun a' wx => ∃ u7 u8 u9 u10 u17 u18 u19 u20 u21 u22 u23 u24 u25 u26 u27 u28 u29 u30 u31 u32 u33 u34 u35 u36 u37 u38 u39 u40 u41 u42 u43 u44 u45 u46 u47 u48 u49 u50 u51 u52 u53 u54 u55 u56 u57 u58 u59 : Value, (∃ (n' : Nat) (r' : Option Nat) (V' : Option Addr) (vc' : Nat) (T' : Option Addr) (tc' : Nat) (A' : Option Addr) (ac' : Nat), n' ≤ n + 9999 ∧ Hid (TmSt w cb t n' cA sA vA nA (m : Nat) r' V' vc' T' tc' A' ac' wx) ∧ (t.kind = 3 → ∃ b, r' = some b ∧ w.heap.size ≤ b)) ∧
    a' = { tmps := #[.agg #[.map r, .slice V c.vars.length vc, .slice T c.tys.length tc], .pointer (some ⟨cb, 0, none⟩), .agg #[.int .i64 t.kind, .int .i64 t.n, encStr t.name, .slice t.V t.vars.length t.vc, .slice t.T t.types.length t.tc, .slice t.A t.kids.length t.cap], .pointer (some ⟨w.heap.size, 0, none⟩), undef, .pointer (some ⟨w.heap.size + 1, 0, none⟩), .pointer (some ⟨w.heap.size + 1 + 1, 0, none⟩), u7, u8, u9, u10, undef, undef, undef, undef, undef, undef, u17, u18, u19, u20, u21, u22, u23, u24, u25, u26, u27, u28, u29, u30, u31, u32, u33, u34, u35, u36, u37, u38, u39, u40, u41, u42, u43, u44, u45, u46, u47, u48, u49, u50, u51, u52, u53, u54, u55, u56, u57, u58, u59, undef, undef, undef, undef, undef, undef, undef, undef, undef, undef, undef, undef, undef, undef, undef, undef, undef, undef, undef, undef, undef, undef, undef, undef, undef, undef, undef, undef, undef, undef, undef, undef, undef, undef, undef, undef, undef, undef, undef, undef, undef, undef, undef, undef, undef, undef, undef, undef, undef, undef, undef, undef, undef, undef, undef, undef, undef, undef, undef, undef, undef, undef, undef, undef, undef, undef, undef], defers := [] }) ?rest ?first
  case first =>
    intro J K' hJ hK'
    have k1 := bytes_block S0.out.b1 1
    have k2 := bytes_block S0.out.b1 2
    have k3 := bytes_block S0.out.b1 3
    have k4 := bytes_block S0.out.b1 4
    have k5 := bytes_block S0.out.b1 5
    have d0 := bytes_block S0.out.b0 0
    have d1 := bytes_block S0.out.b0 1
    have d2 := bytes_block S0.out.b0 2
    simp only [List.getElem?_toArray, List.getElem?_cons_succ, List.getElem?_cons_zero] at k1 k2 k3 k4 k5 d0 d1 d2
    cases h1 : (t.kind == 1)
    · cases h5 : (t.kind == 5)
      · cases h11 : (t.kind == 11)
        · have HKn : Hid (¬ t.kind = 1 ∧ ¬ (t.kind = 5 ∨ t.kind = 11)) := hide (by simp at h1 h5 h11; omega)
          have Hst : Hid (stepA t.kind t.name t.vars (bindsM t) c nv = (c.within (bindsM t), t.name, t.vars, nv)) := hide (by unfold stepA; rw [if_neg HKn.out.1, if_neg HKn.out.2])
          have Htx := hide (bindsM_txt Ht.out)
          have H3 : Hid (t.kind = 3 → (bindsM t).length = 1) := hide (fun h => by rw [bindsM_lam h]; rfl)
          have Hnl : Hid ((bindsM t).length = 0 → c.within (bindsM t) = c) := hide (fun h => by rw [List.eq_nil_of_length_eq_zero h]; rfl)
          go_wp2_with fail
          refine (HBi.out _ X0.out).out.mono ?_
          rintro e w2 ⟨⟨A2, c2', rfl, hN⟩, hx⟩
          have S2 := hide (S0.out.ext hx)
          have N2 := hide hN.row
          have j0 := bytes_block S2.out.b0 0
          have j1 := bytes_block S2.out.b0 1
          have j2 := bytes_block S2.out.b0 2
          simp only [List.getElem?_toArray, List.getElem?_cons_succ, List.getElem?_cons_zero] at j0 j1 j2
          clear hN hx HBi k1 k2 k3 k4 k5 d0 d1 d2 HA
          generalize bindsM t = B at *
          by_cases h0 : B.length = 0
          · have h0' : ¬ (B.length : Int) > 0 := by omega
            have h3 : ¬ t.kind = 3 := fun h => by have := H3.out h; omega
            have H3' := hide h3
            have Hst2 : Hid (stepA t.kind t.name t.vars B c nv = (c, t.name, t.vars, nv)) := hide (by rw [Hst.out, Hnl.out h0])
            clear h0 h3
            go_wp2
            go_meet
            obtain ⟨e1, e2, e3, e4⟩ := HAp.out _ _ _ _ Hst2.out
            rw [e1, e2, e3, e4]
            exact ⟨n, r, V, vc, T, tc, t.V, t.vc, by omega, S2, fun h => absurd h H3'.out⟩
          · have h0' : (B.length : Int) > 0 := by omega
            have HWi := hide (c_within w2 (.map r) V T c.vars.length vc c.tys.length tc n c.look A2 c2' B S2.out.cn.nm N2.out Htx.out (by omega) (by omega))
            clear h0
            go_wp2_with fail
            refine HWi.out.mono ?_
            rintro e w3 ⟨⟨b, rfl, hb, hm⟩, hx3⟩
            have S3 := hide (S2.out.within hcl hx3 B hm)
            have c0 := (hx3.heap (lt_of_obj S2.out.b0)).trans S2.out.b0
            have hwb := S2.out.g.size
            have f0 := free_block c0 0
            have f1 := free_block c0 1
            have f2 := free_block c0 2
            have j0 := bytes_block c0 0
            have j1 := bytes_block c0 1
            have j2 := bytes_block c0 2
            simp only [List.getElem?_toArray, List.getElem?_cons_succ, List.getElem?_cons_zero] at j0 j1 j2
            clear hm hx3 c0
            go_wp2
            go_meet
            obtain ⟨e1, e2, e3, e4⟩ := HAp.out _ _ _ _ Hst.out
            rw [e1, e2, e3, e4]
            exact ⟨n + B.length, some b, V, vc, T, tc, t.V, t.vc, by omega, S3, fun _ => ⟨b, rfl, by omega⟩⟩
        · have HK : Hid (t.kind = 5 ∨ t.kind = 11) := hide (by simp at h11; omega)
          have HK3 : Hid (¬ t.kind = 3) := hide (by simp at h11; omega)
          have HO := hide (c_open W r V T vc tc c.vars c.tys cb nv (m : Nat) t.V t.vc t.vars S0.out.cn.vars S0.out.cn.tys S0.out.cnt S0.out.own (S0.out.far cb (.inl rfl)).1 (S0.out.far cb (.inl rfl)).2.1 (S0.out.far cb (.inl rfl)).2.2 (by omega) (by have := Hlen.out; omega) hnv0 (by omega))
          go_wp2_with fail
          refine HO.out.mono ?_
          rintro e w2 ⟨⟨V', vc', T', tc', A', cap', rfl, hV, hT, hA, nV, nT, nA, a1, a2⟩, hc2, hg⟩
          have hl2 : (t.vars ++ c.vars).length = (rowI nv t.vars.length ++ c.tys).length := by rw [List.length_append, List.length_append, rowI_len, Hlen.out]
          have S2 := hide (S0.out.opened hcl hg (vc' := vc') (tc' := tc') (m := t.vars.length) (rowI_len _ _) hV hT hA nV nT nA hl2 (by rw [rowI_len]; exact a1) a2 hc2)
          have c0 := (hg.block _ (lt_of_obj S0.out.b0) (fun e => by injection e with e; omega)).trans S0.out.b0
          have c1 := (hg.block _ (lt_of_obj S0.out.b1) (fun e => by injection e with e; omega)).trans S0.out.b1
          have f0 := free_block c0 0
          have f1 := free_block c0 1
          have f2 := free_block c0 2
          have f3 := free_block c1 3
          have j0 := bytes_block c0 0
          have j1 := bytes_block c0 1
          have j2 := bytes_block c0 2
          have j3 := bytes_block c1 3
          simp only [List.getElem?_toArray, List.getElem?_cons_succ, List.getElem?_cons_zero] at j0 j1 j2 j3
          have Hst : Hid (stepA t.kind t.name t.vars (bindsM t) c nv = (⟨c.names, t.vars ++ c.vars, rowI nv t.vars.length ++ c.tys⟩, t.name, rowI nv t.vars.length, nv + t.vars.length)) := hide (by unfold stepA; rw [if_neg (by simpa using h1), if_pos HK.out])
          clear hV hT hA nV nT nA hc2 hg hl2 c0 c1
          generalize t.vars ++ c.vars = vs' at *
          generalize rowI nv t.vars.length ++ c.tys = tys' at *
          go_wp2
          go_meet
          obtain ⟨e1, e2, e3, e4⟩ := HAp.out _ _ _ _ Hst.out
          rw [e1, e2, e3, e4]
          exact ⟨n, r, V', vc', T', tc', A', cap', by omega, S2, fun h => absurd h HK3.out⟩
      · have HK : Hid (t.kind = 5 ∨ t.kind = 11) := hide (by simp at h5; omega)
        have HK3 : Hid (¬ t.kind = 3) := hide (by simp at h5; omega)
        have HO := hide (c_open W r V T vc tc c.vars c.tys cb nv (m : Nat) t.V t.vc t.vars S0.out.cn.vars S0.out.cn.tys S0.out.cnt S0.out.own (S0.out.far cb (.inl rfl)).1 (S0.out.far cb (.inl rfl)).2.1 (S0.out.far cb (.inl rfl)).2.2 (by omega) (by have := Hlen.out; omega) hnv0 (by omega))
        go_wp2_with fail
        refine HO.out.mono ?_
        rintro e w2 ⟨⟨V', vc', T', tc', A', cap', rfl, hV, hT, hA, nV, nT, nA, a1, a2⟩, hc2, hg⟩
        have hl2 : (t.vars ++ c.vars).length = (rowI nv t.vars.length ++ c.tys).length := by rw [List.length_append, List.length_append, rowI_len, Hlen.out]
        have S2 := hide (S0.out.opened hcl hg (vc' := vc') (tc' := tc') (m := t.vars.length) (rowI_len _ _) hV hT hA nV nT nA hl2 (by rw [rowI_len]; exact a1) a2 hc2)
        have c0 := (hg.block _ (lt_of_obj S0.out.b0) (fun e => by injection e with e; omega)).trans S0.out.b0
        have c1 := (hg.block _ (lt_of_obj S0.out.b1) (fun e => by injection e with e; omega)).trans S0.out.b1
        have f0 := free_block c0 0
        have f1 := free_block c0 1
        have f2 := free_block c0 2
        have f3 := free_block c1 3
        have j0 := bytes_block c0 0
        have j1 := bytes_block c0 1
        have j2 := bytes_block c0 2
        have j3 := bytes_block c1 3
        simp only [List.getElem?_toArray, List.getElem?_cons_succ, List.getElem?_cons_zero] at j0 j1 j2 j3
        have Hst : Hid (stepA t.kind t.name t.vars (bindsM t) c nv = (⟨c.names, t.vars ++ c.vars, rowI nv t.vars.length ++ c.tys⟩, t.name, rowI nv t.vars.length, nv + t.vars.length)) := hide (by unfold stepA; rw [if_neg (by simpa using h1), if_pos HK.out])
        clear hV hT hA nV nT nA hc2 hg hl2 c0 c1
        generalize t.vars ++ c.vars = vs' at *
        generalize rowI nv t.vars.length ++ c.tys = tys' at *
        go_wp2
        go_meet
        obtain ⟨e1, e2, e3, e4⟩ := HAp.out _ _ _ _ Hst.out
        rw [e1, e2, e3, e4]
        exact ⟨n, r, V', vc', T', tc', A', cap', by omega, S2, fun h => absurd h HK3.out⟩
    · obtain ⟨s, bb, hrun, hsl, hlk⟩ := nm_look S0.out.cn.nm htx
      have HK3 : Hid (¬ t.kind = 3) := hide (by simp at h1; omega)
      have Hst : Hid (stepA t.kind t.name t.vars (bindsM t) c nv = (c, if bb then s else t.name, t.vars, nv)) := hide (by unfold stepA; rw [if_pos (by simpa using h1), hlk])
      have f2 := free_block S0.out.b1 2
      clear hlk
      cases bb
      · go_wp2
        go_meet
        obtain ⟨e1, e2, e3, e4⟩ := HAp.out _ _ _ _ Hst.out
        rw [e1, e2, e3, e4]
        exact ⟨n, r, V, vc, T, tc, t.V, t.vc, by omega, S0, fun h => absurd h HK3.out⟩
      · have S2 := hide (S0.out.name hcl s hsl)
        go_wp2
        go_meet
        obtain ⟨e1, e2, e3, e4⟩ := HAp.out _ _ _ _ Hst.out
        rw [e1, e2, e3, e4]
        exact ⟨n, r, V, vc, T, tc, t.V, t.vc, by omega, S2, fun h => absurd h HK3.out⟩
  case rest =>
    rintro a' w1 ⟨u7, u8, u9, u10, u17, u18, u19, u20, u21, u22, u23, u24, u25, u26, u27, u28, u29, u30, u31, u32, u33, u34, u35, u36, u37, u38, u39, u40, u41, u42, u43, u44, u45, u46, u47, u48, u49, u50, u51, u52, u53, u54, u55, u56, u57, u58, u59, ⟨n1, r1, V1, vc1, T1, tc1, A1, ac1, hn1, SA, hr1⟩, rfl⟩
    have k0 := bytes_block SA.out.b1 0
    have k2 := bytes_block SA.out.b1 2
    simp only [List.getElem?_toArray, List.getElem?_cons_succ, List.getElem?_cons_zero] at k0 k2
    have hsx := SA.out.txt
    clear HBi S0 X0 HW hWs htx hbl HA HAp
    obtain ⟨SH, hSH⟩ : ∃ x, x = ((t.kind == 3) && preB 35 sA) := ⟨_, rfl⟩
    have HSH := hide hSH
    clear hSH
    go_upto_region 12 with fail
    try dsimp only
    go_cut [59] (fun s59 wx => s59 = .bool SH ∧ w1 = wx)
    case first =>
      cases h3 : (t.kind == 3)
      · have e : SH = false := by rw [HSH.out, h3]; rfl
        subst e
        go_wp2_with fail
        go_meet
        exact ⟨rfl, rfl⟩
      · have e : SH = preB 35 sA := by rw [HSH.out, h3]; rfl
        have HP := hide (fun w' => s_prefix sA 35 w' hsx)
        rw [← e] at HP
        clear e
        go_wp2_with fail
        refine (HP.out _).mono ?_
        rintro e w2 ⟨rfl, rfl⟩
        go_wp2_with fail
        go_meet
        exact ⟨rfl, rfl⟩
    case rest =>
      obtain ⟨rfl, rfl⟩ := hcut
      go_upto_if 59 with fail
      go_cut [10] (fun _ wx => ∃ (n' : Nat), n' ≤ n + 10000 ∧ Hid (TmSt w cb t n' cQ sQ vQ nQ mQ r1 V1 vc1 T1 tc1 A1 ac1 wx))
      case first =>
        cases SH
        · have HE := hide (HQp.out.2 HSH.out.symm)
          go_wp2_with fail
          go_meet
          obtain ⟨e1, e2, e3, e4, e5⟩ := HE.out
          rw [e1, e2, e3, e4, e5]
          exact ⟨n1, by omega, SA⟩
        · have HE := hide (HQp.out.1 HSH.out.symm)
          obtain ⟨b, rfl, hbw⟩ := hr1 HE.out.1
          have HD := hide (fun w' => i_text m (by omega) w')
          have hdl := digs_len 12 m (by omega)
          clear HSH k0 k2 HQp
          generalize digs m = d at *
          have hs1 : ¬ ((⟨#[35]⟩ : ByteArray).size + (⟨d.toArray⟩ : ByteArray).size > 9223372036854775807) := by rw [ba_size d]; show ¬ (1 + d.length > _); omega
          have he1 : (ByteArray.mk #[35] ++ ByteArray.mk d.toArray) = ByteArray.mk (35 :: d : Str).toArray := ByteArray.mk_append_mk [35] d
          have hd1 : (35 :: d : Str).length ≤ 9223372036854775807 := by simp; omega
          have q1 := bytes_block SA.out.cnt 1
          simp only [List.getElem?_toArray, List.getElem?_cons_succ, List.getElem?_cons_zero] at q1
          go_wp2_with fail
          refine (HD.out _).mono ?_
          rintro e w2 ⟨rfl, hx⟩
          have S2 := hide (SA.out.ext hx)
          have q1 := bytes_block S2.out.cnt 1
          have f1 := free_block S2.out.cnt 1
          simp only [List.getElem?_toArray, List.getElem?_cons_succ, List.getElem?_cons_zero] at q1
          have S3 := hide (S2.out.count hcl ((m : Int) + 1))
          have k0 := bytes_block S3.out.b0 0
          have k2 := bytes_block S3.out.b1 2
          simp only [List.getElem?_toArray, List.getElem?_cons_succ, List.getElem?_cons_zero] at k0 k2
          obtain ⟨D, ho, hk⟩ : MapS _ b n1 cA.look := by
            rcases S3.out.cn.nm with ⟨e, -⟩ | ⟨b', e, k⟩
            · cases e
            · injection e with e; injection e with e; subst e; exact k
          have HO := hide ho
          have HK := hide hk
          generalize (35 :: d : Str) = dd at *
          clear hx ho hk
          go_wp2_with (at_mapUpdate; refine wpList_mapUpdate_own _ rfl _ _ _ 108 rfl 9 9 key_law Tryz.underlying108 _ b n1 D rfl HO.out (by unfold maxLen; omega) _ _ _ rfl rfl (key_of hsx) (strD dd) [] (elem_str hd1) ?_; intro w5 ho5 hg5; go_frame; have S5 := hide (S3.out.put hcl hbw hg5 sA dd (n' := n1 + 1) ⟨_, ho5, fun s => by rw [lookD_put _ HO.out.isMap, HK.out s]⟩); have f2 := free_block S5.out.b1 2; have k2 := bytes_block S5.out.b1 2; simp only [List.getElem?_toArray, List.getElem?_cons_succ, List.getElem?_cons_zero] at k2; have S6 := hide (S5.out.name hcl dd hd1); clear ho5 hg5)
          go_meet
          obtain ⟨-, e1, e2, e3, e4, e5⟩ := HE.out
          rw [e1, e2, e3, e4, e5]
          exact ⟨n1 + 1, by omega, S6⟩
      case rest =>
        obtain ⟨n2, hn2, SQ⟩ := hcut
        have Hroom := hide (step_room hvl2 HQ.out)
        have HBc : Hid (Below w0.heap.size w0 wc) := hide (HB.out.grown SQ.out.g HB.out.size (fun j e => by injection e with e; omega))
        have HTy : Hid (TysIn wc t.T t.types) := hide (Ht.out.hd.types.old HBc.out)
        have HKc : Hid (TmsIn wc t.A t.kids) := hide (Ht.out.all.old HBc.out)
        have HCt : Hid (TysIn wc T1 (cQ.tys.map varT)) := hide ⟨SQ.out.cn.tys, fun x hx => by obtain ⟨v, -, rfl⟩ := List.mem_map.1 hx; exact varT_in _ _⟩
        have hcw : cb < wc.heap.size := lt_of_obj SQ.out.cnt
        have hw2 : w.heap.size + 2 < wc.heap.size := lt_of_obj SQ.out.b2
        have hnt := Hf.out.tys4
        have hnk := t.kids_len
        have hwc := HB.out.size
        have hcqv : cQ.vars.length ≤ 1000000000 := by have := Hroom.out.1; omega
        have Hfy := hide Hf.out.ty
        have k4 := bytes_block SQ.out.b1 4
        simp only [List.getElem?_toArray, List.getElem?_cons_succ, List.getElem?_cons_zero] at k4
        have hmk := make_zeros t.types.length (by omega) wc
        obtain ⟨W1, hW1⟩ : ∃ W1, W1 = wc.alloc (.cells (zerosT t.types.length) 55) := ⟨_, rfl⟩
        have X1 : Hid (Ext wc W1) := hide (by rw [hW1]; exact (Ext.refl _).alloc _)
        have B3 : Hid (W1.heap[wc.heap.size]? = some (.cells (rowT [] t.types.length) 55 (0, 0))) := hide (by rw [hW1]; exact at_newB _ _ _ rfl)
        rw [← hW1] at hmk
        have hs1 : wc.heap.size < W1.heap.size := lt_of_obj B3.out
        have k4' := bytes_block (SQ.out.ext X1.out).b1 4
        simp only [List.getElem?_toArray, List.getElem?_cons_succ, List.getElem?_cons_zero] at k4'
        clear hW1
        go_wp2
        go_loopw [87] (fun i wr => ∃ (k : Nat) (us : List Ty), k ≤ t.types.length ∧ i = .int .i64 k ∧ Hid (Ext wc wr) ∧ Hid (wr.heap[wc.heap.size]? = some (.cells (rowT us (t.types.length - k)) 55 (0, 0))) ∧ Hid (PutsOk wc wr (fun c => wc.heap.size ≤ c ∧ c < wc.heap.size + 1) cQ.vars (cQ.tys.map varT) (t.types.take k) us)) (fun i _ => t.types.length - (intOf i).toNat)
        case atStart => exact ⟨0, [], Nat.zero_le _, rfl, X1, B3, hide (PutsOk.nil _ _ _ _ _)⟩
        case round =>
          obtain ⟨k, us, hk, rfl, HX, HR, HP⟩ := hrel
          have hul : us.length = k := by have := HP.out.len; rw [List.length_take] at this; omega
          have Hul := hide hul
          by_cases hlt : k < t.types.length
          · have hlt' : (k : Int) < (t.types.length : Int) := by omega
            have hk0 : (0 : Int) ≤ (k : Int) := by omega
            obtain ⟨b, o, hA, hb, q0, q1, q2⟩ := (HTy.out.ext HX.out).at_ hlt
            have hkm := List.getElem_mem hlt
            have hIH := fun w' (e : Ext wr w') => f_put V1 T1 vc1 tc1 cQ.vars (cQ.tys.map varT) hcqv (t.types[k]'hlt) w' ((HTy.out.args _ hkm).ext (HX.out.trans e)) (Row.ext SQ.out.cn.vars (HX.out.trans e)) (HCt.out.ext (HX.out.trans e)) (Nat.le_trans (Hfy.out _ hkm) (by decide))
            simp only [List.length_map] at hIH
            have HIH := hide hIH
            have Hx := hide (HTy.out.args _ hkm)
            have Htk : Hid (t.types.take (k + 1) = t.types.take k ++ [t.types[k]'hlt]) := hide (List.take_succ_eq_append_getElem hlt)
            obtain ⟨q, hq⟩ : ∃ q, t.types.length - k = q + 1 := ⟨t.types.length - k - 1, by omega⟩
            have hq2 : t.types.length - (k + 1) = q := by omega
            have Hq2 := hide hq2
            rw [hq] at HR
            clear hIH hq hq2 hul
            generalize t.types[k]'hlt = x at *
            have hsz3 : wc.heap.size + 1 ≤ wr.heap.size := by have := lt_of_obj HR.out; omega
            have SR := hide (SQ.out.ext (HX.out.trans ((Ext.refl wr).alloc (.cells #[encStr x.con, .int .i64 x.var, .slice x.A x.args.length x.cap] 55))))
            have d1 := bytes_block SR.out.b0 1
            have d2 := bytes_block SR.out.b0 2
            simp only [List.getElem?_toArray, List.getElem?_cons_succ, List.getElem?_cons_zero] at d1 d2
            clear hkm
            rw [hA]
            clear hA
            unfold tyV at HIH
            go_wp2_with fail
            refine (HIH.out _ ((Ext.refl _).alloc _)).mono ?_
            rintro e w3 ⟨⟨u, rfl, hu⟩, hx3⟩
            have E3 := ((Ext.refl wr).alloc (.cells #[encStr x.con, .int .i64 x.var, .slice x.A x.args.length x.cap] 55)).trans hx3
            have HR3 := hide ((E3.heap (lt_of_obj HR.out)).trans HR.out)
            have HP3 : Hid (PutsOk wc w3 (fun c => wc.heap.size ≤ c ∧ c < wc.heap.size + 1) cQ.vars (cQ.tys.map varT) (t.types.take (k + 1)) (us ++ [u])) := hide (by
              rw [Htk.out]
              exact (HP.out.ext ((Ext.refl wr).alloc (.cells #[encStr x.con, .int .i64 x.var, .slice x.A x.args.length x.cap] 55))).snoc hu hx3 Hx.out HCt.out.args (by have := HX.out.size; simp; omega) (fun c hc => ⟨hc.1, by simp; omega⟩))
            have X3 := hide (HX.out.trans E3)
            have HRn := hide (put3 u HR3.out)
            have HPn := hide (HP3.out.grown (put3_grown w3 wc.heap.size (us.length * 3) (us.length * 3 + 1) (us.length * 3 + 2) (encStr u.con) (.int .i64 u.var) (.slice u.A u.args.length u.cap)) (fun c e => by injection e with e; omega))
            have Xn : Hid (Ext wc (((w3.setCell ⟨wc.heap.size, us.length * 3, none⟩ (encStr u.con)).setCell ⟨wc.heap.size, us.length * 3 + 1, none⟩ (.int .i64 u.var)).setCell ⟨wc.heap.size, us.length * 3 + 2, none⟩ (.slice u.A u.args.length u.cap))) := hide (((X3.out.setCell (by simp) _).setCell (by simp) _).setCell (by simp) _)
            have f0 := free_block HR3.out (us.length * 3)
            have f1 := free_block HR3.out (us.length * 3 + 1)
            have f2 := free_block HR3.out (us.length * 3 + 2)
            have k0 := (bytes_block HR3.out (us.length * 3)).trans (row_at3 us q).1
            have k1 := (bytes_block HR3.out (us.length * 3 + 1)).trans (row_at3 us q).2.1
            have k2 := (bytes_block HR3.out (us.length * 3 + 2)).trans (row_at3 us q).2.2
            rw [Hul.out] at f0 f1 f2 k0 k1 k2 HRn HPn Xn
            clear E3 hx3 hu HR3 HP3
            go_wp2
            go_roundw
            case rel => exact ⟨k + 1, us ++ [u], hlt, by go_num, Xn, hide (by rw [Hq2.out]; exact HRn.out), HPn⟩
            case measure => simp [intOf]; omega
          · have hge : ¬ (k : Int) < (t.types.length : Int) := by omega
            have hkn : k = t.types.length := by omega
            have HRd : Hid (wr.heap[wc.heap.size]? = some (.cells (us.flatMap tyC.f).toArray 55 (0, 0))) := hide (by have := HR.out; rw [hkn, Nat.sub_self, row_done] at this; exact this)
            have HPd : Hid (PutsOk wc wr (fun c => wc.heap.size ≤ c ∧ c < wc.heap.size + 1) cQ.vars (cQ.tys.map varT) t.types us) := hide (by have := HP.out; rwa [List.take_of_length_le (by omega)] at this)
            have HXk := HX
            clear HP HR hul hkn B3 hmk k4 k4' HX hge Hul
            rename World => wk
            rename (List Ty) => ts
            have SK := hide (SQ.out.ext HXk.out)
            have hk1 : wc.heap.size < wk.heap.size := lt_of_obj HRd.out
            have k5 := bytes_block SK.out.b1 5
            simp only [List.getElem?_toArray, List.getElem?_cons_succ, List.getElem?_cons_zero] at k5
            have hmk := make_zerosM t.kids.length (by omega) wk
            obtain ⟨W2, hW2⟩ : ∃ W2, W2 = wk.alloc (.cells (rowM [] t.kids.length) 31) := ⟨_, rfl⟩
            have X2 : Hid (Ext wk W2) := hide (by rw [hW2]; exact (Ext.refl _).alloc _)
            have B4 : Hid (W2.heap[wk.heap.size]? = some (.cells (rowM [] t.kids.length) 31 (0, 0))) := hide (by rw [hW2]; exact at_newB _ _ _ rfl)
            rw [← hW2] at hmk
            have hs2 : wk.heap.size < W2.heap.size := lt_of_obj B4.out
            have k5' := bytes_block (SK.out.ext X2.out).b1 5
            simp only [List.getElem?_toArray, List.getElem?_cons_succ, List.getElem?_cons_zero] at k5'
            have Hfk := hide Hf.out.kids
            have Hsz := hide (fun k (hk : k ∈ t.kids) => Tm.size_kid hk)
            have HMt := hide (fun k (hk : k < t.kids.length) => msizes_take t.kids hk)
            have HMl := hide (fun k => msizes_le t.kids k)
            have HMs : Hid (t.size = msizes t.kids + 1) := hide (Tm.size_eq t)
            have HAw : Hid (∀ j, w0.heap.size ≤ j → ∀ x ∈ t.kids, AwayM j x) := hide (fun j hj x hx => awayM_new (Ht.out.all.kids x hx) hj)
            have hcw2 : cb < wk.heap.size := by omega
            clear hW2
            go_wp2
            go_loopw [109] (fun i wr => ∃ (k : Nat) (us : List Tm) (V' L' : Int), k ≤ t.kids.length ∧ i = .int .i64 k ∧ Hid (wk.grownBy wr (some cb)) ∧ Hid (wr.heap[wk.heap.size]? = some (.cells (rowM us (t.kids.length - k)) 31 (0, 0))) ∧ Hid (wr.heap[cb]? = some (.cells #[.int .i64 V', .int .i64 L'] 107 (0, 0))) ∧ Hid (MsOk wr (wk.heap.size + 1) numS cQ nQ mQ t.kids (t.kids.take k) us V' L')) (fun i _ => t.kids.length - (intOf i).toNat)
            case atStart => exact ⟨0, [], nQ, mQ, Nat.zero_le _, rfl, hide (ext_grown X2.out _), B4, hide ((X2.out.heap (lt_of_obj SK.out.cnt)).trans SK.out.cnt), hide (MsOk.nil _ _ _ _ _ _ _)⟩
            case round =>
              obtain ⟨k, us, V', L', hk, rfl, HG, HR, HCn, HM⟩ := hrel
              have hul : us.length = k := by have := HM.out.len; rw [List.length_take] at this; omega
              have Hul := hide hul
              have hwr := HG.out.size
              have hwr2 : wk.heap.size + 1 ≤ wr.heap.size := lt_of_obj HR.out
              by_cases hlt : k < t.kids.length
              · have hlt' : (k : Int) < (t.kids.length : Int) := by omega
                have hk0 : (0 : Int) ≤ (k : Int) := by omega
                have HKw : Hid (Below w0.heap.size w0 wr) := hide ((HBc.out.trans (HXk.out.below.mono HBc.out.size)).grown HG.out (by omega) (fun j e => by injection e with e; omega))
                obtain ⟨b, o, hA, hb, q0, q1, q2, q3, q4, q5⟩ := (Ht.out.all.old HKw.out).at_ hlt
                have hkm := List.getElem_mem hlt
                have hks := Hsz.out _ hkm
                have hmt := HMt.out k hlt
                have hml := HMl.out (k + 1)
                have hms := HMs.out
                have hro := cans_room (t.kids.take k) (fun x hx => Hfk.out x (List.mem_of_mem_take hx)) cQ nQ mQ
                rw [← HM.out.cv, ← HM.out.cl] at hro
                obtain ⟨r1', r2', r3', r4'⟩ := hro
                obtain ⟨s1', s2', s3', s4', s5'⟩ := Hroom.out
                have f := SQ.out.far cb (.inl rfl)
                have HC := hide (IH.out _ hkm w0 (wr.alloc (.cells #[.int .i64 (t.kids[k]'hlt).kind, .int .i64 (t.kids[k]'hlt).n, encStr (t.kids[k]'hlt).name, .slice (t.kids[k]'hlt).V (t.kids[k]'hlt).vars.length (t.kids[k]'hlt).vc, .slice (t.kids[k]'hlt).T (t.kids[k]'hlt).types.length (t.kids[k]'hlt).tc, .slice (t.kids[k]'hlt).A (t.kids[k]'hlt).kids.length (t.kids[k]'hlt).cap] 31)) cb r1 V1 vc1 T1 tc1 n2 cQ V' L' (Ht.out.all.kids _ hkm) (Hfk.out _ hkm) (HKw.out.alloc (by have := HKw.out.size; omega) _) hcb ((((Ext.refl wr).alloc _).heap (lt_of_obj HCn.out)).trans HCn.out)
                  ((SK.out.cn.grown SK.out.cnt HG.out f.1 f.2.1).ext ((Ext.refl _).alloc _)) f.1 f.2.1 (by omega) (by omega) (by omega) (by omega) (by omega) (by omega) (by omega))
                have Htk : Hid (t.kids.take (k + 1) = t.kids.take k ++ [t.kids[k]'hlt]) := hide (List.take_succ_eq_append_getElem hlt)
                obtain ⟨q, hq⟩ : ∃ q, t.kids.length - k = q + 1 := ⟨t.kids.length - k - 1, by omega⟩
                have Hq2 : Hid (t.kids.length - (k + 1) = q) := hide (by omega)
                rw [hq] at HR
                have Hkm := hide hkm
                have b0r := (HG.out.block _ (lt_of_obj SK.out.b0) (fun e => by injection e with e; omega)).trans SK.out.b0
                have b0a := (((Ext.refl wr).alloc (.cells #[.int .i64 (t.kids[k]'hlt).kind, .int .i64 (t.kids[k]'hlt).n, encStr (t.kids[k]'hlt).name, .slice (t.kids[k]'hlt).V (t.kids[k]'hlt).vars.length (t.kids[k]'hlt).vc, .slice (t.kids[k]'hlt).T (t.kids[k]'hlt).types.length (t.kids[k]'hlt).tc, .slice (t.kids[k]'hlt).A (t.kids[k]'hlt).kids.length (t.kids[k]'hlt).cap] 31)).heap (lt_of_obj b0r)).trans b0r
                have d0 := bytes_block b0a 0
                have d1 := bytes_block b0a 1
                have d2 := bytes_block b0a 2
                simp only [List.getElem?_toArray, List.getElem?_cons_succ, List.getElem?_cons_zero] at d0 d1 d2
                clear hq hul hkm hks hmt hml hms r1' r2' r3' r4' s1' s2' s3' s4' s5' f b0r b0a
                generalize t.kids[k]'hlt = x at *
                unfold tmV at HC
                rw [hA]
                clear hA
                go_wp2_with fail
                refine HC.out.mono ?_
                rintro e w3 ⟨u, rfl, hu, hp, ha, hc3, hg3⟩
                have e1 : Ext wr (wr.alloc (.cells #[.int .i64 x.kind, .int .i64 x.n, encStr x.name, .slice x.V x.vars.length x.vc, .slice x.T x.types.length x.tc, .slice x.A x.kids.length x.cap] 31)) := (Ext.refl _).alloc _
                have HR3 := hide ((hg3.block _ (Nat.lt_of_lt_of_le (lt_of_obj HR.out) e1.size) (fun e => by injection e with e; omega)).trans ((e1.heap (lt_of_obj HR.out)).trans HR.out))
                have gp := putTmAt_grown w3 wk.heap.size (us.length * 6) u
                have HM3 : Hid (MsOk (putTmAt w3 wk.heap.size (us.length * 6) u) (wk.heap.size + 1) numS cQ nQ mQ t.kids (t.kids.take (k + 1)) (us ++ [u]) (canQ numS x.pure cQ V' L').2.1 (canQ numS x.pure cQ V' L').2.2) := hide (by
                  rw [Htk.out]
                  exact (((HM.out.ext e1).grown hg3 (by omega) (HAw.out cb hcb)).snoc Hkm.out hu hp (fun j hj h => ha j (by simp; omega) h)).grown gp (by omega) (HAw.out _ (by omega)))
                have HG3 := hide (grown_own (grown_tr (grown_tr HG.out (ext_grown e1 _)) hg3) gp (fun j e => by injection e with e; omega))
                have HC3 := hide ((gp.block _ (lt_of_obj hc3) (fun e => by injection e with e; omega)).trans hc3)
                have HRn := hide (put6 u HR3.out)
                have f0 := free_block HR3.out (us.length * 6)
                have f1 := free_block HR3.out (us.length * 6 + 1)
                have f2 := free_block HR3.out (us.length * 6 + 2)
                have f3 := free_block HR3.out (us.length * 6 + 3)
                have f4 := free_block HR3.out (us.length * 6 + 4)
                have f5 := free_block HR3.out (us.length * 6 + 5)
                have k0 := (bytes_block HR3.out (us.length * 6)).trans (row_at6 us q).1
                have k1 := (bytes_block HR3.out (us.length * 6 + 1)).trans (row_at6 us q).2.1
                have k2 := (bytes_block HR3.out (us.length * 6 + 2)).trans (row_at6 us q).2.2.1
                have k3 := (bytes_block HR3.out (us.length * 6 + 3)).trans (row_at6 us q).2.2.2.1
                have k4 := (bytes_block HR3.out (us.length * 6 + 4)).trans (row_at6 us q).2.2.2.2.1
                have k5 := (bytes_block HR3.out (us.length * 6 + 5)).trans (row_at6 us q).2.2.2.2.2
                rw [Hul.out] at f0 f1 f2 f3 f4 f5 k0 k1 k2 k3 k4 k5 HM3 HG3 HC3 HRn
                clear hu hp ha hc3 hg3 e1 HR3 gp
                go_wp2
                go_roundw
                case rel => exact ⟨k + 1, us ++ [u], _, _, hlt, by go_num, HG3, hide (by rw [Hq2.out]; exact HRn.out), HC3, HM3⟩
                case measure => simp [intOf]; omega
              · have hge : ¬ (k : Int) < (t.kids.length : Int) := by omega
                have hkn : k = t.kids.length := by omega
                have HRd2 : Hid (wr.heap[wk.heap.size]? = some (.cells (us.flatMap tmC.f).toArray 31 (0, 0))) := hide (by have := HR.out; rw [hkn, Nat.sub_self, rowM_done] at this; exact this)
                have HMd : Hid (MsOk wr (wk.heap.size + 1) numS cQ nQ mQ t.kids t.kids us V' L') := hide (by have := HM.out; rwa [List.take_of_length_le (by omega)] at this)
                have htl : t.types.length = ts.length := by have := HPd.out.len; omega
                have hkl : t.kids.length = us.length := by omega
                have L1 := hide ((HG.out.block _ (lt_of_obj SK.out.b1) (fun e => by injection e with e; omega)).trans SK.out.b1)
                have L2 := hide ((HG.out.block _ (lt_of_obj SK.out.b2) (fun e => by injection e with e; omega)).trans SK.out.b2)
                clear HM HR hkn hul hmk k5 k5' X2 B4
                rw [htl, hkl] at L1
                have Htl := hide htl
                have Hkl := hide hkl
                have k0 := bytes_block L1.out 0
                have k1 := bytes_block L1.out 1
                have k2 := bytes_block L1.out 2
                have k3 := bytes_block L1.out 3
                have k4 := bytes_block L1.out 4
                have k5 := bytes_block L1.out 5
                have f4 := free_block L1.out 4
                have f5 := free_block L1.out 5
                have j0 := bytes_block L2.out 0
                have j1 := bytes_block L2.out 1
                have j2 := bytes_block L2.out 2
                have j3 := bytes_block L2.out 3
                have j4 := bytes_block L2.out 4
                have j5 := bytes_block L2.out 5
                have g0 := free_block L2.out 0
                have g1 := free_block L2.out 1
                have g2 := free_block L2.out 2
                have g3 := free_block L2.out 3
                have g4 := free_block L2.out 4
                have g5 := free_block L2.out 5
                simp only [List.getElem?_toArray, List.getElem?_cons_succ, List.getElem?_cons_zero] at k0 k1 k2 k3 k4 k5 j0 j1 j2 j3 j4 j5
                go_wp2
                obtain ⟨U, hU⟩ : ∃ U : Tm, U = .mk t.kind t.n sQ A1 ac1 vQ (some ⟨wc.heap.size, 0, none⟩) ts.length ts (some ⟨wk.heap.size, 0, none⟩) us.length us := ⟨_, rfl⟩
                obtain ⟨WB, hWB⟩ : ∃ WB, WB = (wr.setCell ⟨w.heap.size + 1, 4, none⟩ (.slice (some ⟨wc.heap.size, 0, none⟩) ts.length ts.length)).setCell ⟨w.heap.size + 1, 5, none⟩ (.slice (some ⟨wk.heap.size, 0, none⟩) us.length us.length) := ⟨_, rfl⟩
                rw [← hWB]
                obtain ⟨WF, hWF⟩ : ∃ WF, WF = putTm WB (w.heap.size + 1 + 1) U := ⟨_, rfl⟩
                have hWF2 : (((((WB.setCell ⟨w.heap.size + 1 + 1, 0, none⟩ (.int .i64 t.kind)).setCell ⟨w.heap.size + 1 + 1, 1, none⟩ (.int .i64 t.n)).setCell ⟨w.heap.size + 1 + 1, 2, none⟩ (.string ⟨sQ.toArray⟩)).setCell ⟨w.heap.size + 1 + 1, 3, none⟩ (.slice A1 vQ.length ac1)).setCell ⟨w.heap.size + 1 + 1, 4, none⟩ (.slice (some ⟨wc.heap.size, 0, none⟩) ts.length ts.length)).setCell ⟨w.heap.size + 1 + 1, 5, none⟩ (.slice (some ⟨wk.heap.size, 0, none⟩) us.length us.length) = WF := by rw [hWF, hU]; rfl
                rw [hWF2]
                have GB : wr.grownBy WB (some (w.heap.size + 1)) := by rw [hWB]; exact grown_tr (grown_cell _ _ _ _) (grown_cell _ _ _ _)
                have GF : WB.grownBy WF (some (w.heap.size + 1 + 1)) := by rw [hWF]; exact putTm_grown _ _ _
                have hbx : TmBox WF (w.heap.size + 1 + 1) U := by rw [hWF]; exact putTm_box U ((GB.block _ (lt_of_obj L2.out) (fun e => by injection e with e; omega)).trans L2.out)
                obtain ⟨z0, z1, z2, z3, z4, z5⟩ := hbx.cells
                have f1 := SQ.out.far cb (.inl rfl)
                have f2 := SQ.out.far (w.heap.size + 1) (.inr ⟨by omega, by omega⟩)
                have f3 := SQ.out.far (w.heap.size + 1 + 1) (.inr ⟨by omega, by omega⟩)
                have hnt2 := Htl.out
                have hnk2 := Hkl.out
                have blk : ∀ j, j ≠ w.heap.size + 1 → j ≠ w.heap.size + 1 + 1 → j < wr.heap.size → WF.heap[j]? = wr.heap[j]? := fun j h1 h2 h3 => (GF.block j (Nat.lt_of_lt_of_le h3 GB.size) (fun e => h2 (by injection e))).trans (GB.block j h3 (fun e => h1 (by injection e)))
                have hty : ∀ x ∈ ts, TyIn WF x := fun x hx => by
                  have ay : ∀ j, w0.heap.size ≤ j → j < wc.heap.size → awayB j x = true := fun j h1 h2 => HPd.out.away x hx j h2 (fun y hy => away_new (Ht.out.hd.types.args y hy) h1) (fun y hy => by obtain ⟨v, -, rfl⟩ := List.mem_map.1 hy; exact varT_away _ _)
                  exact (((HPd.out.ty x hx).grown HG.out (fun c e => by injection e with e; subst e; exact ay _ hcb hcw)).grown GB (fun c e => by injection e with e; subst e; exact ay _ (by omega) (by omega))).grown GF (fun c e => by injection e with e; subst e; exact ay _ (by omega) (by omega))
                have hks : ∀ x ∈ us, TmIn WF x := fun x hx => by
                  have ay : ∀ j, w0.heap.size ≤ j → j < wk.heap.size → AwayM j x := fun j h1 h2 => HMd.out.away x hx j (by omega) (HAw.out j h1)
                  exact ((HMd.out.tm x hx).grown GB (fun c e => by injection e with e; subst e; exact ay _ (by omega) (by omega))).grown GF (fun c e => by injection e with e; subst e; exact ay _ (by omega) (by omega))
                have P1 : TmIn WF U := by
                  rw [hU]
                  refine .mk ⟨SQ.out.ale, SQ.out.amx, Nat.le_refl _, (by show ts.length ≤ _; omega), Nat.le_refl _, (by show us.length ≤ _; omega), SQ.out.txt, ?_, ⟨?_, hty⟩, ?_⟩ hks
                  · exact row_off (row_off (row_off (Row.ext SQ.out.own HXk.out) HG.out f1.2.2) GB f2.2.2) GF f3.2.2
                  · exact RowOf.block tyC ts (((blk _ (by omega) (by omega) (by omega)).trans ((HG.out.block _ (by omega) (fun e => by injection e with e; omega)).trans HRd.out)))
                  · exact RowOf.block tmC us ((blk _ (by omega) (by omega) (by omega)).trans HRd2.out)
                have hw := can_whole HQ.out HMd.out.is HMd.out.cv HMd.out.cl HPd.out.is A1 ac1 (some ⟨wc.heap.size, 0, none⟩) ts.length (some ⟨wk.heap.size, 0, none⟩) us.length
                rw [← hU] at hw
                obtain ⟨w1', w2', w3'⟩ := hw
                have P3 : ∀ k, k < w.heap.size → AwayM k t → AwayM k U := fun k hk ha => by
                  rw [hU]
                  refine .mk (SQ.out.away k hk ha.v) (fun _ a e => by injection e with e; subst e; show wc.heap.size ≠ k; omega) (fun x hx => HPd.out.away x hx k (by omega) ha.tys (fun y hy => by obtain ⟨v, -, rfl⟩ := List.mem_map.1 hy; exact varT_away _ _)) (fun _ a e => by injection e with e; subst e; show wk.heap.size ≠ k; omega) (fun x hx => HMd.out.away x hx k (by omega) ha.kids)
                have P4 : WF.heap[cb]? = some (.cells #[.int .i64 (canQ numS t.pure c nv m).2.1, .int .i64 (canQ numS t.pure c nv m).2.2] 107 (0, 0)) := by
                  rw [← w2', ← w3']
                  exact (blk _ (by omega) (by omega) (by omega)).trans HCn.out
                have P5 : w.grownBy WF (some cb) := grown_own (grown_own (grown_tr (grown_tr SQ.out.g (ext_grown HXk.out _)) HG.out) GB (fun j e => by injection e with e; omega)) GF (fun j e => by injection e with e; omega)
                refine bodyPost_ret (v := tmV U) ?_ rfl ⟨U, rfl, P1, w1', P3, P4, P5⟩
                simp [results, Tryz.f56, go_sem, z0, z1, z2, z3, z4, z5]
/-- What a term becomes. -/
theorem c_term (t : Tm) : TermsTo t := by
  induction t using Tm.ind with
  | h t ih => exact c_term1 t ih

end Go.Proofs.YtjacjpeeinnkcaaGreat

/- Contract: terms with bound names told by numbers. -/
namespace Go.Proofs.YtjacjpeeinnkcaaGreat
open Go.RowKit Go.Sort Go.Maps

theorem Row.tm6 {w : World} {b : Nat} {t : TypeId} {fr : Nat × Nat} (x0 x1 x2 x3 x4 x5 : Value) (h : w.heap[b]? = some (.cells #[x0, x1, x2, x3, x4, x5] t fr)) : Row w (some ⟨b, 0, none⟩) 6 1 [x0, x1, x2, x3, x4, x5] := by
  refine ⟨rfl, fun _ => ⟨b, 0, rfl, lt_of_obj h, fun j u hu => ?_⟩⟩
  rw [Nat.zero_add]
  simp only [World.cell?, h]
  simpa using hu
theorem flatM_snoc (us : List Tm) (u : Tm) : (us ++ [u]).flatMap tmC.f = us.flatMap tmC.f ++ [.int .i64 u.kind, .int .i64 u.n, encStr u.name, .slice u.V u.vars.length u.vc, .slice u.T u.types.length u.tc, .slice u.A u.kids.length u.cap] := by
  rw [List.flatMap_append, List.flatMap_cons, List.flatMap_nil, List.append_nil]
  rfl
theorem own_at {w w1 : World} {base : Nat} {e : TypeId} {size n : Nat} {xs : List Value} {v x : Value} (_ : w.ownsRow base e size v n xs) (hx : Ext w w1) (hat : x.ownBlock = v.ownBlock ∨ x.ownBlock = some w1.heap.size) :
    ∀ j, x.ownBlock = some j → v.ownBlock = some j ∨ w.heap.size ≤ j := by
  intro j hj
  rcases hat with h | h
  · exact .inl (h ▸ hj)
  · rw [h] at hj; injection hj with hj; have := hx.size; exact .inr (by omega)
/-- The empty one. -/
def cn0 : Cn := ⟨[], [], []⟩
theorem cn0_in (w : World) : CnIn w none none none 0 cn0 := ⟨.inl ⟨rfl, fun _ => rfl⟩, RowOf.nil _ _ _, RowOf.nil _ _ _, rfl⟩
/-- How the row of what has been made stands. -/
structure CanSt (w wr : World) (cb : Nat) (v : Value) (l us : List Tm) (V' L' : Int) : Prop where
  x : Ext w wr
  c : wr.heap[cb]? = some (.cells #[.int .i64 V', .int .i64 L'] 107 (0, 0))
  own : wr.ownsRow (w.heap.size + 1) 31 6 v us.length (us.flatMap tmC.f)
  tm : ∀ u ∈ us, TmIn wr u
  len : us.length = l.length
  is : us.map Tm.pure = (canQs numS (l.map Tm.pure) cn0 0 0).1
  cv : V' = (canQs numS (l.map Tm.pure) cn0 0 0).2.1
  cl : L' = (canQs numS (l.map Tm.pure) cn0 0 0).2.2
  off : ∀ u ∈ us, ∀ j, v.ownBlock = some j → AwayM j u
  offc : ∀ u ∈ us, AwayM cb u

set_option maxRecDepth 100000 in
set_option maxHeartbeats 8000000 in
theorem m_canon (A : Option Addr) (cap : Nat) (l : List Tm) (w : World) (h : TmsIn w A l) (hf : ∀ t ∈ l, FewM t) (hs : ∀ t ∈ l, t.size ≤ 10000) (hl : msizes l ≤ 1000000) (hl2 : l.length ≤ 1000000) :
    Calls Tryz.prog 17 #[.slice A l.length cap] w fun e w' => (∃ (v : Value) (us : List Tm), e = .returned v ∧ w'.ownsRow w.heap.size 31 6 v us.length (us.flatMap tmC.f) ∧ us.length = l.length ∧ (∀ u ∈ us, TmIn w' u) ∧ us.map Tm.pure = (canQs numS (l.map Tm.pure) cn0 0 0).1) ∧ Ext w w' := by
  obtain ⟨j0, hj, hy0, hy1, hy2⟩ := info_parts tm_info6
  have HK := hide h
  have HF := hide hf
  have HS := hide hs
  have HMt := hide (fun k (hk : k < l.length) => msizes_take l hk)
  have HMl := hide (fun k => msizes_le l k)
  obtain ⟨W, hW⟩ : ∃ W, W = w.alloc (.cells #[.int .i64 0, .int .i64 0] 107) := ⟨_, rfl⟩
  have HW := hide hW.symm
  have X0 : Hid (Ext w W) := hide (by rw [hW]; exact (Ext.refl _).alloc _)
  have C0 : Hid (W.heap[w.heap.size]? = some (.cells #[.int .i64 0, .int .i64 0] 107 (0, 0))) := hide (by rw [hW]; exact at_newB _ _ _ rfl)
  have hWs : w.heap.size + 1 ≤ W.heap.size := lt_of_obj C0.out
  clear h hf hs hW
  go_enter Tryz.func17, Tryz.ntmps17
  go_upto_region 2 with fail
  rw [HW.out]
  go_wp2
  go_loopw [4, 11] (fun v i wr => ∃ (k : Nat) (us : List Tm) (V' L' : Int), k ≤ l.length ∧ i = .int .i64 k ∧ w.heap.size + 1 ≤ wr.heap.size ∧ Hid (CanSt w wr w.heap.size v (l.take k) us V' L')) (fun _ i _ => l.length - (intOf i).toNat)
  case atStart => exact ⟨0, [], 0, 0, Nat.zero_le _, rfl, hWs, hide ⟨X0.out, C0.out, World.ownsRow_nil _ _ _ _, by simp, rfl, rfl, rfl, rfl, by simp, by simp⟩⟩
  case round =>
    obtain ⟨k, us, V', L', hk, rfl, hwr, HSt⟩ := hrel
    by_cases hlt : k < l.length
    · have hlt' : (k : Int) < (l.length : Int) := by omega
      have hk0 : (0 : Int) ≤ (k : Int) := by omega
      obtain ⟨b, o, hA, hb, q0, q1, q2, q3, q4, q5⟩ := (HK.out.ext HSt.out.x).at_ hlt
      have hkm := List.getElem_mem hlt
      have hul : us.length = k := by have := HSt.out.len; rw [List.length_take] at this; omega
      have Hul := hide hul
      have hmt := HMt.out k hlt
      have hml := HMl.out (k + 1)
      have hro := cans_room (l.take k) (fun x hx => HF.out x (List.mem_of_mem_take hx)) cn0 0 0
      rw [← HSt.out.cv, ← HSt.out.cl] at hro
      obtain ⟨r1, r2, r3, r4⟩ := hro
      have hts := (HS.out _ hkm)
      have HC := hide (c_term (l[k]'hlt) w (wr.alloc (.cells #[.int .i64 (l[k]'hlt).kind, .int .i64 (l[k]'hlt).n, encStr (l[k]'hlt).name, .slice (l[k]'hlt).V (l[k]'hlt).vars.length (l[k]'hlt).vc, .slice (l[k]'hlt).T (l[k]'hlt).types.length (l[k]'hlt).tc, .slice (l[k]'hlt).A (l[k]'hlt).kids.length (l[k]'hlt).cap] 31)) w.heap.size none none 0 none 0 0 cn0 V' L' (HK.out.kids _ hkm) (HF.out _ hkm) (HSt.out.x.alloc _).below (Nat.le_refl _) ((((Ext.refl wr).alloc _).heap (lt_of_obj HSt.out.c)).trans HSt.out.c)
        (cn0_in _) (fun hn => absurd rfl hn) (fun hn => absurd rfl hn) hts (by omega) (by show 0 + _ ≤ _; omega) (by omega) (by omega) (by omega) (by omega))
      have Htk : Hid (l.take (k + 1) = l.take k ++ [l[k]'hlt]) := hide (List.take_succ_eq_append_getElem hlt)
      have HAw : Hid (∀ j, w.heap.size ≤ j → AwayM j (l[k]'hlt)) := hide (fun j hj => awayM_new (HK.out.kids _ hkm) hj)
      clear hkm hmt hml r1 r2 r3 r4 hts hul
      generalize l[k]'hlt = x at *
      unfold tmV at HC
      have HC : Hid (Calls Tryz.prog 56 #[.agg #[.map none, .slice none 0 0, .slice none 0 0], .pointer (some ⟨w.heap.size, 0, none⟩), .agg #[.int .i64 x.kind, .int .i64 x.n, encStr x.name, .slice x.V x.vars.length x.vc, .slice x.T x.types.length x.tc, .slice x.A x.kids.length x.cap]] (wr.alloc (.cells #[.int .i64 x.kind, .int .i64 x.n, encStr x.name, .slice x.V x.vars.length x.vc, .slice x.T x.types.length x.tc, .slice x.A x.kids.length x.cap] 31)) _) := HC
      rw [hA]
      clear hA
      go_wp2_with fail
      refine HC.out.mono ?_
      rintro e w3 ⟨u, rfl, hu, hp, ha, hc3, hg3⟩
      have e1 : Ext wr (wr.alloc (.cells #[.int .i64 x.kind, .int .i64 x.n, encStr x.name, .slice x.V x.vars.length x.vc, .slice x.T x.types.length x.tc, .slice x.A x.kids.length x.cap] 31)) := (Ext.refl _).alloc _
      have g3 : wr.grownBy w3 (some w.heap.size) := grown_tr (ext_grown e1 _) hg3
      have X3 := hide (HSt.out.x.grown g3 (fun j e => by injection e with e; omega))
      have O3 := hide (HSt.out.own.kept g3 (by
        cases hv : u4.ownBlock with
        | none => exact .inl rfl
        | some j => exact .inr (fun e => by injection e with e; have := (HSt.out.own.lt j hv).1; omega)))
      have T3 := hide (fun y hy => (HSt.out.tm y hy).grown g3 (fun c e => by injection e with e; subst e; exact HSt.out.offc y hy))
      have hsz3 := g3.size
      have Hu := hide hu
      have Hp := hide hp
      have Ha := hide ha
      have Hc3 := hide hc3
      have hus : us.length ≤ 1000000 := by have := Hul.out; omega
      have hwa : wr.heap.size ≤ (wr.alloc (.cells #[.int .i64 x.kind, .int .i64 x.n, encStr x.name, .slice x.V x.vars.length x.vc, .slice x.T x.types.length x.tc, .slice x.A x.kids.length x.cap] 31)).heap.size := e1.size
      have Hwa := hide hwa
      clear hu hp ha hc3 hg3 g3 e1 HC hwa
      go_wp2_with (at_builtin; refine wpList_append_row _ rfl _ _ 24 rfl (w.heap.size + 1) 31 j0 _ 6 104 Tryz.underlying24 hj hy0 hy1 hy2 rfl (by decide) u4 us.length (us.flatMap tmC.f) rfl (own_extB O3.out ((Ext.refl _).alloc _)) _ 1 1 [.int .i64 u.kind, .int .i64 u.n, encStr u.name, .slice u.V u.vars.length u.vc, .slice u.T u.types.length u.tc, .slice u.A u.kids.length u.cap] rfl ?c2 ?c3 ?c4 ?c5 ?c6 ?_)
      case c2 => exact Row.tm6 _ _ _ _ _ _ (at_newB _ _ _ (by simp))
      case c3 => intro y hy; simp at hy; rcases hy with rfl | rfl | rfl | rfl | rfl | rfl <;> rfl
      case c4 => unfold maxLen; omega
      case c5 => omega
      case c6 => (first | omega | (simp; omega))
      intro v5 w5 hown5 hg5 hat5
      have e5 : Ext w3 (w3.alloc (.cells #[.int .i64 u.kind, .int .i64 u.n, encStr u.name, .slice u.V u.vars.length u.vc, .slice u.T u.types.length u.tc, .slice u.A u.kids.length u.cap] 31)) := (Ext.refl _).alloc _
      have hown6 : w5.ownsRow (w.heap.size + 1) 31 6 v5 (us ++ [u]).length ((us ++ [u]).flatMap tmC.f) := by rw [List.length_append, flatM_snoc]; exact hown5
      have hat6 : ∀ j, v5.ownBlock = some j → u4.ownBlock = some j ∨ w3.heap.size ≤ j := own_at O3.out e5 (by simpa using hat5)
      have hO4 : ∀ j, u4.ownBlock = some j → w.heap.size + 1 ≤ j ∧ j < wr.heap.size := HSt.out.own.lt
      have hau : ∀ j, w.heap.size ≤ j → j < wr.heap.size → AwayM j u := fun j h1 h2 => Ha.out j (Nat.lt_of_lt_of_le h2 Hwa.out) (HAw.out j h1)
      have T5 : ∀ y ∈ us ++ [u], TmIn w5 y := fun y hy => by
        rcases List.mem_append.1 hy with hy | hy
        · exact ((T3.out y hy).ext e5).grown hg5 (fun c e => HSt.out.off y hy c e)
        · rw [List.mem_singleton] at hy
          subst hy
          exact (Hu.out.ext e5).grown hg5 (fun c e => hau c (by have := (hO4 c e).1; omega) (hO4 c e).2)
      have S5 : Hid (CanSt w w5 w.heap.size v5 (l.take (k + 1)) (us ++ [u]) (canQ numS x.pure cn0 V' L').2.1 (canQ numS x.pure cn0 V' L').2.2) := hide (by
        have eq : canQs numS ((l.take (k + 1)).map Tm.pure) cn0 0 0 = ((canQs numS ((l.take k).map Tm.pure) cn0 0 0).1 ++ [(canQ numS x.pure cn0 V' L').1], (canQ numS x.pure cn0 V' L').2) := by
          rw [Htk.out, List.map_append, canQs_app, ← HSt.out.cv, ← HSt.out.cl]
          show ((canQs numS ((l.take k).map Tm.pure) cn0 0 0).1 ++ (canQs numS [x.pure] cn0 V' L').1, (canQs numS [x.pure] cn0 V' L').2) = _
          rw [canQs_cons]
          rfl
        refine ⟨(X3.out.trans e5).grown hg5 (fun j e => by have := (hO4 j e).1; omega), (hg5.block _ (Nat.lt_of_lt_of_le (lt_of_obj Hc3.out) e5.size) (fun e => by have := (hO4 _ e.symm).1; omega)).trans ((e5.heap (lt_of_obj Hc3.out)).trans Hc3.out), hown6, T5, by rw [Htk.out]; simp [HSt.out.len], by rw [eq, List.map_append, HSt.out.is]; simp [Hp.out], by rw [eq], by rw [eq], fun y hy j hj => ?_, fun y hy => ?_⟩
        · rcases hat6 j hj with h1 | h1
          · rcases List.mem_append.1 hy with hy | hy
            · exact HSt.out.off y hy j h1
            · rw [List.mem_singleton] at hy
              subst hy
              exact hau j (by have := (hO4 j h1).1; omega) (hO4 j h1).2
          · rcases List.mem_append.1 hy with hy | hy
            · exact awayM_new (T3.out y hy) h1
            · rw [List.mem_singleton] at hy
              subst hy
              exact awayM_new Hu.out h1
        · rcases List.mem_append.1 hy with hy | hy
          · exact HSt.out.offc y hy
          · rw [List.mem_singleton] at hy
            subst hy
            exact hau _ (Nat.le_refl _) (by omega))
      have hs5 : w.heap.size + 1 ≤ w5.heap.size := by have := hg5.size; have := e5.size; omega
      clear hown5 hg5 hat5 e5 hown6 hat6 hO4 hau T5
      go_wp2
      go_roundw
      case rel => exact ⟨k + 1, us ++ [u], _, _, hlt, by go_num, hs5, S5⟩
      case measure => simp [intOf]; omega
    · have hge : ¬ (k : Int) < (l.length : Int) := by omega
      have HF2 : Hid (CanSt w wr w.heap.size u4 l us V' L') := hide (by have := HSt.out; rwa [List.take_of_length_le (by omega)] at this)
      clear HSt
      go_wp2
      go_ret
      exact ⟨⟨u4, rfl, us, own_mono HF2.out.own (by omega), HF2.out.len, HF2.out.tm, HF2.out.is⟩, HF2.out.x⟩

end Go.Proofs.YtjacjpeeinnkcaaGreat
