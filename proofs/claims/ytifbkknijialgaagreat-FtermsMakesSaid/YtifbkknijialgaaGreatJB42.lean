/- Arguments that are rows of texts, opened. -/
import Derived.Test.YtifbkknijialgaaGreatJB41
/- Arguments that are rows of texts, opened. -/
namespace Go.Proofs.YtifbkknijialgaaGreat
open Go.RowKit Go.ChangeShapes Go.WideShapes Go.Deep

section
variable {H : Type} {enc : TypeId × Value → H} {w : World} {base : Nat} {spare : Nat → Bool} {held : Bool}
theorem open_texts {v : Value} {d : DataW H} {p : List MemPlace} (h : DataW.Trod enc Tryz.prog w base spare held 38 v d p) (hv : ∃ a n c, v = .slice a n c) :
    ∃ (A : Option Addr) (cap : Nat) (l : List Str), v = .slice A l.length cap ∧ l.length ≤ cap ∧ cap ≤ 9223372036854775807 ∧ Strs w A l ∧ ∀ x ∈ l, x.length ≤ 9223372036854775807 := by
  obtain ⟨A, cap, l, h1, h2, h3, h4, h5⟩ := open_rows strC (fun x : Str => x.length ≤ 9223372036854775807) Tryz.underlying38 (by kernel_rfl) (str_reads Tryz.underlying9) h hv
  exact ⟨A, cap, l, h1, h2, h3, strs_iff.2 h4, h5⟩
end
end Go.Proofs.YtifbkknijialgaaGreat

/- Contract: lambdas around a term, of the reference. -/
namespace Go.Proofs.YtifbkknijialgaaGreat
open Go.RowKit

set_option maxRecDepth 10000 in
set_option maxHeartbeats 4000000 in
theorem r_lams32 (N : Option Addr) (nc : Nat) (names : List Str) (T : Option Addr) (tc : Nat) (types : List Ty) (t : Tm) (w : World) (hN : Strs w N names) (hT : TysIn w T types) (ht : TmIn w t) (hs : ∀ x ∈ names, x.length ≤ 9223372036854775807) (h1 : names.length ≤ 1000000) (h2 : types.length ≤ 1000000) :
    Calls Tryz.prog 24 #[.slice N names.length nc, .slice T types.length tc, tmV t] w fun e w' => (∃ u, e = .returned (tmV u) ∧ TmIn w' u ∧ u.pure = lamsP (names.zip types) t.pure ∧ ∀ c, c < w.heap.size → AwayM c t → (∀ x ∈ types, awayB c x = true) → AwayM c u) ∧ Ext w w' := by
  obtain ⟨W, hW⟩ : ∃ W, W = (w.alloc (.cells #[.int .i64 t.kind, .int .i64 t.n, encStr t.name, .slice t.V t.vars.length t.vc, .slice t.T t.types.length t.tc, .slice t.A t.kids.length t.cap] 50)).alloc (.cells #[.int .i64 0, .int .i64 0, .string ⟨#[]⟩, .slice none 0 0, .slice none 0 0, .slice none 0 0] 50) := ⟨_, rfl⟩
  have HW := hide hW.symm
  have X0 : Hid (Ext w W) := hide (by rw [hW]; exact ((Ext.refl _).alloc _).alloc _)
  have hWs : W.heap.size = w.heap.size + 2 := by rw [hW]; simp
  have B1 : Hid (TmBox W w.heap.size t) := hide (by rw [hW]; exact (TmBox.new w t).ext ((Ext.refl _).alloc _))
  have B2 : Hid (W.heap[w.heap.size + 1]? = some (.cells #[.int .i64 0, .int .i64 0, .string ⟨#[]⟩, .slice none 0 0, .slice none 0 0, .slice none 0 0] 50 (0, 0))) := hide (by rw [hW]; exact at_newB _ _ _ (by simp))
  have HN := hide hN
  have HT := hide hT
  have Ht := hide ht
  have Hs := hide hs
  have HA0 : Hid (∀ c, c < w.heap.size + 2 → (c < w.heap.size → AwayM c t ∧ ∀ x ∈ types, awayB c x = true) → AwayM c t) := hide (fun c _ h => (Nat.lt_or_ge c w.heap.size).elim (fun h1 => (h h1).1) (fun h1 => awayM_new ht h1))
  clear hN hT ht hs hW
  obtain ⟨m, Hm⟩ : ∃ m, Hid (m = (names.zip types).length) := ⟨_, hide rfl⟩
  have hmin : (if (types.length : Int) < (names.length : Int) then (types.length : Int) else (names.length : Int)) = (m : Int) := by have := Hm.out; rw [List.length_zip] at this; split <;> omega
  have hmin3 : (if types.length < names.length then (types.length : Int) else (names.length : Int)) = (m : Int) := by have := Hm.out; rw [List.length_zip] at this; split <;> omega
  have hmin2 : min (names.length : Int) (types.length : Int) = (m : Int) := by have := Hm.out; rw [List.length_zip] at this; omega
  unfold tmV at *
  go_enter Tryz.func24, Tryz.ntmps24
  go_upto_region 1 with fail
  rw [HW.out]
  go_wp2
  go_loopw [7] (fun i wr => ∃ (k : Nat) (v : Int) (u : Tm), (k : Int) = v + 1 ∧ k ≤ (names.zip types).length ∧ i = .int .i64 v ∧ Hid (Ext w wr) ∧ Hid (TmBox wr w.heap.size u) ∧ Hid (wr.heap[w.heap.size + 1]? = some (.cells #[.int .i64 0, .int .i64 0, .string ⟨#[]⟩, .slice none 0 0, .slice none 0 0, .slice none 0 0] 50 (0, 0))) ∧ Hid (TmIn wr u ∧ u.pure = lamsP ((names.zip types).drop k) t.pure ∧ ∀ c, c < w.heap.size + 2 → (c < w.heap.size → AwayM c t ∧ ∀ x ∈ types, awayB c x = true) → AwayM c u)) (fun i _ => (intOf i + 1).toNat)
  case atStart => exact ⟨(names.zip types).length, (m : Int) - 1, t, by have := Hm.out; omega, Nat.le_refl _, rfl, X0, B1, B2, hide ⟨Ht.out.ext X0.out, by rw [List.drop_length]; rfl, HA0.out⟩⟩
  case round =>
    obtain ⟨k, v, u, hk, hkl, rfl, HX, HB, HZ, HU⟩ := hrel
    obtain ⟨c0, c1, c2, c3, c4, c5⟩ := HB.out.cells
    obtain ⟨f0, f1, f2, f3, f4, f5⟩ := HB.out.frees
    by_cases hv : 0 ≤ v
    · obtain ⟨j, rfl⟩ : ∃ j : Nat, v = (j : Int) := ⟨v.toNat, by omega⟩
      have hkj : k = j + 1 := by omega
      subst hkj
      have hlz : j < (names.zip types).length := by omega
      have hjn : j < names.length := by rw [List.length_zip] at hlz; omega
      have hjt : j < types.length := by rw [List.length_zip] at hlz; omega
      have hn1 : (j : Int) < (names.length : Int) := by omega
      have ht1 : (j : Int) < (types.length : Int) := by omega
      have XR := HX
      have hz2 := lt_of_obj HZ.out
      obtain ⟨b, o, hA, hb, q0⟩ := (HN.out.ext XR.out).at_ hjn
      obtain ⟨b', o', hA', hb', r0, r1, r2⟩ := (HT.out.ext XR.out).at_ hjt
      rw [hA, hA']
      have Hxs := hide (Hs.out (names.getD j []) (by simp [hjn]))
      have hbl := HB.out.lt
      have Hzip : Hid (lamsP ((names.zip types).drop j) t.pure = lamP (names[j]'hjn) (types[j]'hjt).pure (lamsP ((names.zip types).drop (j + 1)) t.pure)) := hide (by rw [lamsP_drop _ _ hlz, List.getElem_zip])
      have Hxt := hide (List.getElem_mem hjt)
      have Hxi := hide (HT.out.args _ (List.getElem_mem hjt))
      have hgd : names.getD j [] = names[j]'hjn := by simp [hjn]
      rw [hgd] at q0 Hxs
      generalize names[j]'hjn = s at *
      generalize types[j]'hjt = x at *
      clear hgd hA hA'
      have HAx : Hid (∀ c, w.heap.size ≤ c → awayB c x = true) := hide (fun c hc => away_new Hxi.out hc)
      have Hxr := hide (Hxi.out.ext XR.out)
      have HAu : ∀ g h, wr.heap.size ≤ g → wr.heap.size ≤ h → ∀ c, c < w.heap.size + 2 → (c < w.heap.size → AwayM c t ∧ ∀ x ∈ types, awayB c x = true) → AwayM c (lamT s x u g h) := fun g h hg hh c hc h2 => by
        refine lamT_away (by omega) (by omega) ?_ (HU.out.2.2 c hc h2)
        rcases Nat.lt_or_ge c w.heap.size with h3 | h3
        · exact (h2 h3).2 _ Hxt.out
        · exact HAx.out c h3
      have HAu := hide HAu
      have HP : Hid (∀ g h, (lamT s x u g h).pure = lamsP ((names.zip types).drop j) t.pure) := hide (fun g h => by rw [lamT_pure, HU.out.2.1, Hzip.out])
      have HLA := hide (lam_stepA HX.out HB.out HZ.out HU.out.1 (HU.out.2.2 _ (by omega) (fun h => by omega)) Hxr.out (HAx.out _ (Nat.le_refl _)) Hxs.out (Nat.le_refl _))
      have HLB := hide (lam_stepB HX.out HB.out HZ.out HU.out.1 (HU.out.2.2 _ (by omega) (fun h => by omega)) Hxr.out (HAx.out _ (Nat.le_refl _)) Hxs.out (Nat.le_refl _))
      go_wp2
      go_region
      all_goals (go_wp2; go_roundw)
      case measure => simp [intOf]
      case measure => simp [intOf]
      case rel => exact ⟨j, (j : Int) - 1, lamT s x u wr.heap.size (wr.heap.size + 1), by omega, by omega, rfl, hide HLA.out.1, hide HLA.out.2.1, hide HLA.out.2.2.1, hide ⟨HLA.out.2.2.2, HP.out _ _, HAu.out _ _ (Nat.le_refl _) (Nat.le_succ _)⟩⟩
      case rel => exact ⟨j, (j : Int) - 1, lamT s x u (wr.heap.size + 1) wr.heap.size, by omega, by omega, rfl, hide HLB.out.1, hide HLB.out.2.1, hide HLB.out.2.2.1, hide ⟨HLB.out.2.2.2, HP.out _ _, HAu.out _ _ (Nat.le_succ _) (Nat.le_refl _)⟩⟩
    · have hk0 : k = 0 := by omega
      subst hk0
      obtain ⟨hu, hp, ha⟩ := HU.out
      rw [List.drop_zero] at hp
      obtain ⟨WF, hWF⟩ : ∃ WF, WF = putTm wr (w.heap.size + 1) u := ⟨_, rfl⟩
      have hgr := putTm_grown wr (w.heap.size + 1) u
      have hbx := putTm_box u HZ.out
      rw [← hWF] at hgr hbx
      have XF := hide (HX.out.grown hgr (fun c e => by injection e with e; omega))
      have HUF := hide (hu.grown hgr (fun c e => by injection e with e; subst e; exact ha _ (by omega) (fun h => by omega)))
      have HP := hide hp
      have HA := hide ha
      have g0 := free_block HZ.out 0
      have g1 := free_block HZ.out 1
      have g2 := free_block HZ.out 2
      have g3 := free_block HZ.out 3
      have g4 := free_block HZ.out 4
      have g5 := free_block HZ.out 5
      have z0 := bytes_block HZ.out 0
      have z1 := bytes_block HZ.out 1
      have z2 := bytes_block HZ.out 2
      have z3 := bytes_block HZ.out 3
      have z4 := bytes_block HZ.out 4
      have z5 := bytes_block HZ.out 5
      simp only [List.getElem?_toArray, List.getElem?_cons_zero, List.getElem?_cons_succ] at z0 z1 z2 z3 z4 z5
      obtain ⟨m0, m1, m2, m3, m4, m5⟩ := hbx.cells
      clear hu hp ha hgr hbx
      unfold putTm at hWF
      go_wp2
      rw [← hWF]
      refine bodyPost_ret (v := .agg #[.int .i64 u.kind, .int .i64 u.n, .string ⟨u.name.toArray⟩, .slice u.V u.vars.length u.vc, .slice u.T u.types.length u.tc, .slice u.A u.kids.length u.cap]) ?_ rfl ⟨⟨u, rfl, HUF.out, HP.out, fun c hc h1 h2 => HA.out c (by omega) (fun _ => ⟨h1, h2⟩)⟩, XF.out⟩
      simp [results, Tryz.f24, go_sem, m0, m1, m2, m3, m4, m5]

end Go.Proofs.YtifbkknijialgaaGreat

/- Contract: a term of others, of the reference. -/
namespace Go.Proofs.YtifbkknijialgaaGreat
open Go.RowKit

set_option maxRecDepth 10000 in
set_option maxHeartbeats 4000000 in
theorem r_apps32 (A : Option Addr) (cap : Nat) (l : List Tm) (t : Tm) (w : World) (h : TmsIn w A l) (ht : TmIn w t) (hl : l.length ≤ 1000000) :
    Calls Tryz.prog 26 #[tmV t, .slice A l.length cap] w fun e w' => (∃ u, e = .returned (tmV u) ∧ TmIn w' u ∧ u.pure = appsP t.pure l ∧ ∀ c, c < w.heap.size → AwayM c t → (∀ x ∈ l, AwayM c x) → AwayM c u) ∧ Ext w w' := by
  obtain ⟨W, hW⟩ : ∃ W, W = (w.alloc (.cells #[.int .i64 t.kind, .int .i64 t.n, encStr t.name, .slice t.V t.vars.length t.vc, .slice t.T t.types.length t.tc, .slice t.A t.kids.length t.cap] 50)).alloc (.cells #[.int .i64 0, .int .i64 0, .string ⟨#[]⟩, .slice none 0 0, .slice none 0 0, .slice none 0 0] 50) := ⟨_, rfl⟩
  have HW := hide hW.symm
  have X0 : Hid (Ext w W) := hide (by rw [hW]; exact ((Ext.refl _).alloc _).alloc _)
  have hWs : W.heap.size = w.heap.size + 2 := by rw [hW]; simp
  have B1 : Hid (TmBox W w.heap.size t) := hide (by rw [hW]; exact (TmBox.new w t).ext ((Ext.refl _).alloc _))
  have B2 : Hid (W.heap[w.heap.size + 1]? = some (.cells #[.int .i64 0, .int .i64 0, .string ⟨#[]⟩, .slice none 0 0, .slice none 0 0, .slice none 0 0] 50 (0, 0))) := hide (by rw [hW]; exact at_newB _ _ _ (by simp))
  have H := hide h
  have Ht := hide ht
  have HA0 : Hid (∀ c, c < w.heap.size + 2 → (c < w.heap.size → AwayM c t ∧ ∀ x ∈ l, AwayM c x) → AwayM c t) := hide (fun c _ h => (Nat.lt_or_ge c w.heap.size).elim (fun h1 => (h h1).1) (fun h1 => awayM_new ht h1))
  clear h ht hW
  unfold tmV at *
  go_enter Tryz.func26, Tryz.ntmps26
  go_upto_region 1 with fail
  rw [HW.out]
  go_wp2
  go_loopw [5] (fun i wr => ∃ (k : Nat) (u : Tm), k ≤ l.length ∧ i = .int .i64 k ∧ Hid (Ext w wr) ∧ Hid (TmBox wr w.heap.size u) ∧ Hid (wr.heap[w.heap.size + 1]? = some (.cells #[.int .i64 0, .int .i64 0, .string ⟨#[]⟩, .slice none 0 0, .slice none 0 0, .slice none 0 0] 50 (0, 0))) ∧ Hid (TmIn wr u ∧ u.pure = appsP t.pure (l.take k) ∧ ∀ c, c < w.heap.size + 2 → (c < w.heap.size → AwayM c t ∧ ∀ x ∈ l, AwayM c x) → AwayM c u)) (fun i _ => l.length - (intOf i).toNat)
  case atStart => exact ⟨0, t, Nat.zero_le _, rfl, X0, B1, B2, hide ⟨Ht.out.ext X0.out, rfl, HA0.out⟩⟩
  case round =>
    obtain ⟨k, u, hk, rfl, HX, HB, HZ, HU⟩ := hrel
    have hz2 := lt_of_obj HZ.out
    have hbl := HB.out.lt
    by_cases hlt : k < l.length
    · have hlt' : (k : Int) < (l.length : Int) := by omega
      have hk0 : (0 : Int) ≤ (k : Int) := by omega
      obtain ⟨b, o, hA, hb, r0, r1, r2, r3, r4, r5⟩ := (H.out.ext HX.out).at_ hlt
      have Htk := hide (appsP_take t.pure l hlt)
      have Hm := hide (List.getElem_mem hlt)
      have Hx := hide (H.out.kids _ (List.getElem_mem hlt))
      rw [hA]
      generalize l[k]'hlt = x at *
      have HAx : Hid (∀ c, c < w.heap.size + 2 → (c < w.heap.size → AwayM c t ∧ ∀ x ∈ l, AwayM c x) → AwayM c x) := hide (fun c _ h => (Nat.lt_or_ge c w.heap.size).elim (fun h1 => (h h1).2 _ Hm.out) (fun h1 => awayM_new Hx.out h1))
      have HAu : Hid (∀ g, wr.heap.size ≤ g → ∀ c, c < w.heap.size + 2 → (c < w.heap.size → AwayM c t ∧ ∀ x ∈ l, AwayM c x) → AwayM c (appT u x g)) := hide (fun g hg c hc h2 => appT_away (by omega) (HU.out.2.2 c hc h2) (HAx.out c hc h2))
      have HP : Hid (∀ g, (appT u x g).pure = appsP t.pure (l.take (k + 1))) := hide (fun g => by rw [appT_pure, HU.out.2.1, Htk.out])
      clear hA
      obtain ⟨c0, c1, c2, c3, c4, c5⟩ := HB.out.cells
      obtain ⟨f0, f1, f2, f3, f4, f5⟩ := HB.out.frees
      have HL := hide (app_stepB HX.out HB.out HZ.out HU.out.1 (HU.out.2.2 _ (by omega) (fun h => by omega)) (Hx.out.ext HX.out) (HAx.out _ (by omega) (fun h => by omega)) (Nat.le_refl _))
      go_wp2
      go_region
      all_goals (go_wp2; go_roundw)
      case measure => simp [intOf]; omega
      case rel => exact ⟨k + 1, appT u x _, hlt, by go_num, hide HL.out.1.drew, hide (HL.out.2.1.ext (Ext.refl _).drew), hide HL.out.2.2.1, hide ⟨HL.out.2.2.2.ext (Ext.refl _).drew, HP.out _, HAu.out _ (by omega)⟩⟩
    · have hge : ¬ (k : Int) < (l.length : Int) := by omega
      obtain ⟨c0, c1, c2, c3, c4, c5⟩ := HB.out.cells
      obtain ⟨hu, hp, ha⟩ := HU.out
      rw [List.take_of_length_le (by omega)] at hp
      obtain ⟨WF, hWF⟩ : ∃ WF, WF = putTm wr (w.heap.size + 1) u := ⟨_, rfl⟩
      have hgr := putTm_grown wr (w.heap.size + 1) u
      have hbx := putTm_box u HZ.out
      rw [← hWF] at hgr hbx
      have XF := hide (HX.out.grown hgr (fun c e => by injection e with e; omega))
      have HUF := hide (hu.grown hgr (fun c e => by injection e with e; subst e; exact ha _ (by omega) (fun h => by omega)))
      have HP := hide hp
      have HA := hide ha
      have g0 := free_block HZ.out 0
      have g1 := free_block HZ.out 1
      have g2 := free_block HZ.out 2
      have g3 := free_block HZ.out 3
      have g4 := free_block HZ.out 4
      have g5 := free_block HZ.out 5
      have z0 := bytes_block HZ.out 0
      have z1 := bytes_block HZ.out 1
      have z2 := bytes_block HZ.out 2
      have z3 := bytes_block HZ.out 3
      have z4 := bytes_block HZ.out 4
      have z5 := bytes_block HZ.out 5
      simp only [List.getElem?_toArray, List.getElem?_cons_zero, List.getElem?_cons_succ] at z0 z1 z2 z3 z4 z5
      obtain ⟨m0, m1, m2, m3, m4, m5⟩ := hbx.cells
      clear hu hp ha hgr hbx
      unfold putTm at hWF
      go_wp2
      rw [← hWF]
      refine bodyPost_ret (v := .agg #[.int .i64 u.kind, .int .i64 u.n, .string ⟨u.name.toArray⟩, .slice u.V u.vars.length u.vc, .slice u.T u.types.length u.tc, .slice u.A u.kids.length u.cap]) ?_ rfl ⟨⟨u, rfl, HUF.out, HP.out, fun c hc h1 h2 => HA.out c (by omega) (fun _ => ⟨h1, h2⟩)⟩, XF.out⟩
      simp [results, Tryz.f26, go_sem, m0, m1, m2, m3, m4, m5]

end Go.Proofs.YtifbkknijialgaaGreat

/- The law FtermsMakes, walked. -/
namespace Go.Proofs.YtifbkknijialgaaGreat
open Go.RowKit

set_option maxRecDepth 10000 in
set_option maxHeartbeats 8000000 in
theorem law_makes (N : Option Addr) (nc : Nat) (names : List Str) (T : Option Addr) (tc : Nat) (types : List Ty) (A : Option Addr) (cap : Nat) (l : List Tm) (w : World) (hN : Strs w N names) (hs : ∀ x ∈ names, x.length ≤ 9223372036854775807) (hT : TysIn w T types) (hl : TmsIn w A l) (hle : l.length ≤ cap) (hcap : cap ≤ 9223372036854775807) :
    Calls Tryz.prog 5 #[.slice N names.length nc, .slice T types.length tc, .slice A l.length cap] w fun e w' => e = .returned (.bool true) ∧ Ext w w' := by
  have HAw := hide l_awake32
  have HN := hide hN
  have HT := hide hT
  have HL := hide hl
  have Hs := hide hs
  clear hN hT hl hs
  go_enter Tryz.func5, Tryz.ntmps5
  by_cases h1 : l.length = 0
  · have i1 : ((l.length : Int) == 0) = true := by rw [beq_iff_eq]; omega
    go_wp2_with fail
    refine (HAw.out _).mono ?_
    rintro e w9 ⟨rfl, hx⟩
    go_wp2
    go_ret
    exact ⟨rfl, hx⟩
  have i1 : ((l.length : Int) == 0) = false := by rw [beq_eq_false_iff_ne]; omega
  by_cases h2 : l.length > 10
  · have i2 : (l.length : Int) > 10 := by omega
    go_wp2_with fail
    refine (HAw.out _).mono ?_
    rintro e w9 ⟨rfl, hx⟩
    go_wp2
    go_ret
    exact ⟨rfl, hx⟩
  have i2 : ¬ (l.length : Int) > 10 := by omega
  by_cases h3 : names.length > 20
  · have i3 : (names.length : Int) > 20 := by omega
    go_wp2_with fail
    refine (HAw.out _).mono ?_
    rintro e w9 ⟨rfl, hx⟩
    go_wp2
    go_ret
    exact ⟨rfl, hx⟩
  have i3 : ¬ (names.length : Int) > 20 := by omega
  by_cases h4 : types.length > 20
  · have i4 : (types.length : Int) > 20 := by omega
    go_wp2_with fail
    refine (HAw.out _).mono ?_
    rintro e w9 ⟨rfl, hx⟩
    go_wp2
    go_ret
    exact ⟨rfl, hx⟩
  have i4 : ¬ (types.length : Int) > 20 := by omega
  go_wp2_with fail
  refine (l_few32 A cap l w HL.out (by omega)).mono ?_
  rintro e w2 ⟨⟨r, rfl, hr⟩, hx2⟩
  have X2 := hide hx2
  clear hx2
  rcases hr with rfl | ⟨rfl, -, -⟩
  · go_wp2_with fail
    refine (HAw.out _).mono ?_
    rintro e w9 ⟨rfl, hx⟩
    go_wp2
    go_ret
    exact ⟨rfl, X2.out.trans hx⟩
  go_wp2_with fail
  refine (l_few16 T tc types w2 (HT.out.ext X2.out) (by omega)).mono ?_
  rintro e w3 ⟨⟨r, rfl, hr⟩, hx3⟩
  have X3 := hide (X2.out.trans hx3)
  clear hx3
  rcases hr with rfl | ⟨rfl, -, -⟩
  · go_wp2_with fail
    refine (HAw.out _).mono ?_
    rintro e w9 ⟨rfl, hx⟩
    go_wp2
    go_ret
    exact ⟨rfl, X3.out.trans hx⟩
  have hl0 : 0 < l.length := by omega
  obtain ⟨b, o, rfl, -, -⟩ := HL.out.at_ hl0
  have HS := hide (fun w' (e : Ext w w') => by
    obtain ⟨b', o', hA, hb, q⟩ := (HL.out.ext e).at_ hl0
    cases hA
    exact q)
  simp only [Nat.zero_mul, Nat.add_zero] at HS
  have HC : Hid (TmsIn w (if cap = 1 then some ⟨b, o, none⟩ else (some (⟨b, o, none⟩ : Addr)).map (·.add (1 * 6))) (l.drop 1)) := hide (HL.out.cut (by omega) hle)
  have hdl : (l.drop 1).length = l.length - 1 := by simp
  have Ht0 : Hid (TmIn w (l[0]'hl0)) := hide (HL.out.kids _ (List.getElem_mem hl0))
  generalize l[0]'hl0 = t at *
  have H1 := hide (fun w' (e : Ext w w') => hide (m_lams N nc names T tc types t w' (HN.out.ext e) (HT.out.ext e) (Ht0.out.ext e) Hs.out (by omega) (by omega)))
  have H2 := hide (fun w' (e : Ext w w') => hide (r_lams32 N nc names T tc types t w' (HN.out.ext e) (HT.out.ext e) (Ht0.out.ext e) Hs.out (by omega) (by omega)))
  have H5 := hide (fun (a b : Tm) w' (ha : TmIn w' a) (hb : TmIn w' b) (h : a.pure = b.pure) => hide (r_same32 a b w' ha hb h))
  unfold tmV at H1 H2 H5
  obtain ⟨q0, q1, q2, q3, q4, q5⟩ := HS.out _ X3.out
  have i0 : (0 : Int) < (l.length : Int) := by omega
  have j1 : (1 : Int) ≤ (l.length : Int) := by omega
  have j2 : (1 : Int) ≤ (cap : Int) := by omega
  clear HN HT HL Hs
  by_cases hc : cap = 1
  · subst hc
    have HC1 : Hid (TmsIn w (some ⟨b, o, none⟩) (l.drop 1)) := hide (by have := HC.out; rw [if_pos rfl] at this; exact this)
    have H3 := hide (fun w' (e : Ext w w') => hide (m_apps (some ⟨b, o, none⟩) (0) (l.drop 1) t w' (HC1.out.ext e) (Ht0.out.ext e) (by omega)))
    have H4 := hide (fun w' (e : Ext w w') => hide (r_apps32 (some ⟨b, o, none⟩) (0) (l.drop 1) t w' (HC1.out.ext e) (Ht0.out.ext e) (by omega)))
    have h01 : l.length - 1 = 0 := by omega
    rw [hdl, h01] at H3 H4
    unfold tmV at H3 H4
    clear h01 hdl HC HC1 Ht0
    go_wp2
    go_region_held3 (fun w' => w'.cell? ⟨b, o, none⟩ = some (.int .i64 t.kind) ∧ w'.cell? ⟨b, o + 1, none⟩ = some (.int .i64 t.n) ∧ w'.cell? ⟨b, o + 2, none⟩ = some (.string ⟨t.name.toArray⟩) ∧ w'.cell? ⟨b, o + 3, none⟩ = some (.slice t.V t.vars.length t.vc) ∧ w'.cell? ⟨b, o + 4, none⟩ = some (.slice t.T t.types.length t.tc) ∧ w'.cell? ⟨b, o + 5, none⟩ = some (.slice t.A t.kids.length t.cap)) (first | assumption | go_keep) (first
    | (go_at_call 23
       with_reducible refine Calls.mono (H1.out _ (X3.out.trans (Ext.refl _).drew)).out ?_
       rintro e y0 ⟨⟨u1, rfl, hu1, hp1, -⟩, hx⟩
       have Y0 := hide ((X3.out.trans (Ext.refl w3).drew).trans hx)
       have k0 := HS.out _ Y0.out
       have U1 := hide hu1
       have P1 := hide hp1
       clear hx hu1 hp1)
    | (go_at_call 24
       with_reducible refine Calls.mono (H2.out _ Y0.out).out ?_
       rintro e y1 ⟨⟨u2, rfl, hu2, hp2, -⟩, hx⟩
       have Y1 := hide (Y0.out.trans hx)
       have k1 := HS.out _ Y1.out
       have U1' := hide (U1.out.ext hx)
       have U2 := hide hu2
       have P2 := hide (P1.out.trans hp2.symm)
       clear hx hu2 hp2)
    | (go_at_call 22
       with_reducible refine Calls.mono (H5.out _ _ _ U1'.out U2.out P2.out).out ?_
       rintro e y2 ⟨rfl, hx⟩
       have Y2 := hide (Y1.out.trans hx)
       have k2 := HS.out _ Y2.out
       clear hx)
    | (go_at_call 25
       with_reducible refine Calls.mono (H3.out _ Y2.out).out ?_
       rintro e y3 ⟨⟨u3, rfl, hu3, hp3, -⟩, hx⟩
       have Y3 := hide (Y2.out.trans hx)
       have k3 := HS.out _ Y3.out
       have U3 := hide hu3
       have P3 := hide hp3
       clear hx hu3 hp3)
    | (go_at_call 26
       with_reducible refine Calls.mono (H4.out _ Y3.out).out ?_
       rintro e y4 ⟨⟨u4, rfl, hu4, hp4, -⟩, hx⟩
       have Y4 := hide (Y3.out.trans hx)
       have k4 := HS.out _ Y4.out
       have U3' := hide (U3.out.ext hx)
       have U4 := hide hu4
       have P4 := hide (P3.out.trans hp4.symm)
       clear hx hu4 hp4)
    | (go_at_call 22
       with_reducible refine Calls.mono (H5.out _ _ _ U3'.out U4.out P4.out).out ?_
       rintro e y5 ⟨rfl, hx⟩
       have Y5 := hide (Y4.out.trans hx)
       have k5 := HS.out _ Y5.out
       clear hx)
    | (go_at_call 21
       with_reducible refine Calls.mono (HAw.out _) ?_
       rintro e y6 ⟨rfl, hx⟩
       have Y6 := hide (Y5.out.trans hx)
       have k6 := HS.out _ Y6.out
       clear hx))
    clear k0 k1 k2 k3 k4 k5 k6
    go_wp2
    go_ret
    exact ⟨rfl, Y6.out⟩
  · skip
    have HC1 : Hid (TmsIn w (some ⟨b, o + 6, none⟩) (l.drop 1)) := hide (by have := HC.out; rw [if_neg hc] at this; exact this)
    have H3 := hide (fun w' (e : Ext w w') => hide (m_apps (some ⟨b, o + 6, none⟩) (cap - 1) (l.drop 1) t w' (HC1.out.ext e) (Ht0.out.ext e) (by omega)))
    have H4 := hide (fun w' (e : Ext w w') => hide (r_apps32 (some ⟨b, o + 6, none⟩) (cap - 1) (l.drop 1) t w' (HC1.out.ext e) (Ht0.out.ext e) (by omega)))
    rw [hdl] at H3 H4
    unfold tmV at H3 H4
    clear hdl HC HC1 Ht0
    go_wp2
    go_region_held3 (fun w' => w'.cell? ⟨b, o, none⟩ = some (.int .i64 t.kind) ∧ w'.cell? ⟨b, o + 1, none⟩ = some (.int .i64 t.n) ∧ w'.cell? ⟨b, o + 2, none⟩ = some (.string ⟨t.name.toArray⟩) ∧ w'.cell? ⟨b, o + 3, none⟩ = some (.slice t.V t.vars.length t.vc) ∧ w'.cell? ⟨b, o + 4, none⟩ = some (.slice t.T t.types.length t.tc) ∧ w'.cell? ⟨b, o + 5, none⟩ = some (.slice t.A t.kids.length t.cap)) (first | assumption | go_keep) (first
    | (go_at_call 23
       with_reducible refine Calls.mono (H1.out _ (X3.out.trans (Ext.refl _).drew)).out ?_
       rintro e y0 ⟨⟨u1, rfl, hu1, hp1, -⟩, hx⟩
       have Y0 := hide ((X3.out.trans (Ext.refl w3).drew).trans hx)
       have k0 := HS.out _ Y0.out
       have U1 := hide hu1
       have P1 := hide hp1
       clear hx hu1 hp1)
    | (go_at_call 24
       with_reducible refine Calls.mono (H2.out _ Y0.out).out ?_
       rintro e y1 ⟨⟨u2, rfl, hu2, hp2, -⟩, hx⟩
       have Y1 := hide (Y0.out.trans hx)
       have k1 := HS.out _ Y1.out
       have U1' := hide (U1.out.ext hx)
       have U2 := hide hu2
       have P2 := hide (P1.out.trans hp2.symm)
       clear hx hu2 hp2)
    | (go_at_call 22
       with_reducible refine Calls.mono (H5.out _ _ _ U1'.out U2.out P2.out).out ?_
       rintro e y2 ⟨rfl, hx⟩
       have Y2 := hide (Y1.out.trans hx)
       have k2 := HS.out _ Y2.out
       clear hx)
    | (go_at_call 25
       with_reducible refine Calls.mono (H3.out _ Y2.out).out ?_
       rintro e y3 ⟨⟨u3, rfl, hu3, hp3, -⟩, hx⟩
       have Y3 := hide (Y2.out.trans hx)
       have k3 := HS.out _ Y3.out
       have U3 := hide hu3
       have P3 := hide hp3
       clear hx hu3 hp3)
    | (go_at_call 26
       with_reducible refine Calls.mono (H4.out _ Y3.out).out ?_
       rintro e y4 ⟨⟨u4, rfl, hu4, hp4, -⟩, hx⟩
       have Y4 := hide (Y3.out.trans hx)
       have k4 := HS.out _ Y4.out
       have U3' := hide (U3.out.ext hx)
       have U4 := hide hu4
       have P4 := hide (P3.out.trans hp4.symm)
       clear hx hu4 hp4)
    | (go_at_call 22
       with_reducible refine Calls.mono (H5.out _ _ _ U3'.out U4.out P4.out).out ?_
       rintro e y5 ⟨rfl, hx⟩
       have Y5 := hide (Y4.out.trans hx)
       have k5 := HS.out _ Y5.out
       clear hx)
    | (go_at_call 21
       with_reducible refine Calls.mono (HAw.out _) ?_
       rintro e y6 ⟨rfl, hx⟩
       have Y6 := hide (Y5.out.trans hx)
       have k6 := HS.out _ Y6.out
       clear hx))
    clear k0 k1 k2 k3 k4 k5 k6
    go_wp2
    go_ret
    exact ⟨rfl, Y6.out⟩

end Go.Proofs.YtifbkknijialgaaGreat
