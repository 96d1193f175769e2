/- Contract: whether a term has its kind's shape. -/
import Derived.Test.YtjacjpeeinnkcaaGreatJB26
import Derived.RangeFuncNested
import Derived.RangeFuncBound
import Derived.RangeFuncCalls
import Derived.RangeFuncLeaves
/- Contract: whether a term has its kind's shape. -/
namespace Go.Proofs.YtjacjpeeinnkcaaGreat
open Go.RowKit Go.Shelf

theorem mfits1_opens : Opens 200 := enters_of Tryz.func200 (by kernel_rfl) rfl
theorem m_fits1 (t : Ty) (w : World) (h : TyIn w t) (hsz : t.size ≤ 90000) : Calls Tryz.prog 200 #[tyV t] w fun e w' => e = .returned (.bool (!legalD t)) ∧ Ext w w' := by
  have X0 : Hid (Ext w (w.alloc (.cells #[encStr t.con, .int .i64 t.var, .slice t.A t.args.length t.cap] 55))) := hide ((Ext.refl w).alloc _)
  have HL := hide (fun w' (e : Ext w w') => hide (f_legal t w' (h.ext e) hsz))
  clear h
  generalize legalD t = R at *
  unfold tyV at *
  go_enter Tryz.func200, Tryz.ntmps200
  go_wp2_with fail
  refine (HL.out _ X0.out).out.mono ?_
  rintro e w2 ⟨rfl, hx⟩
  go_wp2
  go_ret
  exact ⟨rfl, X0.out.trans hx⟩

set_option maxRecDepth 10000 in
set_option maxHeartbeats 8000000 in
theorem m_fits (t : Tm) (w : World) (h : TmIn w t) (hsz : ∀ x ∈ t.types, x.size ≤ 90000) (htl : t.types.length ≤ 1000000) : Calls Tryz.prog 120 #[tmV t] w fun e w' => e = .returned (.bool (fitsM t)) ∧ Ext w w' := by
  obtain ⟨W, hW⟩ : ∃ W, W = w.alloc (.cells #[.int .i64 t.kind, .int .i64 t.n, encStr t.name, .slice t.V t.vars.length t.vc, .slice t.T t.types.length t.tc, .slice t.A t.kids.length t.cap] 31) := ⟨_, rfl⟩
  have HW := hide hW.symm
  have X0 : Hid (Ext w W) := hide (by rw [hW]; exact (Ext.refl _).alloc _)
  have B1 : Hid (TmBox W w.heap.size t) := hide (by rw [hW]; exact TmBox.new w t)
  have hWs : W.heap.size = w.heap.size + 1 := by rw [hW]; simp
  have HS := hide (fun w' => hide (m_shapes t.kind w'))
  have HT := hide (fun w' (e : Ext w w') => hide (has_ft 200 #[] mfits1_opens (fun x => !legalD x) t.T t.tc t.types w' (h.hd.types.ext e) htl (fun w'' e2 x hx => m_fits1 x w'' ((h.hd.types.args x hx).ext (e.trans e2)) (hsz x hx))))
  have Hany : Hid ((t.types.any fun x => !legalD x) = !(t.types.all legalD)) := hide (by rw [← List.not_all_eq_any_not])
  have hkl := h.hd.le
  have hkm := h.hd.max
  have hvl := h.hd.vle
  have hvm := h.hd.vmax
  have HF : Hid (fitsM t = (fitsOf t.kind t.n (!(t.name == [])) t.vars.length t.types.length t.kids.length && t.types.all legalD)) := hide rfl
  clear h hsz hW
  generalize fitsM t = R at *
  rw [Hany.out] at HT
  generalize t.types.all legalD = RL at *
  obtain ⟨c0, c1, c2, c3, c4, c5⟩ := B1.out.cells
  unfold tmV at *
  unfold fitsOf at HF
  go_enter Tryz.func120, Tryz.ntmps120
  go_upto_region 1 with fail
  rw [HW.out]
  go_wp2_with fail
  refine (HS.out _).out.mono ?_
  rintro e w2 ⟨rfl, hx⟩
  have X2 := hide hx
  clear hx
  cases hd : shapeK t.kind with
  | none =>
    rw [hd] at HF
    have HR := HF.out
    simp only at HR
    subst HR
    unfold shapeV
    go_wp2
    go_ret
    exact ⟨rfl, X0.out.trans (X2.out.trans (by repeat (first | exact Ext.refl _ | exact Ext.pre (by simp) | exact Ext.alloc (by assumption) _ | refine Ext.alloc ?_ _ |  refine Ext.more ?_ _ _ | refine Ext.drew ?_ | refine Ext.drewN ?_ _)))⟩
  | some d =>
    obtain ⟨nm, ct, f0, ty, kd⟩ := d
    rw [hd] at HF
    simp only at HF
    unfold shapeV shV
    go_upto_region 2 with fail
    obtain ⟨W3, hW3⟩ : ∃ W3, W3 = w2.alloc (.cells #[.bool nm, .bool ct, .bool f0, .int .i64 ty, .int .i64 kd] 268) := ⟨_, rfl⟩
    have hb3 : W3.heap[w2.heap.size]? = some (.cells #[.bool nm, .bool ct, .bool f0, .int .i64 ty, .int .i64 kd] 268 (0, 0)) := by rw [hW3]; exact at_newB _ _ _ rfl
    have X3 : Hid (Ext W W3) := hide (by rw [hW3]; exact X2.out.alloc _)
    rw [← hW3]
    clear hW3 c0 c1 c2 c3 c4 c5
    obtain ⟨c0, c1, c2, c3, c4, c5⟩ := (B1.out.ext X3.out).cells
    have e0 := bytes_block hb3 0
    have e1 := bytes_block hb3 1
    have e2 := bytes_block hb3 2
    have e3 := bytes_block hb3 3
    have e4 := bytes_block hb3 4
    simp only [List.getElem?_toArray, List.getElem?_cons_zero, List.getElem?_cons_succ] at e0 e1 e2 e3 e4
    clear hb3
    obtain ⟨D, hD⟩ : ∃ D, D = ((!(t.name == [])) == nm && (t.n == 0 || ct) && !(decide (t.n < 0) && f0)) := ⟨_, rfl⟩
    have HD := hide hD
    clear hD
    go_cut [39] (fun s39 wx => s39 = .bool (!D) ∧ W3 = wx)
    case first =>
      cases hn : (t.name == ([] : Str)) <;> cases nm
      case true.true =>
        have hD : D = false := by rw [HD.out, hn]; rfl
        subst hD
        go_wp2_with fail
        go_meet
        exact ⟨rfl, rfl⟩
      case false.false =>
        have hD : D = false := by rw [HD.out, hn]; rfl
        subst hD
        go_wp2_with fail
        go_meet
        exact ⟨rfl, rfl⟩
      all_goals
        cases h0 : (t.n != 0)
        rotate_left
        · have h00 : (t.n == 0) = false := by simpa using h0
          cases ct
          · have hD : D = false := by rw [HD.out, hn, h00]; rfl
            subst hD
            clear h00
            go_wp2_with fail
            go_meet
            exact ⟨rfl, rfl⟩
          · by_cases hneg : t.n < 0
            · have hD : D = !f0 := by rw [HD.out, hn, h00]; simp [hneg]
              subst hD
              clear h00
              go_wp2_with fail
              go_meet
              exact ⟨by simp, rfl⟩
            · have hD : D = true := by rw [HD.out, hn, h00]; simp [hneg]
              subst hD
              clear h00
              go_wp2_with fail
              go_meet
              exact ⟨rfl, rfl⟩
        · have h00 : (t.n == 0) = true := by simpa using h0
          have hneg : ¬ t.n < 0 := by simp at h0; omega
          have hD : D = true := by rw [HD.out, hn, h00]; simp [hneg]
          subst hD
          clear h00
          go_wp2_with fail
          go_meet
          exact ⟨rfl, rfl⟩
    case rest =>
      obtain ⟨rfl, rfl⟩ := hcut
      rw [show ((!(t.name == [])) == nm && (t.n == 0 || ct) && !(decide (t.n < 0) && f0)) = D from HD.out.symm] at HF
      clear HD
      cases D
      · have HR := HF.out
        simp only [Bool.false_and] at HR
        subst HR
        go_wp2
        go_ret
        exact ⟨rfl, X0.out.trans X3.out⟩
      go_upto_region 4 with fail
      obtain ⟨D2, hD2⟩ : ∃ D2, D2 = (decide (t.vars.length = 0) || t.kind == 5 || t.kind == 11) := ⟨_, rfl⟩
      have HD2 := hide hD2
      clear hD2
      go_cut [53] (fun s53 wx => s53 = .bool (!D2) ∧ W3 = wx)
      case first =>
        by_cases hv : t.vars.length = 0
        · have hv2 : ¬ (t.vars.length : Int) > 0 := by omega
          have hD : D2 = true := by rw [HD2.out, hv]; rfl
          subst hD
          clear hv
          go_wp2_with fail
          go_meet
          exact ⟨rfl, rfl⟩
        · have hv2 : (t.vars.length : Int) > 0 := by omega
          have HDk : Hid (D2 = (t.kind == 5 || t.kind == 11)) := hide (by rw [HD2.out]; simp [hv])
          clear hv
          cases h5 : (t.kind != 5)
          · have hD : D2 = true := by rw [HDk.out]; simp at h5; simp [h5]
            subst hD
            go_wp2_with fail
            go_meet
            exact ⟨rfl, rfl⟩
          · cases h11 : (t.kind != 11)
            · have hD : D2 = true := by rw [HDk.out]; simp at h11; simp [h11]
              subst hD
              go_wp2_with fail
              go_meet
              exact ⟨rfl, rfl⟩
            · have hD : D2 = false := by rw [HDk.out]; simp at h5 h11; simp [h5, h11]
              subst hD
              go_wp2_with fail
              go_meet
              exact ⟨rfl, rfl⟩
      case rest =>
        obtain ⟨rfl, rfl⟩ := hcut
        rw [← HD2.out] at HF
        clear HD2
        cases D2
        · have HR := HF.out
          simp only [Bool.and_false, Bool.false_and] at HR
          subst HR
          go_wp2
          go_ret
          exact ⟨rfl, X0.out.trans X3.out⟩
        go_upto_region 6 with fail
        obtain ⟨D3, hD3⟩ : ∃ D3, D3 = ((decide (ty < 0) || decide ((t.types.length : Int) = ty)) && (decide (kd < 0) || decide ((t.kids.length : Int) = kd))) := ⟨_, rfl⟩
        have HD3 := hide hD3
        clear hD3
        go_cut [77] (fun s77 wx => s77 = .bool (!D3) ∧ W3 = wx)
        case first =>
          by_cases ht : ty ≥ 0
          · cases h1 : ((t.types.length : Int) != ty)
            · by_cases hk : kd ≥ 0
              · cases h2 : ((t.kids.length : Int) != kd)
                · have hD : D3 = true := by rw [HD3.out]; simp at h1 h2; simp [h1, h2]
                  subst hD
                  go_wp2_with fail
                  go_meet
                  exact ⟨rfl, rfl⟩
                · have hD : D3 = false := by rw [HD3.out]; simp at h2; simp [h2]; omega
                  subst hD
                  go_wp2_with fail
                  go_meet
                  exact ⟨rfl, rfl⟩
              · have hD : D3 = true := by rw [HD3.out]; simp at h1; simp [h1]; omega
                subst hD
                go_wp2_with fail
                go_meet
                exact ⟨rfl, rfl⟩
            · have hD : D3 = false := by rw [HD3.out]; simp at h1; simp [h1]; omega
              subst hD
              go_wp2_with fail
              go_meet
              exact ⟨rfl, rfl⟩
          · by_cases hk : kd ≥ 0
            · cases h2 : ((t.kids.length : Int) != kd)
              · have hD : D3 = true := by rw [HD3.out]; simp at h2; simp [h2]; omega
                subst hD
                go_wp2_with fail
                go_meet
                exact ⟨rfl, rfl⟩
              · have hD : D3 = false := by rw [HD3.out]; simp at h2; simp [h2]; omega
                subst hD
                go_wp2_with fail
                go_meet
                exact ⟨rfl, rfl⟩
            · have hD : D3 = true := by rw [HD3.out]; simp; omega
              subst hD
              go_wp2_with fail
              go_meet
              exact ⟨rfl, rfl⟩
        case rest =>
          obtain ⟨rfl, rfl⟩ := hcut
          have HR : Hid (R = (D3 && RL)) := hide (by rw [HF.out, HD3.out]; simp only [Bool.true_and, Bool.and_assoc])
          clear HF HD3
          cases D3
          · have HR := HR.out
            simp only [Bool.false_and] at HR
            subst HR
            go_wp2
            go_ret
            exact ⟨rfl, X0.out.trans X3.out⟩
          have HR := HR.out
          simp only [Bool.true_and] at HR
          subst HR
          go_wp2_with fail
          refine (HT.out _ (X0.out.trans X3.out)).out.mono ?_
          rintro e w5 ⟨rfl, hx⟩
          go_wp2
          go_ret
          exact ⟨rfl, X0.out.trans (X3.out.trans hx)⟩

end Go.Proofs.YtjacjpeeinnkcaaGreat

/- Contract: whether a term is a pattern. -/
namespace Go.Proofs.YtjacjpeeinnkcaaGreat
open Go.RowKit Go.Shelf

/-- Not too many types and kids, no type too great, all the way down. -/
inductive FewM : Tm → Prop
  | mk {t : Tm} (tys : t.types.length ≤ 10000) (ty : ∀ x ∈ t.types, x.size ≤ 90000) (kl : t.kids.length ≤ 1000000) (vl : t.vars.length ≤ 10000) (kids : ∀ k ∈ t.kids, FewM k) : FewM t
theorem FewM.tys4 {t : Tm} (h : FewM t) : t.types.length ≤ 10000 := by cases h; assumption
theorem FewM.tys {t : Tm} (h : FewM t) : t.types.length ≤ 1000000 := Nat.le_trans h.tys4 (by decide)
theorem FewM.ty {t : Tm} (h : FewM t) : ∀ x ∈ t.types, x.size ≤ 90000 := by cases h; assumption
theorem FewM.kl {t : Tm} (h : FewM t) : t.kids.length ≤ 1000000 := by cases h; assumption
theorem FewM.vl {t : Tm} (h : FewM t) : t.vars.length ≤ 10000 := by cases h; assumption
theorem FewM.kids {t : Tm} (h : FewM t) : ∀ k ∈ t.kids, FewM k := by cases h; assumption

/-- What a function tells of a term: a contract. -/
def AsksM (f : FuncId) (p : Tm → Bool) (t : Tm) : Prop := ∀ w, TmIn w t → FewM t → Calls Tryz.prog f #[tmV t] w fun e w' => e = .returned (.bool (p t)) ∧ Ext w w'

theorem mispat1_opens : Opens 202 := enters_of Tryz.func202 (by kernel_rfl) rfl
theorem m_ispat1 (t : Tm) (h : AsksM 123 (fun t => t.tb.pat) t) : AsksM 202 (fun t => !t.tb.pat) t := by
  intro w ht hf
  have X0 : Hid (Ext w (w.alloc (.cells #[.int .i64 t.kind, .int .i64 t.n, encStr t.name, .slice t.V t.vars.length t.vc, .slice t.T t.types.length t.tc, .slice t.A t.kids.length t.cap] 31))) := hide ((Ext.refl w).alloc _)
  have HL := hide (h _ (ht.ext X0.out) hf)
  clear h ht hf
  dsimp only at *
  generalize t.tb.pat = R at *
  unfold tmV at *
  go_enter Tryz.func202, Tryz.ntmps202
  go_wp2_with fail
  refine HL.out.mono ?_
  rintro e w2 ⟨rfl, hx⟩
  go_wp2
  go_ret
  exact ⟨rfl, X0.out.trans hx⟩

set_option maxRecDepth 10000 in
set_option maxHeartbeats 4000000 in
theorem m_ispat (t : Tm) : AsksM 123 (fun t => t.tb.pat) t := by
  induction t using Tm.ind with
  | h t ih =>
  intro w ht hf
  have X0 : Hid (Ext w (w.alloc (.cells #[.int .i64 t.kind, .int .i64 t.n, encStr t.name, .slice t.V t.vars.length t.vc, .slice t.T t.types.length t.tc, .slice t.A t.kids.length t.cap] 31))) := hide ((Ext.refl w).alloc _)
  have HF := hide (fun w' (e : Ext w w') => hide (m_fits t w' (ht.ext e) hf.ty hf.tys))
  have HA := hide (fun w' (e : Ext w w') => hide (has_fm 202 #[] mispat1_opens (fun k => !k.tb.pat) t.A t.cap t.kids w' (ht.all.ext e) hf.kl (fun w'' e2 x hx => m_ispat1 x (ih x hx) w'' ((ht.all.kids x hx).ext (e.trans e2)) (hf.kids x hx))))
  have B1 : Hid (TmBox (w.alloc (.cells #[.int .i64 t.kind, .int .i64 t.n, encStr t.name, .slice t.V t.vars.length t.vc, .slice t.T t.types.length t.tc, .slice t.A t.kids.length t.cap] 31)) w.heap.size t) := hide (TmBox.new w t)
  have HR : Hid (t.tb.pat = (decide (21 ≤ t.kind) && fitsM t && (t.kids.all fun k => k.tb.pat))) := hide (by rw [tb_eq]; show (_ && _ && (t.kids.map Tm.tb).all (·.pat)) = _; rw [List.all_map]; rfl)
  have hany : (t.kids.any fun k => !k.tb.pat) = !(t.kids.all fun k => k.tb.pat) := by rw [← List.not_all_eq_any_not]
  rw [hany] at HA
  have hkl := ht.hd.le
  have hkm := ht.hd.max
  clear ih ht hf hany
  dsimp only
  generalize t.tb.pat = R at *
  generalize fitsM t = RF at *
  generalize (t.kids.all fun k => k.tb.pat) = RK at *
  obtain ⟨c0, -, -, -, -, -⟩ := B1.out.cells
  unfold tmV at *
  by_cases hk : t.kind ≥ 21
  · have hR := HR.out
    have hk' : 21 ≤ t.kind := hk
    rw [decide_eq_true hk', Bool.true_and] at hR
    clear hk'
    subst hR
    go_enter Tryz.func123, Tryz.ntmps123
    go_wp2_with fail
    refine (HF.out _ X0.out).out.mono ?_
    rintro e w2 ⟨rfl, hx⟩
    have X2 := hide hx
    obtain ⟨-, -, -, -, -, d5⟩ := (B1.out.ext X2.out).cells
    clear hx
    cases RF
    · go_wp2
      go_ret
      exact ⟨rfl, X0.out.trans X2.out⟩
    · go_wp2_with fail
      refine (HA.out _ (X0.out.trans X2.out)).out.mono ?_
      rintro e w3 ⟨rfl, hx⟩
      go_wp2
      go_ret
      exact ⟨by simp, X0.out.trans (X2.out.trans hx)⟩
  · have hR := HR.out
    rw [decide_eq_false (show ¬ 21 ≤ t.kind from hk)] at hR
    simp only [Bool.false_and] at hR
    subst hR
    go_enter Tryz.func123, Tryz.ntmps123
    go_wp2
    go_ret
    exact ⟨rfl, X0.out⟩

end Go.Proofs.YtjacjpeeinnkcaaGreat

/- Contracts: whether an alternative, a binding may be. -/
namespace Go.Proofs.YtjacjpeeinnkcaaGreat
open Go.RowKit Go.Shelf

theorem tb_at (t : Tm) {i : Nat} (hi : i < t.kids.length) : TB.at_ (t.kids.map Tm.tb) i = (t.kids[i]'hi).tb := by
  unfold TB.at_
  rw [List.getD_eq_getElem?_getD, List.getElem?_map, List.getElem?_eq_getElem hi]
  rfl
theorem misterm3_opens : Opens 125 := enters_of Tryz.func125 (by kernel_rfl) rfl
theorem misterm2_opens : Opens 124 := enters_of Tryz.func124 (by kernel_rfl) rfl
theorem misterm1_opens : Opens 122 := enters_of Tryz.func122 (by kernel_rfl) rfl
theorem m_isterm3 (t : Tm) (h : AsksM 58 (fun t => t.tb.term) t) : AsksM 125 (fun t => !t.tb.term) t := by
  intro w ht hf
  have X0 : Hid (Ext w (w.alloc (.cells #[.int .i64 t.kind, .int .i64 t.n, encStr t.name, .slice t.V t.vars.length t.vc, .slice t.T t.types.length t.tc, .slice t.A t.kids.length t.cap] 31))) := hide ((Ext.refl w).alloc _)
  have HL := hide (h _ (ht.ext X0.out) hf)
  clear h ht hf
  dsimp only at *
  generalize t.tb.term = R at *
  unfold tmV at *
  go_enter Tryz.func125, Tryz.ntmps125
  go_wp2_with fail
  refine HL.out.mono ?_
  rintro e w2 ⟨rfl, hx⟩
  go_wp2
  go_ret
  exact ⟨rfl, X0.out.trans hx⟩

/-- A part of a term, where it lies. -/
theorem first_kid {w : World} {t : Tm} (h : TmsIn w t.A t.kids) (hi : 0 < t.kids.length) :
    ∃ b o, t.A = some ⟨b, o, none⟩ ∧ b < w.heap.size ∧ w.cell? ⟨b, o, none⟩ = some (.int .i64 (t.kids[0]'hi).kind) ∧ w.cell? ⟨b, o + 1, none⟩ = some (.int .i64 (t.kids[0]'hi).n) ∧
      w.cell? ⟨b, o + 2, none⟩ = some (.string ⟨(t.kids[0]'hi).name.toArray⟩) ∧ w.cell? ⟨b, o + 3, none⟩ = some (.slice (t.kids[0]'hi).V (t.kids[0]'hi).vars.length (t.kids[0]'hi).vc) ∧
      w.cell? ⟨b, o + 4, none⟩ = some (.slice (t.kids[0]'hi).T (t.kids[0]'hi).types.length (t.kids[0]'hi).tc) ∧ w.cell? ⟨b, o + 5, none⟩ = some (.slice (t.kids[0]'hi).A (t.kids[0]'hi).kids.length (t.kids[0]'hi).cap) := by
  have := h.at_ hi
  simpa using this

set_option maxRecDepth 10000 in
set_option maxHeartbeats 4000000 in
theorem m_isterm2 (t : Tm) (h : ∀ k ∈ t.kids, AsksM 58 (fun t => t.tb.term) k) : AsksM 124 (fun t => !t.tb.bind) t := by
  intro w ht hf
  have X0 : Hid (Ext w (w.alloc (.cells #[.int .i64 t.kind, .int .i64 t.n, encStr t.name, .slice t.V t.vars.length t.vc, .slice t.T t.types.length t.tc, .slice t.A t.kids.length t.cap] 31))) := hide ((Ext.refl w).alloc _)
  have HF := hide (fun w' (e : Ext w w') => hide (m_fits t w' (ht.ext e) hf.ty hf.tys))
  have B1 : Hid (TmBox (w.alloc (.cells #[.int .i64 t.kind, .int .i64 t.n, encStr t.name, .slice t.V t.vars.length t.vc, .slice t.T t.types.length t.tc, .slice t.A t.kids.length t.cap] 31)) w.heap.size t) := hide (TmBox.new w t)
  have HR : Hid (t.tb.bind = ((t.kind == 11) && fitsM t && (TB.at_ (t.kids.map Tm.tb) 0).term)) := hide (by rw [tb_eq]; rfl)
  have hkl := ht.hd.le
  have hkm := ht.hd.max
  have HK := hide ht.all
  have Hh := hide h
  have Hfk := hide hf.kids
  have Hl : Hid (t.kind = 11 → fitsM t = true → t.kids.length = 1) := hide (fun h1 h2 => by
    have := fits_kids (d := ⟨true, false, false, 1, 1⟩) (by rw [h1]; rfl) h2 (by decide)
    simp only at this
    omega)
  clear h ht hf
  dsimp only
  generalize t.tb.bind = R at *
  obtain ⟨c0, -, -, -, -, -⟩ := B1.out.cells
  unfold tmV at *
  cases hk : (t.kind != 11)
  · have hk11 : t.kind = 11 := by simpa using hk
    have HR2 : Hid (R = (fitsM t && (TB.at_ (t.kids.map Tm.tb) 0).term)) := hide (by rw [HR.out, hk11]; rfl)
    cases hF : fitsM t
    · rw [hF] at HF
      have hR := HR2.out
      rw [hF, Bool.false_and] at hR
      subst hR
      clear hF hk11 HR HR2
      go_enter Tryz.func124, Tryz.ntmps124
      go_wp2_with fail
      refine (HF.out _ X0.out).out.mono ?_
      rintro e w2 ⟨rfl, hx⟩
      go_wp2
      go_ret
      exact ⟨rfl, X0.out.trans hx⟩
    · have hl := Hl.out hk11 hF
      have hl0 : 0 < t.kids.length := by omega
      rw [hF] at HF
      have hR := HR2.out
      rw [hF, Bool.true_and, tb_at t hl0] at hR
      have HRr := hide hR
      have HC := hide (fun w' (e : Ext w w') => hide (Hh.out _ (List.getElem_mem hl0) w' ((HK.out.kids _ (List.getElem_mem hl0)).ext e) (Hfk.out _ (List.getElem_mem hl0))))
      clear hF hk11 HR HR2 hl hR
      go_enter Tryz.func124, Tryz.ntmps124
      go_wp2_with fail
      refine (HF.out _ X0.out).out.mono ?_
      rintro e w2 ⟨rfl, hx⟩
      have X2 := hide hx
      obtain ⟨-, -, -, -, -, d5⟩ := (B1.out.ext X2.out).cells
      obtain ⟨b, o, hA, hb, q0, q1, q2, q3, q4, q5⟩ := first_kid (HK.out.ext (X0.out.trans X2.out)) hl0
      rw [hA] at d5
      clear hx hA
      generalize t.kids[0]'hl0 = x at *
      try dsimp only at HC
      generalize x.tb.term = RT at *
      have HRr := HRr.out
      subst HRr
      unfold tmV at HC
      go_wp2_with fail
      refine (HC.out _ (X0.out.trans X2.out)).out.mono ?_
      rintro e w3 ⟨rfl, hx⟩
      go_wp2
      go_ret
      exact ⟨by simp, X0.out.trans (X2.out.trans hx)⟩
  · have hR := HR.out
    have hk11 : (t.kind == 11) = false := by simpa using hk
    rw [hk11] at hR
    simp only [Bool.false_and] at hR
    subst hR
    clear hk11
    go_enter Tryz.func124, Tryz.ntmps124
    go_wp2
    go_ret
    exact ⟨rfl, X0.out⟩

set_option maxRecDepth 10000 in
set_option maxHeartbeats 4000000 in
theorem m_isterm1 (t : Tm) (h : ∀ k ∈ t.kids, AsksM 58 (fun t => t.tb.term) k) : AsksM 122 (fun t => !t.tb.alt) t := by
  intro w ht hf
  have X0 : Hid (Ext w (w.alloc (.cells #[.int .i64 t.kind, .int .i64 t.n, encStr t.name, .slice t.V t.vars.length t.vc, .slice t.T t.types.length t.tc, .slice t.A t.kids.length t.cap] 31))) := hide ((Ext.refl w).alloc _)
  have HF := hide (fun w' (e : Ext w w') => hide (m_fits t w' (ht.ext e) hf.ty hf.tys))
  have B1 : Hid (TmBox (w.alloc (.cells #[.int .i64 t.kind, .int .i64 t.n, encStr t.name, .slice t.V t.vars.length t.vc, .slice t.T t.types.length t.tc, .slice t.A t.kids.length t.cap] 31)) w.heap.size t) := hide (TmBox.new w t)
  have HR : Hid (t.tb.alt = ((t.kind == 9) && fitsM t && (TB.at_ (t.kids.map Tm.tb) 0).pat && (TB.at_ (t.kids.map Tm.tb) 1).term)) := hide (by rw [tb_eq]; rfl)
  have hkl := ht.hd.le
  have hkm := ht.hd.max
  have HK := hide ht.all
  have Hh := hide h
  have Hfk := hide hf.kids
  have Hl : Hid (t.kind = 9 → fitsM t = true → t.kids.length = 2) := hide (fun h1 h2 => by
    have := fits_kids (d := ⟨false, false, false, 0, 2⟩) (by rw [h1]; rfl) h2 (by decide)
    simp only at this
    omega)
  clear h ht hf
  dsimp only
  generalize t.tb.alt = R at *
  obtain ⟨c0, -, -, -, -, -⟩ := B1.out.cells
  unfold tmV at *
  cases hk : (t.kind != 9)
  · have hk11 : t.kind = 9 := by simpa using hk
    have HR2 : Hid (R = (fitsM t && (TB.at_ (t.kids.map Tm.tb) 0).pat && (TB.at_ (t.kids.map Tm.tb) 1).term)) := hide (by rw [HR.out, hk11]; rfl)
    cases hF : fitsM t
    · rw [hF] at HF
      have hR := HR2.out
      rw [hF, Bool.false_and, Bool.false_and] at hR
      subst hR
      clear hF hk11 HR HR2
      go_enter Tryz.func122, Tryz.ntmps122
      go_wp2_with fail
      refine (HF.out _ X0.out).out.mono ?_
      rintro e w2 ⟨rfl, hx⟩
      go_wp2
      go_ret
      exact ⟨rfl, X0.out.trans hx⟩
    · have hl := Hl.out hk11 hF
      have hl0 : 0 < t.kids.length := by omega
      have hl1 : 1 < t.kids.length := by omega
      rw [hF] at HF
      have hR := HR2.out
      rw [hF, Bool.true_and, tb_at t hl0, tb_at t hl1] at hR
      have HC0 := hide (fun w' (e : Ext w w') => hide (m_ispat _ w' ((HK.out.kids _ (List.getElem_mem hl0)).ext e) (Hfk.out _ (List.getElem_mem hl0))))
      have HC1 := hide (fun w' (e : Ext w w') => hide (Hh.out _ (List.getElem_mem hl1) w' ((HK.out.kids _ (List.getElem_mem hl1)).ext e) (Hfk.out _ (List.getElem_mem hl1))))
      have HRr := hide hR
      clear hF hk11 HR HR2 hl hR
      go_enter Tryz.func122, Tryz.ntmps122
      go_wp2_with fail
      refine (HF.out _ X0.out).out.mono ?_
      rintro e w2 ⟨rfl, hx⟩
      have X2 := hide hx
      obtain ⟨-, -, -, -, -, d5⟩ := (B1.out.ext X2.out).cells
      obtain ⟨b, o, hA, hb, q0, q1, q2, q3, q4, q5⟩ := first_kid (HK.out.ext (X0.out.trans X2.out)) hl0
      have HA2 := hide (fun w' (e : Ext w w') => (HK.out.ext e).at_ hl1)
      have HA := hide hA
      rw [hA] at d5
      clear hx hA
      generalize t.kids[0]'hl0 = x at *
      generalize t.kids[1]'hl1 = y at *
      try dsimp only at HC0 HC1
      generalize x.tb.pat = RP at *
      generalize y.tb.term = RT at *
      have HRr := HRr.out
      subst HRr
      unfold tmV at HC0 HC1
      go_wp2_with fail
      refine (HC0.out _ (X0.out.trans X2.out)).out.mono ?_
      rintro e w3 ⟨rfl, hx⟩
      have X3 := hide (X2.out.trans hx)
      clear hx q0 q1 q2 q3 q4 q5 d5
      cases RP
      · go_wp2
        go_ret
        exact ⟨rfl, X0.out.trans X3.out⟩
      · obtain ⟨-, -, -, -, -, d5⟩ := (B1.out.ext X3.out).cells
        obtain ⟨b', o', hA', hb', q0, q1, q2, q3, q4, q5⟩ := HA2.out _ (X0.out.trans X3.out)
        rw [hA'] at d5
        clear hA'
        go_wp2_with fail
        refine (HC1.out _ (X0.out.trans X3.out)).out.mono ?_
        rintro e w4 ⟨rfl, hx⟩
        go_wp2
        go_ret
        exact ⟨by simp, X0.out.trans (X3.out.trans hx)⟩
  · have hR := HR.out
    have hk11 : (t.kind == 9) = false := by simpa using hk
    rw [hk11] at hR
    simp only [Bool.false_and] at hR
    subst hR
    clear hk11
    go_enter Tryz.func122, Tryz.ntmps122
    go_wp2
    go_ret
    exact ⟨rfl, X0.out⟩

end Go.Proofs.YtjacjpeeinnkcaaGreat

/- Contracts: what is no term; whether a term of any kind but two is one. -/
namespace Go.Proofs.YtjacjpeeinnkcaaGreat
open Go.RowKit Go.Shelf

/-- The function tells of a term whether it is one. -/
def IsT (t : Tm) : Prop := AsksM 58 (fun t => t.tb.term) t
theorem any_not {α : Type} (l : List α) (p : α → Bool) : (l.any fun k => !p k) = !(l.all fun k => p k) := by rw [← List.not_all_eq_any_not]
/-- No term at once. -/
def noTerm (t : Tm) : Bool := decide (21 ≤ t.kind) || (t.kind == 9) || (t.kind == 11)
theorem noTerm_false {t : Tm} (h : noTerm t = true) : t.tb.term = false := by
  rw [tb_eq]
  show TB.termOf t.kind (fitsM t) (t.kids.map Tm.tb) = false
  unfold noTerm at h
  simp only [Bool.or_eq_true] at h
  unfold TB.termOf
  rcases h with (h | h) | h <;> rw [h] <;> simp
theorem unfit_false {t : Tm} (h : fitsM t = false) : t.tb.term = false := by
  rw [tb_eq]
  show TB.termOf t.kind (fitsM t) (t.kids.map Tm.tb) = false
  unfold TB.termOf
  rw [h]
  simp
theorem fit_eq {t : Tm} (h : fitsM t = true) (hn : noTerm t = false) : t.tb.term = (if t.kind = 8 then decide (2 ≤ t.kids.length) && (TB.at_ (t.kids.map Tm.tb) 0).term && (t.kids.drop 1).all (fun k => k.tb.alt) else if t.kind = 10 then decide (1 ≤ t.kids.length) && (TB.at_ (t.kids.map Tm.tb) (t.kids.length - 1)).term && (t.kids.take (t.kids.length - 1)).all (fun k => k.tb.bind) else t.kids.all (fun k => k.tb.term)) := by
  rw [tb_eq]
  show TB.termOf t.kind (fitsM t) (t.kids.map Tm.tb) = _
  unfold noTerm at hn
  simp only [Bool.or_eq_false_iff] at hn
  unfold TB.termOf
  rw [h, hn.1.1, hn.1.2, hn.2]
  simp only [Bool.not_false, Bool.and_self, Bool.true_and, List.length_map, ← List.map_drop, ← List.map_take, List.all_map, Function.comp_def]
theorem noTerm_parts {t : Tm} (h : noTerm t = false) : ¬ t.kind ≥ 21 ∧ (t.kind == 9) = false ∧ (t.kind == 11) = false := by
  unfold noTerm at h
  simp only [Bool.or_eq_false_iff, decide_eq_false_iff_not] at h
  exact ⟨h.1.1, h.1.2, h.2⟩

set_option maxRecDepth 10000 in
set_option maxHeartbeats 4000000 in
theorem m_isterm_no (t : Tm) (hn : noTerm t = true) : IsT t := by
  intro w ht hf
  have X0 : Hid (Ext w (w.alloc (.cells #[.int .i64 t.kind, .int .i64 t.n, encStr t.name, .slice t.V t.vars.length t.vc, .slice t.T t.types.length t.tc, .slice t.A t.kids.length t.cap] 31))) := hide ((Ext.refl w).alloc _)
  have B1 : Hid (TmBox (w.alloc (.cells #[.int .i64 t.kind, .int .i64 t.n, encStr t.name, .slice t.V t.vars.length t.vc, .slice t.T t.types.length t.tc, .slice t.A t.kids.length t.cap] 31)) w.heap.size t) := hide (TmBox.new w t)
  dsimp only
  rw [noTerm_false hn]
  have Hn := hide hn
  clear ht hf hn
  obtain ⟨c0, -, -, -, -, -⟩ := B1.out.cells
  unfold tmV
  by_cases h21 : t.kind ≥ 21
  · clear Hn
    go_enter Tryz.func58, Tryz.ntmps58
    go_wp2
    go_ret
    exact ⟨rfl, X0.out⟩
  cases h9 : (t.kind == 9)
  rotate_left
  · clear Hn
    go_enter Tryz.func58, Tryz.ntmps58
    go_wp2
    go_ret
    exact ⟨rfl, X0.out⟩
  cases h11 : (t.kind == 11)
  rotate_left
  · clear Hn
    go_enter Tryz.func58, Tryz.ntmps58
    go_wp2
    go_ret
    exact ⟨rfl, X0.out⟩
  · exact absurd Hn.out (by unfold noTerm; rw [h9, h11, decide_eq_false (show ¬ 21 ≤ t.kind from h21)]; decide)

set_option maxRecDepth 10000 in
set_option maxHeartbeats 4000000 in
theorem m_isterm_unfit (t : Tm) (hn : noTerm t = false) (hF : fitsM t = false) : IsT t := by
  intro w ht hf
  have X0 : Hid (Ext w (w.alloc (.cells #[.int .i64 t.kind, .int .i64 t.n, encStr t.name, .slice t.V t.vars.length t.vc, .slice t.T t.types.length t.tc, .slice t.A t.kids.length t.cap] 31))) := hide ((Ext.refl w).alloc _)
  have HF := hide (fun w' (e : Ext w w') => hide (m_fits t w' (ht.ext e) hf.ty hf.tys))
  have B1 : Hid (TmBox (w.alloc (.cells #[.int .i64 t.kind, .int .i64 t.n, encStr t.name, .slice t.V t.vars.length t.vc, .slice t.T t.types.length t.tc, .slice t.A t.kids.length t.cap] 31)) w.heap.size t) := hide (TmBox.new w t)
  obtain ⟨h21, h9, h11⟩ := noTerm_parts hn
  dsimp only
  rw [unfit_false hF]
  rw [hF] at HF
  clear ht hf hn hF
  obtain ⟨c0, -, -, -, -, -⟩ := B1.out.cells
  unfold tmV at *
  go_enter Tryz.func58, Tryz.ntmps58
  go_wp2_with fail
  refine (HF.out _ X0.out).out.mono ?_
  rintro e w2 ⟨rfl, hx⟩
  go_wp2
  go_ret
  exact ⟨rfl, X0.out.trans hx⟩

set_option maxRecDepth 10000 in
set_option maxHeartbeats 4000000 in
theorem m_isterm_else (t : Tm) (hn : noTerm t = false) (hF : fitsM t = true) (h8 : (t.kind == 8) = false) (h10 : (t.kind == 10) = false) (HI : ∀ k ∈ t.kids, IsT k) : IsT t := by
  intro w ht hf
  have X0 : Hid (Ext w (w.alloc (.cells #[.int .i64 t.kind, .int .i64 t.n, encStr t.name, .slice t.V t.vars.length t.vc, .slice t.T t.types.length t.tc, .slice t.A t.kids.length t.cap] 31))) := hide ((Ext.refl w).alloc _)
  have HF := hide (fun w' (e : Ext w w') => hide (m_fits t w' (ht.ext e) hf.ty hf.tys))
  have B1 : Hid (TmBox (w.alloc (.cells #[.int .i64 t.kind, .int .i64 t.n, encStr t.name, .slice t.V t.vars.length t.vc, .slice t.T t.types.length t.tc, .slice t.A t.kids.length t.cap] 31)) w.heap.size t) := hide (TmBox.new w t)
  obtain ⟨h21, h9, h11⟩ := noTerm_parts hn
  have HK := hide ht.all
  have Hf := hide hf
  have hR := fit_eq hF hn
  rw [if_neg (by simpa using h8), if_neg (by simpa using h10)] at hR
  have hkl := ht.hd.le
  have hkm := ht.hd.max
  have HA := hide (fun w' (e : Ext w w') => hide (has_fm 125 #[] misterm3_opens (fun k => !k.tb.term) t.A t.cap t.kids w' (HK.out.ext e) Hf.out.kl (fun w'' e2 x hx => m_isterm3 x (HI x hx) w'' ((HK.out.kids x hx).ext (e.trans e2)) (Hf.out.kids x hx))))
  dsimp only
  rw [any_not, ← hR] at HA
  rw [hF] at HF
  clear ht hf hn hF hR HI HK Hf
  generalize t.tb.term = R at *
  obtain ⟨c0, -, -, -, -, -⟩ := B1.out.cells
  unfold tmV at *
  go_enter Tryz.func58, Tryz.ntmps58
  go_wp2_with fail
  refine (HF.out _ X0.out).out.mono ?_
  rintro e w2 ⟨rfl, hx⟩
  have X2 := hide hx
  obtain ⟨d0, -, -, -, -, d5⟩ := (B1.out.ext X2.out).cells
  clear hx
  go_wp2_with fail
  refine (HA.out _ (X0.out.trans X2.out)).out.mono ?_
  rintro e w3 ⟨rfl, hx⟩
  go_wp2
  go_ret
  exact ⟨by simp, X0.out.trans (X2.out.trans hx)⟩

end Go.Proofs.YtjacjpeeinnkcaaGreat

/- Contract: whether a TermCase is a term. -/
namespace Go.Proofs.YtjacjpeeinnkcaaGreat
open Go.RowKit Go.Shelf

set_option maxRecDepth 10000 in
set_option maxHeartbeats 4000000 in
theorem m_isterm_case0 (t : Tm) (hn : noTerm t = false) (hF : fitsM t = true) (h8 : (t.kind == 8) = true) (hk : ¬ 2 ≤ t.kids.length) : IsT t := by
  intro w ht hf
  have X0 : Hid (Ext w (w.alloc (.cells #[.int .i64 t.kind, .int .i64 t.n, encStr t.name, .slice t.V t.vars.length t.vc, .slice t.T t.types.length t.tc, .slice t.A t.kids.length t.cap] 31))) := hide ((Ext.refl w).alloc _)
  have HF := hide (fun w' (e : Ext w w') => hide (m_fits t w' (ht.ext e) hf.ty hf.tys))
  have B1 : Hid (TmBox (w.alloc (.cells #[.int .i64 t.kind, .int .i64 t.n, encStr t.name, .slice t.V t.vars.length t.vc, .slice t.T t.types.length t.tc, .slice t.A t.kids.length t.cap] 31)) w.heap.size t) := hide (TmBox.new w t)
  obtain ⟨h21, h9, h11⟩ := noTerm_parts hn
  have hR := fit_eq hF hn
  rw [if_pos (by simpa using h8), decide_eq_false hk, Bool.false_and, Bool.false_and] at hR
  have hkl := ht.hd.le
  have hkm := ht.hd.max
  dsimp only
  rw [hR]
  rw [hF] at HF
  have hn' : ¬ (t.kids.length : Int) ≥ 2 := by omega
  clear ht hf hn hF hR hk
  obtain ⟨c0, -, -, -, -, -⟩ := B1.out.cells
  unfold tmV at *
  go_enter Tryz.func58, Tryz.ntmps58
  go_wp2_with fail
  refine (HF.out _ X0.out).out.mono ?_
  rintro e w2 ⟨rfl, hx⟩
  have X2 := hide hx
  obtain ⟨d0, -, -, -, -, d5⟩ := (B1.out.ext X2.out).cells
  clear hx
  go_wp2
  go_ret
  exact ⟨rfl, X0.out.trans X2.out⟩

set_option maxRecDepth 10000 in
set_option maxHeartbeats 8000000 in
theorem m_isterm_case (t : Tm) (hn : noTerm t = false) (hF : fitsM t = true) (h8 : (t.kind == 8) = true) (hk : 2 ≤ t.kids.length) (HI : ∀ k ∈ t.kids, IsT k) (HI2 : ∀ k ∈ t.kids, ∀ x ∈ k.kids, IsT x) : IsT t := by
  intro w ht hf
  have X0 : Hid (Ext w (w.alloc (.cells #[.int .i64 t.kind, .int .i64 t.n, encStr t.name, .slice t.V t.vars.length t.vc, .slice t.T t.types.length t.tc, .slice t.A t.kids.length t.cap] 31))) := hide ((Ext.refl w).alloc _)
  have HF := hide (fun w' (e : Ext w w') => hide (m_fits t w' (ht.ext e) hf.ty hf.tys))
  have B1 : Hid (TmBox (w.alloc (.cells #[.int .i64 t.kind, .int .i64 t.n, encStr t.name, .slice t.V t.vars.length t.vc, .slice t.T t.types.length t.tc, .slice t.A t.kids.length t.cap] 31)) w.heap.size t) := hide (TmBox.new w t)
  obtain ⟨h21, h9, h11⟩ := noTerm_parts hn
  have HK := hide ht.all
  have Hf := hide hf
  have hl0 : 0 < t.kids.length := by omega
  have hR := fit_eq hF hn
  rw [if_pos (by simpa using h8), decide_eq_true hk, Bool.true_and, tb_at t hl0] at hR
  have hkl := ht.hd.le
  have hkm := ht.hd.max
  have hn' : (t.kids.length : Int) ≥ 2 := by omega
  have HC0 := hide (fun w' (e : Ext w w') => hide (HI _ (List.getElem_mem hl0) w' ((HK.out.kids _ (List.getElem_mem hl0)).ext e) (Hf.out.kids _ (List.getElem_mem hl0))))
  have HA := hide (fun w' (e : Ext w w') => hide (has_fm 122 #[] misterm1_opens (fun k => !k.tb.alt) _ (t.cap - 1) (t.kids.drop 1) w' ((HK.out.cut (k := 1) (cap := t.cap) (by omega) hkl).ext e) (by rw [List.length_drop]; have := Hf.out.kl; omega) (fun w'' e2 x hx => m_isterm1 x (HI2 x (List.mem_of_mem_drop hx)) w'' ((HK.out.kids x (List.mem_of_mem_drop hx)).ext (e.trans e2)) (Hf.out.kids x (List.mem_of_mem_drop hx)))))
  rw [any_not, List.length_drop, if_neg (show ¬ t.cap = 1 by omega)] at HA
  obtain ⟨b, o, hA, hb, q0, q1, q2, q3, q4, q5⟩ := first_kid (HK.out.ext X0.out) hl0
  rw [hA] at HA
  have HRr := hide hR
  have HQ := hide (fun w' (e : Ext w w') => first_kid (HK.out.ext e) hl0)
  have HAd := hide hA
  dsimp only
  rw [hF] at HF
  clear hR hn q0 q1 q2 q3 q4 q5 hb ht hf hF HI HI2 hk HK Hf hA
  generalize t.kids[0]'hl0 = x at *
  generalize ((t.kids.drop 1).all fun k => k.tb.alt) = RA at *
  try dsimp only at HC0
  generalize x.tb.term = RT at *
  generalize t.tb.term = R at *
  have HRr := HRr.out
  subst HRr
  obtain ⟨c0, -, -, -, -, -⟩ := B1.out.cells
  unfold tmV at *
  go_enter Tryz.func58, Tryz.ntmps58
  go_wp2_with fail
  refine (HF.out _ X0.out).out.mono ?_
  rintro e w2 ⟨rfl, hx⟩
  have X2 := hide hx
  obtain ⟨d0, -, -, -, -, d5⟩ := (B1.out.ext X2.out).cells
  obtain ⟨b', o', hA', hb, q0, q1, q2, q3, q4, q5⟩ := HQ.out _ (X0.out.trans X2.out)
  have hA := HAd.out
  rw [hA] at hA'
  injection hA' with hA'
  injection hA' with e1 e2
  subst e1 e2
  rw [hA] at d5
  clear hx hA
  go_wp2_with fail
  refine (HC0.out _ (X0.out.trans X2.out)).out.mono ?_
  rintro e w3 ⟨rfl, hx⟩
  have X3 := hide (X2.out.trans hx)
  clear hx q0 q1 q2 q3 q4 q5 d5 d0
  cases RT
  · go_wp2
    go_ret
    exact ⟨rfl, X0.out.trans X3.out⟩
  · obtain ⟨-, -, -, -, -, d5⟩ := (B1.out.ext X3.out).cells
    rw [HAd.out] at d5
    have hc1 : ¬ t.cap = 1 := by omega
    have hs1 : (1 : Int) ≤ (t.kids.length : Int) := by omega
    have hs2 : (t.kids.length : Int) ≤ (t.cap : Int) := by omega
    have hs3 : (1 : Int) ≤ (t.cap : Int) := by omega
    have hs5 : 1 ≤ t.cap := by omega
    have hs6 : (0 : Int) < (t.kids.length : Int) := by omega
    go_wp2_with fail
    refine (HA.out _ (X0.out.trans X3.out)).out.mono ?_
    rintro e w4 ⟨rfl, hx⟩
    go_wp2
    go_ret
    exact ⟨by simp, X0.out.trans (X3.out.trans hx)⟩

end Go.Proofs.YtjacjpeeinnkcaaGreat

/- Contract: whether a TermLet is a term. -/
namespace Go.Proofs.YtjacjpeeinnkcaaGreat
open Go.RowKit Go.Shelf

set_option maxRecDepth 10000 in
set_option maxHeartbeats 4000000 in
theorem m_isterm_let0 (t : Tm) (hn : noTerm t = false) (hF : fitsM t = true) (h8 : (t.kind == 8) = false) (h10 : (t.kind == 10) = true) (hk : ¬ 1 ≤ t.kids.length) : IsT t := by
  intro w ht hf
  have X0 : Hid (Ext w (w.alloc (.cells #[.int .i64 t.kind, .int .i64 t.n, encStr t.name, .slice t.V t.vars.length t.vc, .slice t.T t.types.length t.tc, .slice t.A t.kids.length t.cap] 31))) := hide ((Ext.refl w).alloc _)
  have HF := hide (fun w' (e : Ext w w') => hide (m_fits t w' (ht.ext e) hf.ty hf.tys))
  have B1 : Hid (TmBox (w.alloc (.cells #[.int .i64 t.kind, .int .i64 t.n, encStr t.name, .slice t.V t.vars.length t.vc, .slice t.T t.types.length t.tc, .slice t.A t.kids.length t.cap] 31)) w.heap.size t) := hide (TmBox.new w t)
  obtain ⟨h21, h9, h11⟩ := noTerm_parts hn
  have hR := fit_eq hF hn
  rw [if_neg (by simpa using h8), if_pos (by simpa using h10), decide_eq_false hk, Bool.false_and, Bool.false_and] at hR
  have hkl := ht.hd.le
  have hkm := ht.hd.max
  dsimp only
  rw [hR]
  rw [hF] at HF
  have hn' : ¬ (t.kids.length : Int) ≥ 1 := by omega
  clear ht hf hn hF hR hk
  obtain ⟨c0, -, -, -, -, -⟩ := B1.out.cells
  unfold tmV at *
  go_enter Tryz.func58, Tryz.ntmps58
  go_wp2_with fail
  refine (HF.out _ X0.out).out.mono ?_
  rintro e w2 ⟨rfl, hx⟩
  have X2 := hide hx
  obtain ⟨d0, -, -, -, -, d5⟩ := (B1.out.ext X2.out).cells
  clear hx
  go_wp2
  go_ret
  exact ⟨rfl, X0.out.trans X2.out⟩

set_option maxRecDepth 10000 in
set_option maxHeartbeats 8000000 in
theorem m_isterm_let (t : Tm) (hn : noTerm t = false) (hF : fitsM t = true) (h8 : (t.kind == 8) = false) (h10 : (t.kind == 10) = true) (hk : 1 ≤ t.kids.length) (HI : ∀ k ∈ t.kids, IsT k) (HI2 : ∀ k ∈ t.kids, ∀ x ∈ k.kids, IsT x) : IsT t := by
  intro w ht hf
  have X0 : Hid (Ext w (w.alloc (.cells #[.int .i64 t.kind, .int .i64 t.n, encStr t.name, .slice t.V t.vars.length t.vc, .slice t.T t.types.length t.tc, .slice t.A t.kids.length t.cap] 31))) := hide ((Ext.refl w).alloc _)
  have HF := hide (fun w' (e : Ext w w') => hide (m_fits t w' (ht.ext e) hf.ty hf.tys))
  have B1 : Hid (TmBox (w.alloc (.cells #[.int .i64 t.kind, .int .i64 t.n, encStr t.name, .slice t.V t.vars.length t.vc, .slice t.T t.types.length t.tc, .slice t.A t.kids.length t.cap] 31)) w.heap.size t) := hide (TmBox.new w t)
  obtain ⟨h21, h9, h11⟩ := noTerm_parts hn
  have HK := hide ht.all
  have Hf := hide hf
  have hl0 : t.kids.length - 1 < t.kids.length := by omega
  have hR := fit_eq hF hn
  rw [if_neg (by simpa using h8), if_pos (by simpa using h10), decide_eq_true hk, Bool.true_and, tb_at t hl0] at hR
  have hkl := ht.hd.le
  have hkm := ht.hd.max
  have hn' : (t.kids.length : Int) ≥ 1 := by omega
  have HC0 := hide (fun w' (e : Ext w w') => hide (HI _ (List.getElem_mem hl0) w' ((HK.out.kids _ (List.getElem_mem hl0)).ext e) (Hf.out.kids _ (List.getElem_mem hl0))))
  have HA := hide (fun w' (e : Ext w w') => hide (has_fm 124 #[] misterm2_opens (fun k => !k.tb.bind) t.A t.cap (t.kids.take (t.kids.length - 1)) w' ((HK.out.take (k := t.kids.length - 1) (by omega)).ext e) (by rw [List.length_take]; have := Hf.out.kl; omega) (fun w'' e2 x hx => m_isterm2 x (HI2 x (List.mem_of_mem_take hx)) w'' ((HK.out.kids x (List.mem_of_mem_take hx)).ext (e.trans e2)) (Hf.out.kids x (List.mem_of_mem_take hx)))))
  rw [any_not, List.length_take, Nat.min_eq_left (by omega)] at HA
  have HQ := hide (fun w' (e : Ext w w') => (HK.out.ext e).at_ hl0)
  obtain ⟨b, o, hA, hb, q0, q1, q2, q3, q4, q5⟩ := HQ.out _ X0.out
  have HRr := hide hR
  have HAd := hide hA
  rw [hA] at HA
  dsimp only
  rw [hF] at HF
  clear hR hn q0 q1 q2 q3 q4 q5 hb ht hf hF HI HI2 HK Hf hA
  generalize t.kids[t.kids.length - 1]'hl0 = x at *
  generalize ((t.kids.take (t.kids.length - 1)).all fun k => k.tb.bind) = RA at *
  try dsimp only at HC0
  generalize x.tb.term = RT at *
  generalize t.tb.term = R at *
  have HRr := HRr.out
  subst HRr
  obtain ⟨c0, -, -, -, -, -⟩ := B1.out.cells
  obtain ⟨m, hm⟩ : ∃ m, t.kids.length = m + 1 := ⟨t.kids.length - 1, by omega⟩
  have hm1 : t.kids.length - 1 = m := by omega
  rw [hm1] at HQ HA
  have hmI : (t.kids.length : Int) - 1 = (m : Int) := by omega
  have hmk : m ≤ t.cap := by omega
  clear hm hm1
  unfold tmV at *
  go_enter Tryz.func58, Tryz.ntmps58
  go_wp2_with fail
  refine (HF.out _ X0.out).out.mono ?_
  rintro e w2 ⟨rfl, hx⟩
  have X2 := hide hx
  obtain ⟨d0, -, -, -, -, d5⟩ := (B1.out.ext X2.out).cells
  obtain ⟨b', o', hA', hb, q0, q1, q2, q3, q4, q5⟩ := HQ.out _ (X0.out.trans X2.out)
  have hA := HAd.out
  rw [hA] at hA'
  injection hA' with hA'
  injection hA' with e1 e2
  subst e1 e2
  rw [hA] at d5
  clear hx hA
  go_wp2_with fail
  refine (HC0.out _ (X0.out.trans X2.out)).out.mono ?_
  rintro e w3 ⟨rfl, hx⟩
  have X3 := hide (X2.out.trans hx)
  clear hx q0 q1 q2 q3 q4 q5 d5 d0
  cases RT
  · go_wp2
    go_ret
    exact ⟨rfl, X0.out.trans X3.out⟩
  · obtain ⟨-, -, -, -, -, d5⟩ := (B1.out.ext X3.out).cells
    rw [HAd.out] at d5
    have hs2 : (m : Int) ≤ (t.cap : Int) := by omega
    have hs3 : (0 : Int) ≤ (m : Int) := by omega
    have hs4 : (0 : Int) ≤ (t.cap : Int) := by omega
    go_wp2_with fail
    refine (HA.out _ (X0.out.trans X3.out)).out.mono ?_
    rintro e w4 ⟨rfl, hx⟩
    go_wp2
    go_ret
    exact ⟨by simp, X0.out.trans (X3.out.trans hx)⟩

end Go.Proofs.YtjacjpeeinnkcaaGreat

/- Contract: whether a term is one, however great. -/
namespace Go.Proofs.YtjacjpeeinnkcaaGreat
open Go.RowKit Go.Shelf

theorem m_isterm_n (n : Nat) : ∀ t : Tm, t.size ≤ n → IsT t := by
  induction n with
  | zero => intro t h; have := t.size_pos; omega
  | succ n ih =>
  intro t hsz
  have HI : ∀ k ∈ t.kids, IsT k := fun k hk => ih k (by have := Tm.size_kid hk; omega)
  have HI2 : ∀ k ∈ t.kids, ∀ x ∈ k.kids, IsT x := fun k hk x hx => ih x (by have := Tm.size_kid hk; have := Tm.size_kid hx; omega)
  cases hn : noTerm t
  rotate_left
  · exact m_isterm_no t hn
  cases hF : fitsM t
  · exact m_isterm_unfit t hn hF
  cases h8 : (t.kind == 8)
  · cases h10 : (t.kind == 10)
    · exact m_isterm_else t hn hF h8 h10 HI
    · by_cases hk : 1 ≤ t.kids.length
      · exact m_isterm_let t hn hF h8 h10 hk HI HI2
      · exact m_isterm_let0 t hn hF h8 h10 hk
  · by_cases hk : 2 ≤ t.kids.length
    · exact m_isterm_case t hn hF h8 hk HI HI2
    · exact m_isterm_case0 t hn hF h8 hk
theorem m_isterm (t : Tm) : IsT t := m_isterm_n t.size t (Nat.le_refl _)

end Go.Proofs.YtjacjpeeinnkcaaGreat

/- A range over a method value: the law for a loop whose iterator is bound to its receiver. No program in sight. -/
namespace Go.Proofs.YtjacjpeeinnkcaaGreat
open Go.RowKit

/-- What a loop's own book-keeping, in blocks from B on, leaves as it was. -/
structure Book {α : Type} (B : Nat) (I : List α → World → Prop) : Prop where
  alloc : ∀ s W o, I s W → I s (W.alloc o)
  put : ∀ s W l o o', I s W → B ≤ l → W.heap[l]? = some o → o.isCells = false → I s (W.putObj l o')
/-- How a round may end. -/
def roundEnd {α : Type} (Kp : World → World → Prop) (I Ix : List α → World → Prop) (xs : List α) (W : World) : Exit → Act → World → Prop
  | .normal, _, W' => KeepsOthers W W' ∧ Kp W W' ∧ I xs W'
  | .ret, _, W' => KeepsOthers W W' ∧ Ix xs W'
  | _, _, _ => False

theorem range_bound {F : Fence} {n : Nat} {P : Program} {α : Type} {g : Operand} {ps : Array Tmp} {assign body : Code} {Q : Exit → Act → World → Prop} {a : Act} {w : World}
    (hro : F.round = none) (h1 : 1 ≤ n) {gf : Nat} {ba : Array Value} (hg : a.eval g = .func (.func gf) ba #[]) (hFg : F.fn gf) (eg : ∀ args w, (callFunc gf args).run P w = .ok (.enter gf args) w)
    {encs : α → Array Value} {Kp : World → World → Prop} {S Sp : List α → Prop} {N : Nat}
    (hseq : ∀ (l : Nat) (J Jx : List α → World → Prop) (W : World), Below w.heap.size w W → (∀ s W o, J s W → J s (W.alloc o)) →
      (∀ pre x W1, J pre W1 → pre.length < N → YieldAt F (n - 1 - 1) P l (encs x) W1 fun e W' => (e = .returned (.bool true) ∧ J (pre ++ [x]) W' ∧ Kp W1 W') ∨ (e = .returned (.bool false) ∧ Jx (pre ++ [x]) W')) → J [] W →
      CallsIn F (n - 1) P gf (ba ++ #[.func (.yield l) #[] #[]]) W fun e W' => (∃ v, e = .returned v) ∧ ((∃ xs, S xs ∧ J xs W') ∨ (∃ pre, Sp pre ∧ Jx pre W')))
    (hKt : ∀ {A B C : World}, Kp A B → Kp B C → Kp A C) (hKb : ∀ (W : World) (l : Nat) (o o' : Obj), w.heap.size ≤ l → W.heap[l]? = some o → o.isCells = false → Kp W (W.putObj l o')) (hps : ∀ x, (encs x).size = ps.size)
    (I Ix : List α → World → Prop) (hI : Book w.heap.size I) (hIx : Book w.heap.size Ix) (h0 : I [] w) (a₁ : α → Act)
    (hassign : ∀ (l : Nat) (x : α) (W : World) (K : Act → World → Prop), K (a₁ x) W →
      assign.wpIn (F.inRound l) (n - 1 - 1) P (Exit.then K (fun _ _ _ => False)) { tmps := (ps.zip (encs x)).foldl (fun t (p, v) => t.setIfInBounds p v) a.tmps, defers := [] } W)
    (hbody : ∀ (l : Nat) (pre : List α) (x : α) (W : World), I pre W → pre.length < N → body.wpIn (F.inRound l) (n - 1 - 1) P (roundEnd Kp I Ix (pre ++ [x]) W) (a₁ x) W)
    (hdone : ∀ (D : Nat) (xs : List α) (W : World), w.heap.size ≤ D → S xs → I xs W → W.heap[D]? = some (.deferred (some [])) → Q .normal { a with defers := { target := .collected D, args := #[] } :: a.defers } W)
    (hstop : ∀ (D : Nat) (pre : List α) (W : World), w.heap.size ≤ D → Sp pre → Ix pre W → W.heap[D]? = some (.deferred (some [])) → Code.ret.wpIn F n P Q { a with defers := { target := .collected D, args := #[] } :: a.defers } W) :
    (Code.rangeFunc g ps assign body).wpIn F n P Q a w := by
  refine wpIn_rangeFunc fun fn hfn => ?_
  rw [hro]
  -- the loop's object, in each of its states
  let L : LoopState → Option Code → Obj := fun st pe => .loop { state := st, pending := pe, fn, tmps := a.tmps, params := ps, assign, body, defers := w.heap.size }
  obtain ⟨V, hV⟩ : ∃ V, V = (w.alloc (.deferred (some []))).alloc (L .ready none) := ⟨_, rfl⟩
  have vL : V.heap[w.heap.size + 1]? = some (L .ready none) := by
    rw [hV]; have := World.alloc_heap_new (w.alloc (.deferred (some []))) (L .ready none); rwa [World.size_alloc] at this
  have vD : V.heap[w.heap.size]? = some (.deferred (some [])) := by
    rw [hV]; exact (Below.heap_alloc _ _ _ (by simp)).trans (World.alloc_heap_new w _)
  have vI : I [] V := by rw [hV]; exact hI.alloc _ _ _ (hI.alloc _ _ _ h0)
  have vB : Below w.heap.size w V := by rw [hV]; exact ((Below.refl _ w).alloc (Nat.le_refl _) _).alloc (by simp) _
  have old : ∀ {W : World} {j : Nat} {o : Obj} (o' : Obj), W.heap[j]? = some o → (W.alloc o').heap[j]? = some o := fun o' h => (Below.heap_alloc _ _ _ (Array.getElem?_eq_some_iff.1 h).1).trans h
  refine ⟨w.heap.size + 1, [{ target := .collected w.heap.size, args := #[] }], V, { target := .fn (.func gf) #[], args := ba ++ #[.func (.yield (w.heap.size + 1)) #[] #[]] }, V, gf, ba ++ #[.func (.yield (w.heap.size + 1)) #[] #[]], V, ?_, ?_, ?_, ?_, fun _ => h1, ?_⟩
  · rw [hV]; exact run_enterLoop_outer _ _ _ _ _
  · simp only [resolve, hg]
    simp [go_sem]
  · intro f' hf'; simp [Target.leads] at hf'; subst hf'; exact hFg
  · simp [invoke, go_sem, eg]
  refine (hseq (w.heap.size + 1) (fun pre W => I pre W ∧ W.heap[w.heap.size + 1]? = some (L .ready none) ∧ W.heap[w.heap.size]? = some (.deferred (some [])))
    (fun pre W => Ix pre W ∧ W.heap[w.heap.size + 1]? = some (L .done (some .ret)) ∧ W.heap[w.heap.size]? = some (.deferred (some []))) V vB
    (fun s W o h => ⟨hI.alloc _ _ _ h.1, old o h.2.1, old o h.2.2⟩) ?_ ⟨vI, vL, vD⟩).mono ?_
  · -- a round
    rintro pre x W ⟨hi, hl, hk⟩ hlen
    refine ⟨fn, _, assign, body, run_yield (P := P) (args := encs x) hl (hps x), roundIn_of_wpIn hfn (hassign _ x W _ ⟨_, run_beginRound hl rfl, ?_⟩)⟩
    have hB : (W.putObj (w.heap.size + 1) (L .busy none)).heap[w.heap.size + 1]? = some (L .busy none) := World.putObj_heap_same (Array.getElem?_eq_some_iff.1 hl).1
    have hD : (W.putObj (w.heap.size + 1) (L .busy none)).heap[w.heap.size]? = some (.deferred (some [])) := (World.putObj_heap_other (by omega)).trans hk
    have ends : ∀ (jump : Option Code) (W3 : World), KeepsOthers (W.putObj (w.heap.size + 1) (L .busy none)) W3 → W3.heap[w.heap.size + 1]? = some (L .busy none) ∧
        (Instr.endRound (w.heap.size + 1) jump).run P W3 = .ok (.bool jump.isNone) (W3.putObj (w.heap.size + 1) (L (if jump.isNone then .ready else .done) jump)) ∧
        (W3.putObj (w.heap.size + 1) (L (if jump.isNone then .ready else .done) jump)).heap[w.heap.size + 1]? = some (L (if jump.isNone then .ready else .done) jump) ∧
        (W3.putObj (w.heap.size + 1) (L (if jump.isNone then .ready else .done) jump)).heap[w.heap.size]? = some (.deferred (some [])) := fun jump W3 hk3 => by
      have h3 := hk3.same _ _ hB rfl
      exact ⟨h3, run_endRound (P := P) jump h3, World.putObj_heap_same (Array.getElem?_eq_some_iff.1 h3).1, (World.putObj_heap_other (by omega)).trans (hk3.same _ _ hD rfl)⟩
    refine wpIn_mono (hbody _ pre x _ (hI.put _ _ _ _ _ hi (by omega) hl rfl) hlen) ?_
    intro e a3 W3 hp
    cases e with
    | normal =>
      obtain ⟨hk3, hkp, hi3⟩ := hp
      obtain ⟨g1, g2, g3, g4⟩ := ends none W3 hk3
      exact ⟨_, _, g2, .inl ⟨rfl, ⟨hI.put _ _ _ _ _ hi3 (by omega) g1 rfl, g3, g4⟩, hKt (hKt (hKb _ _ _ _ (by omega) hl rfl) hkp) (hKb _ _ _ _ (by omega) g1 rfl)⟩⟩
    | ret =>
      obtain ⟨hk3, hi3⟩ := hp
      obtain ⟨g1, g2, g3, g4⟩ := ends (some .ret) W3 hk3
      exact ⟨_, _, g2, .inr ⟨rfl, hIx.put _ _ _ _ _ hi3 (by omega) g1 rfl, g3, g4⟩⟩
    | exit id => exact hp.elim
    | goto t => exact hp.elim
    | panic ch => exact hp.elim
    | outgrown => exact hp.elim
  · -- behind the iterator
    rintro e W2 ⟨⟨v, rfl⟩, (⟨xs, hS, hi, hl, hk⟩ | ⟨pre, hSp, hi, hl, hk⟩)⟩
    · exact ⟨none, _, run_endLoop (P := P) hl (by simp), hdone _ xs _ (Nat.le_refl _) hS (hI.put _ _ _ _ _ hi (by omega) hl rfl) ((World.putObj_heap_other (by omega)).trans hk)⟩
    · exact ⟨some .ret, _, run_endLoop (P := P) hl (by simp), hstop _ pre _ (Nat.le_refl _) hSp (hIx.put _ _ _ _ _ hi (by omega) hl rfl) ((World.putObj_heap_other (by omega)).trans hk)⟩

end Go.Proofs.YtjacjpeeinnkcaaGreat
