/- Terms with bound names told by numbers: plain laws: a second time nothing gets another name; the same shape; free variables. No program in sight. -/
import Derived.Test.YtcnkfkjgpdmebaaGreatDoorJN31
import Derived.Deep.DeepCutAuto
/- Terms with bound names told by numbers: plain laws: a second time nothing gets another name; the same shape; free variables. No program in sight. -/
namespace Go.Proofs.YtcnkfkjgpdmebaaGreatDoor
open Go.RowKit

/-! ### What names and variables become -/
namespace Tm.Pure
def kind : Tm.Pure → Int | .mk x _ _ _ _ _ => x
def n : Tm.Pure → Int | .mk _ x _ _ _ _ => x
def name : Tm.Pure → Str | .mk _ _ x _ _ _ => x
def vars : Tm.Pure → List Int | .mk _ _ _ x _ _ => x
def types : Tm.Pure → List Ty.Pure | .mk _ _ _ _ x _ => x
def kids : Tm.Pure → List Tm.Pure | .mk _ _ _ _ _ x => x
theorem ind {p : Tm.Pure → Prop} (h : ∀ t, (∀ k ∈ t.kids, p k) → p t) (t : Tm.Pure) : p t :=
  Tm.Pure.rec (motive_1 := p) (motive_2 := fun l => ∀ k ∈ l, p k) (fun _ _ _ _ _ _ hl => h _ hl) (fun _ hk => by cases hk)
    (fun _ _ hh ht k hk => by rcases List.mem_cons.1 hk with rfl | hk; exact hh; exact ht k hk) t
end Tm.Pure
/-- What names and variables become, the nearest first. -/
structure Cn where
  names : List (Str × Str)
  vars : List Int
  tys : List Int
def Cn.within (c : Cn) (l : List Str) : Cn := ⟨(l.map fun s => (s, s)) ++ c.names, c.vars, c.tys⟩
/-! ### A second time nothing gets another name -/
/-- Nothing gets another name any more. -/
structure Still (c : Cn) : Prop where
  names : ∀ p ∈ c.names, p.1 = p.2
  vars : c.vars = c.tys
theorem Still.within {c : Cn} (h : Still c) (l : List Str) : Still (c.within l) := by
  refine ⟨fun p hp => ?_, h.vars⟩
  rcases List.mem_append.1 hp with hp | hp
  · obtain ⟨s, -, rfl⟩ := List.mem_map.1 hp
    rfl
  · exact h.names p hp
/-! ### The same shape -/
/-- No term has an empty new name. -/
def NamesOk (c : Cn) : Prop := ∀ p ∈ c.names, (p.1 = [] ↔ p.2 = [])
theorem NamesOk.within {c : Cn} (h : NamesOk c) (l : List Str) : NamesOk (c.within l) := by
  intro p hp
  rcases List.mem_append.1 hp with hp | hp
  · obtain ⟨s, -, rfl⟩ := List.mem_map.1 hp
    exact Iff.rfl
  · exact h p hp
/-! ### Free variables -/
end Go.Proofs.YtcnkfkjgpdmebaaGreatDoor

/- Whether a term may be: plain laws. No program in sight. -/
namespace Go.Proofs.YtcnkfkjgpdmebaaGreatDoor
open Go.RowKit

/-- What a kind of terms has. -/
structure ShK where
  named : Bool
  counted : Bool
  from0 : Bool
  types : Int
  kids : Int
def shapeK (k : Int) : Option ShK :=
  if k = 1 ∨ k = 21 then some ⟨true, false, false, 0, 0⟩
  else if k = 2 ∨ k = 14 ∨ k = 23 then some ⟨false, true, false, 0, 0⟩
  else if k = 22 then some ⟨false, false, false, 0, 0⟩
  else if k = 3 ∨ k = 11 then some ⟨true, false, false, 1, 1⟩
  else if k = 4 ∨ k = 9 then some ⟨false, false, false, 0, 2⟩
  else if k = 5 then some ⟨false, false, false, 0, 1⟩
  else if k = 6 then some ⟨false, false, false, -1, 1⟩
  else if k = 7 then some ⟨true, false, false, -1, 0⟩
  else if k = 8 ∨ k = 10 then some ⟨false, false, false, 0, -1⟩
  else if k = 12 then some ⟨true, false, false, 1, -1⟩
  else if k = 13 then some ⟨true, true, true, 0, 1⟩
  else if k = 24 then some ⟨true, false, false, 0, -1⟩
  else none
/-- Has a term its kind's shape? -/
def fitsOf (k n : Int) (named : Bool) (vs tys kids : Nat) : Bool :=
  match shapeK k with
  | none => false
  | some s => (named == s.named) && ((n == 0) || s.counted) && !(decide (n < 0) && s.from0) && (decide (vs = 0) || k == 5 || k == 11) && (decide (s.types < 0) || decide ((tys : Int) = s.types)) && (decide (s.kids < 0) || decide ((kids : Int) = s.kids))
noncomputable def fitsM (t : Tm) : Bool := fitsOf t.kind t.n (!(t.name == [])) t.vars.length t.types.length t.kids.length && t.types.all legalD
/-- Is it a term, a pattern, an alternative, a binding? -/
structure TB where
  term : Bool
  pat : Bool
  alt : Bool
  bind : Bool
def TB.at_ (l : List TB) (i : Nat) : TB := l.getD i ⟨false, false, false, false⟩
def TB.termOf (k : Int) (f : Bool) (l : List TB) : Bool :=
  (!decide (21 ≤ k) && !(k == 9) && !(k == 11) && f) &&
    (if k = 8 then decide (2 ≤ l.length) && (TB.at_ l 0).term && (l.drop 1).all (·.alt) else if k = 10 then decide (1 ≤ l.length) && (TB.at_ l (l.length - 1)).term && (l.take (l.length - 1)).all (·.bind) else l.all (·.term))
def TB.of (k : Int) (f : Bool) (l : List TB) : TB :=
  ⟨TB.termOf k f l, decide (21 ≤ k) && f && l.all (·.pat), (k == 9) && f && (TB.at_ l 0).pat && (TB.at_ l 1).term, (k == 11) && f && (TB.at_ l 0).term⟩
noncomputable def Tm.tb : Tm → TB := Tm.fold fun t l => TB.of t.kind (fitsM t) l
theorem tb_eq (t : Tm) : t.tb = TB.of t.kind (fitsM t) (t.kids.map Tm.tb) := by unfold Tm.tb; rw [Tm.fold_eq]
noncomputable def legalM (t : Tm) : Bool := decide (t.size ≤ 4096) && decide (t.depth ≤ 400) && t.tb.term

/-! ### The same shape: the same answers -/
/-! ### What may be has variables without args -/
theorem fits_kids {t : Tm} {d : ShK} (hk : shapeK t.kind = some d) (h : fitsM t = true) (hd : 0 ≤ d.kids) : (t.kids.length : Int) = d.kids := by
  unfold fitsM fitsOf at h
  rw [hk] at h
  simp only [Bool.and_eq_true, Bool.or_eq_true, decide_eq_true_eq] at h
  have := h.1.2
  omega
end Go.Proofs.YtcnkfkjgpdmebaaGreatDoor

/- Contracts: the shape of a kind of terms; whether a term has its kind's shape. -/
namespace Go.Proofs.YtcnkfkjgpdmebaaGreatDoor
open Go.RowKit Go.Shelf

def shV (d : ShK) : Value := .agg #[.bool d.named, .bool d.counted, .bool d.from0, .int .i64 d.types, .int .i64 d.kids]
def shapeV (o : Option ShK) : Value := match o with
  | some d => .tuple #[shV d, .bool true]
  | none => .tuple #[.agg #[.bool false, .bool false, .bool false, .int .i64 0, .int .i64 0], .bool false]

set_option maxRecDepth 10000 in
set_option maxHeartbeats 4000000 in
theorem m_shapes (k : Int) (w : World) : Calls Tryz.prog 158 #[.int .i64 k] w fun e w' => e = .returned (shapeV (shapeK k)) ∧ Ext w w' := by
  by_cases h : (1 ≤ k ∧ k ≤ 14) ∨ (21 ≤ k ∧ k ≤ 24)
  · have : k = 1 ∨ k = 2 ∨ k = 3 ∨ k = 4 ∨ k = 5 ∨ k = 6 ∨ k = 7 ∨ k = 8 ∨ k = 9 ∨ k = 10 ∨ k = 11 ∨ k = 12 ∨ k = 13 ∨ k = 14 ∨ k = 21 ∨ k = 22 ∨ k = 23 ∨ k = 24 := by omega
    clear h
    rcases this with rfl | rfl | rfl | rfl | rfl | rfl | rfl | rfl | rfl | rfl | rfl | rfl | rfl | rfl | rfl | rfl | rfl | rfl
    all_goals
      go_enter Tryz.func158, Tryz.ntmps158
      go_wp2
      refine bodyPost_ret (v := shapeV (shapeK _)) ?_ rfl ⟨rfl, (by repeat (first | exact Ext.refl _ | exact Ext.pre (by simp) | exact Ext.alloc (by assumption) _ | refine Ext.alloc ?_ _ |  refine Ext.more ?_ _ _ | refine Ext.drew ?_ | refine Ext.drewN ?_ _))⟩
      simp [results, Tryz.f158, shapeV, shapeK, shV, go_sem]
  · have hn : shapeK k = none := by
      unfold shapeK
      simp only [show ¬ (k = 1 ∨ k = 21) by omega, show ¬ (k = 2 ∨ k = 14 ∨ k = 23) by omega, show ¬ k = 22 by omega, show ¬ (k = 3 ∨ k = 11) by omega, show ¬ (k = 4 ∨ k = 9) by omega, show ¬ k = 5 by omega, show ¬ k = 6 by omega, show ¬ k = 7 by omega, show ¬ (k = 8 ∨ k = 10) by omega, show ¬ k = 12 by omega, show ¬ k = 13 by omega, show ¬ k = 24 by omega, if_false]
    rw [hn]
    clear hn
    have e1 : (k == 1) = false := by simp; omega
    have e2 : (k == 2) = false := by simp; omega
    have e3 : (k == 3) = false := by simp; omega
    have e4 : (k == 4) = false := by simp; omega
    have e5 : (k == 5) = false := by simp; omega
    have e6 : (k == 6) = false := by simp; omega
    have e7 : (k == 7) = false := by simp; omega
    have e8 : (k == 8) = false := by simp; omega
    have e9 : (k == 9) = false := by simp; omega
    have e10 : (k == 10) = false := by simp; omega
    have e11 : (k == 11) = false := by simp; omega
    have e12 : (k == 12) = false := by simp; omega
    have e13 : (k == 13) = false := by simp; omega
    have e14 : (k == 14) = false := by simp; omega
    have e21 : (k == 21) = false := by simp; omega
    have e22 : (k == 22) = false := by simp; omega
    have e23 : (k == 23) = false := by simp; omega
    have e24 : (k == 24) = false := by simp; omega
    clear h
    go_enter Tryz.func158, Tryz.ntmps158
    go_wp2
    refine bodyPost_ret (v := shapeV none) ?_ rfl ⟨rfl, (by repeat (first | exact Ext.refl _ | exact Ext.pre (by simp) | exact Ext.alloc (by assumption) _ | refine Ext.alloc ?_ _ |  refine Ext.more ?_ _ _ | refine Ext.drew ?_ | refine Ext.drewN ?_ _))⟩
    simp [results, Tryz.f158, shapeV, go_sem]

end Go.Proofs.YtcnkfkjgpdmebaaGreatDoor

/- Contract: whether a term has its kind's shape. -/
namespace Go.Proofs.YtcnkfkjgpdmebaaGreatDoor
open Go.RowKit Go.Shelf

theorem mfits1_opens : Opens 160 := enters_of Tryz.func160 (by kernel_rfl) rfl
theorem m_fits1 (t : Ty) (w : World) (h : TyIn w t) (hsz : t.size ≤ 90000) : Calls Tryz.prog 160 #[tyV t] w fun e w' => e = .returned (.bool (!legalD t)) ∧ Ext w w' := by
  have X0 : Hid (Ext w (w.alloc (.cells #[encStr t.con, .int .i64 t.var, .slice t.A t.args.length t.cap] 53))) := hide ((Ext.refl w).alloc _)
  have HL := hide (fun w' (e : Ext w w') => hide (f_legal t w' (h.ext e) hsz))
  clear h
  generalize legalD t = R at *
  unfold tyV at *
  go_enter Tryz.func160, Tryz.ntmps160
  go_wp2_with fail
  refine (HL.out _ X0.out).out.mono ?_
  rintro e w2 ⟨rfl, hx⟩
  go_wp2
  go_ret
  exact ⟨rfl, X0.out.trans hx⟩

set_option maxRecDepth 10000 in
set_option maxHeartbeats 8000000 in
theorem m_fits (t : Tm) (w : World) (h : TmIn w t) (hsz : ∀ x ∈ t.types, x.size ≤ 90000) (htl : t.types.length ≤ 1000000) : Calls Tryz.prog 111 #[tmV t] w fun e w' => e = .returned (.bool (fitsM t)) ∧ Ext w w' := by
  obtain ⟨W, hW⟩ : ∃ W, W = w.alloc (.cells #[.int .i64 t.kind, .int .i64 t.n, encStr t.name, .slice t.V t.vars.length t.vc, .slice t.T t.types.length t.tc, .slice t.A t.kids.length t.cap] 40) := ⟨_, rfl⟩
  have HW := hide hW.symm
  have X0 : Hid (Ext w W) := hide (by rw [hW]; exact (Ext.refl _).alloc _)
  have B1 : Hid (TmBox W w.heap.size t) := hide (by rw [hW]; exact TmBox.new w t)
  have hWs : W.heap.size = w.heap.size + 1 := by rw [hW]; simp
  have HS := hide (fun w' => hide (m_shapes t.kind w'))
  have HT := hide (fun w' (e : Ext w w') => hide (has_ft 160 #[] mfits1_opens (fun x => !legalD x) t.T t.tc t.types w' (h.hd.types.ext e) htl (fun w'' e2 x hx => m_fits1 x w'' ((h.hd.types.args x hx).ext (e.trans e2)) (hsz x hx))))
  have Hany : Hid ((t.types.any fun x => !legalD x) = !(t.types.all legalD)) := hide (by rw [← List.not_all_eq_any_not])
  have hkl := h.hd.le
  have hkm := h.hd.max
  have hvl := h.hd.vle
  have hvm := h.hd.vmax
  have HF : Hid (fitsM t = (fitsOf t.kind t.n (!(t.name == [])) t.vars.length t.types.length t.kids.length && t.types.all legalD)) := hide rfl
  clear h hsz hW
  generalize fitsM t = R at *
  rw [Hany.out] at HT
  generalize t.types.all legalD = RL at *
  obtain ⟨c0, c1, c2, c3, c4, c5⟩ := B1.out.cells
  unfold tmV at *
  unfold fitsOf at HF
  go_enter Tryz.func111, Tryz.ntmps111
  go_upto_region 1 with fail
  rw [HW.out]
  go_wp2_with fail
  refine (HS.out _).out.mono ?_
  rintro e w2 ⟨rfl, hx⟩
  have X2 := hide hx
  clear hx
  cases hd : shapeK t.kind with
  | none =>
    rw [hd] at HF
    have HR := HF.out
    simp only at HR
    subst HR
    unfold shapeV
    go_wp2
    go_ret
    exact ⟨rfl, X0.out.trans (X2.out.trans (by repeat (first | exact Ext.refl _ | exact Ext.pre (by simp) | exact Ext.alloc (by assumption) _ | refine Ext.alloc ?_ _ |  refine Ext.more ?_ _ _ | refine Ext.drew ?_ | refine Ext.drewN ?_ _)))⟩
  | some d =>
    obtain ⟨nm, ct, f0, ty, kd⟩ := d
    rw [hd] at HF
    simp only at HF
    unfold shapeV shV
    go_upto_region 2 with fail
    obtain ⟨W3, hW3⟩ : ∃ W3, W3 = w2.alloc (.cells #[.bool nm, .bool ct, .bool f0, .int .i64 ty, .int .i64 kd] 232) := ⟨_, rfl⟩
    have hb3 : W3.heap[w2.heap.size]? = some (.cells #[.bool nm, .bool ct, .bool f0, .int .i64 ty, .int .i64 kd] 232 (0, 0)) := by rw [hW3]; exact at_newB _ _ _ rfl
    have X3 : Hid (Ext W W3) := hide (by rw [hW3]; exact X2.out.alloc _)
    rw [← hW3]
    clear hW3 c0 c1 c2 c3 c4 c5
    obtain ⟨c0, c1, c2, c3, c4, c5⟩ := (B1.out.ext X3.out).cells
    have e0 := bytes_block hb3 0
    have e1 := bytes_block hb3 1
    have e2 := bytes_block hb3 2
    have e3 := bytes_block hb3 3
    have e4 := bytes_block hb3 4
    simp only [List.getElem?_toArray, List.getElem?_cons_zero, List.getElem?_cons_succ] at e0 e1 e2 e3 e4
    clear hb3
    obtain ⟨D, hD⟩ : ∃ D, D = ((!(t.name == [])) == nm && (t.n == 0 || ct) && !(decide (t.n < 0) && f0)) := ⟨_, rfl⟩
    have HD := hide hD
    clear hD
    go_cut [39] (fun s39 wx => s39 = .bool (!D) ∧ W3 = wx)
    case first =>
      cases hn : (t.name == ([] : Str)) <;> cases nm
      case true.true =>
        have hD : D = false := by rw [HD.out, hn]; rfl
        subst hD
        go_wp2_with fail
        go_meet
        exact ⟨rfl, rfl⟩
      case false.false =>
        have hD : D = false := by rw [HD.out, hn]; rfl
        subst hD
        go_wp2_with fail
        go_meet
        exact ⟨rfl, rfl⟩
      all_goals
        cases h0 : (t.n != 0)
        rotate_left
        · have h00 : (t.n == 0) = false := by simpa using h0
          cases ct
          · have hD : D = false := by rw [HD.out, hn, h00]; rfl
            subst hD
            clear h00
            go_wp2_with fail
            go_meet
            exact ⟨rfl, rfl⟩
          · by_cases hneg : t.n < 0
            · have hD : D = !f0 := by rw [HD.out, hn, h00]; simp [hneg]
              subst hD
              clear h00
              go_wp2_with fail
              go_meet
              exact ⟨by simp, rfl⟩
            · have hD : D = true := by rw [HD.out, hn, h00]; simp [hneg]
              subst hD
              clear h00
              go_wp2_with fail
              go_meet
              exact ⟨rfl, rfl⟩
        · have h00 : (t.n == 0) = true := by simpa using h0
          have hneg : ¬ t.n < 0 := by simp at h0; omega
          have hD : D = true := by rw [HD.out, hn, h00]; simp [hneg]
          subst hD
          clear h00
          go_wp2_with fail
          go_meet
          exact ⟨rfl, rfl⟩
    case rest =>
      obtain ⟨rfl, rfl⟩ := hcut
      rw [show ((!(t.name == [])) == nm && (t.n == 0 || ct) && !(decide (t.n < 0) && f0)) = D from HD.out.symm] at HF
      clear HD
      cases D
      · have HR := HF.out
        simp only [Bool.false_and] at HR
        subst HR
        go_wp2
        go_ret
        exact ⟨rfl, X0.out.trans X3.out⟩
      go_upto_region 4 with fail
      obtain ⟨D2, hD2⟩ : ∃ D2, D2 = (decide (t.vars.length = 0) || t.kind == 5 || t.kind == 11) := ⟨_, rfl⟩
      have HD2 := hide hD2
      clear hD2
      go_cut [53] (fun s53 wx => s53 = .bool (!D2) ∧ W3 = wx)
      case first =>
        by_cases hv : t.vars.length = 0
        · have hv2 : ¬ (t.vars.length : Int) > 0 := by omega
          have hD : D2 = true := by rw [HD2.out, hv]; rfl
          subst hD
          clear hv
          go_wp2_with fail
          go_meet
          exact ⟨rfl, rfl⟩
        · have hv2 : (t.vars.length : Int) > 0 := by omega
          have HDk : Hid (D2 = (t.kind == 5 || t.kind == 11)) := hide (by rw [HD2.out]; simp [hv])
          clear hv
          cases h5 : (t.kind != 5)
          · have hD : D2 = true := by rw [HDk.out]; simp at h5; simp [h5]
            subst hD
            go_wp2_with fail
            go_meet
            exact ⟨rfl, rfl⟩
          · cases h11 : (t.kind != 11)
            · have hD : D2 = true := by rw [HDk.out]; simp at h11; simp [h11]
              subst hD
              go_wp2_with fail
              go_meet
              exact ⟨rfl, rfl⟩
            · have hD : D2 = false := by rw [HDk.out]; simp at h5 h11; simp [h5, h11]
              subst hD
              go_wp2_with fail
              go_meet
              exact ⟨rfl, rfl⟩
      case rest =>
        obtain ⟨rfl, rfl⟩ := hcut
        rw [← HD2.out] at HF
        clear HD2
        cases D2
        · have HR := HF.out
          simp only [Bool.and_false, Bool.false_and] at HR
          subst HR
          go_wp2
          go_ret
          exact ⟨rfl, X0.out.trans X3.out⟩
        go_upto_region 6 with fail
        obtain ⟨D3, hD3⟩ : ∃ D3, D3 = ((decide (ty < 0) || decide ((t.types.length : Int) = ty)) && (decide (kd < 0) || decide ((t.kids.length : Int) = kd))) := ⟨_, rfl⟩
        have HD3 := hide hD3
        clear hD3
        go_cut [77] (fun s77 wx => s77 = .bool (!D3) ∧ W3 = wx)
        case first =>
          by_cases ht : ty ≥ 0
          · cases h1 : ((t.types.length : Int) != ty)
            · by_cases hk : kd ≥ 0
              · cases h2 : ((t.kids.length : Int) != kd)
                · have hD : D3 = true := by rw [HD3.out]; simp at h1 h2; simp [h1, h2]
                  subst hD
                  go_wp2_with fail
                  go_meet
                  exact ⟨rfl, rfl⟩
                · have hD : D3 = false := by rw [HD3.out]; simp at h2; simp [h2]; omega
                  subst hD
                  go_wp2_with fail
                  go_meet
                  exact ⟨rfl, rfl⟩
              · have hD : D3 = true := by rw [HD3.out]; simp at h1; simp [h1]; omega
                subst hD
                go_wp2_with fail
                go_meet
                exact ⟨rfl, rfl⟩
            · have hD : D3 = false := by rw [HD3.out]; simp at h1; simp [h1]; omega
              subst hD
              go_wp2_with fail
              go_meet
              exact ⟨rfl, rfl⟩
          · by_cases hk : kd ≥ 0
            · cases h2 : ((t.kids.length : Int) != kd)
              · have hD : D3 = true := by rw [HD3.out]; simp at h2; simp [h2]; omega
                subst hD
                go_wp2_with fail
                go_meet
                exact ⟨rfl, rfl⟩
              · have hD : D3 = false := by rw [HD3.out]; simp at h2; simp [h2]; omega
                subst hD
                go_wp2_with fail
                go_meet
                exact ⟨rfl, rfl⟩
            · have hD : D3 = true := by rw [HD3.out]; simp; omega
              subst hD
              go_wp2_with fail
              go_meet
              exact ⟨rfl, rfl⟩
        case rest =>
          obtain ⟨rfl, rfl⟩ := hcut
          have HR : Hid (R = (D3 && RL)) := hide (by rw [HF.out, HD3.out]; simp only [Bool.true_and, Bool.and_assoc])
          clear HF HD3
          cases D3
          · have HR := HR.out
            simp only [Bool.false_and] at HR
            subst HR
            go_wp2
            go_ret
            exact ⟨rfl, X0.out.trans X3.out⟩
          have HR := HR.out
          simp only [Bool.true_and] at HR
          subst HR
          go_wp2_with fail
          refine (HT.out _ (X0.out.trans X3.out)).out.mono ?_
          rintro e w5 ⟨rfl, hx⟩
          go_wp2
          go_ret
          exact ⟨rfl, X0.out.trans (X3.out.trans hx)⟩

end Go.Proofs.YtcnkfkjgpdmebaaGreatDoor

/- Contract: whether a term is a pattern. -/
namespace Go.Proofs.YtcnkfkjgpdmebaaGreatDoor
open Go.RowKit Go.Shelf

/-- Not too many types and kids, no type too great, all the way down. -/
inductive FewM : Tm → Prop
  | mk {t : Tm} (tys : t.types.length ≤ 10000) (ty : ∀ x ∈ t.types, x.size ≤ 90000) (kl : t.kids.length ≤ 1000000) (vl : t.vars.length ≤ 10000) (kids : ∀ k ∈ t.kids, FewM k) : FewM t
theorem FewM.tys4 {t : Tm} (h : FewM t) : t.types.length ≤ 10000 := by cases h; assumption
theorem FewM.tys {t : Tm} (h : FewM t) : t.types.length ≤ 1000000 := Nat.le_trans h.tys4 (by decide)
theorem FewM.ty {t : Tm} (h : FewM t) : ∀ x ∈ t.types, x.size ≤ 90000 := by cases h; assumption
theorem FewM.kl {t : Tm} (h : FewM t) : t.kids.length ≤ 1000000 := by cases h; assumption
theorem FewM.vl {t : Tm} (h : FewM t) : t.vars.length ≤ 10000 := by cases h; assumption
theorem FewM.kids {t : Tm} (h : FewM t) : ∀ k ∈ t.kids, FewM k := by cases h; assumption

/-- What a function tells of a term: a contract. -/
def AsksM (f : FuncId) (p : Tm → Bool) (t : Tm) : Prop := ∀ w, TmIn w t → FewM t → Calls Tryz.prog f #[tmV t] w fun e w' => e = .returned (.bool (p t)) ∧ Ext w w'

theorem mispat1_opens : Opens 162 := enters_of Tryz.func162 (by kernel_rfl) rfl
theorem m_ispat1 (t : Tm) (h : AsksM 114 (fun t => t.tb.pat) t) : AsksM 162 (fun t => !t.tb.pat) t := by
  intro w ht hf
  have X0 : Hid (Ext w (w.alloc (.cells #[.int .i64 t.kind, .int .i64 t.n, encStr t.name, .slice t.V t.vars.length t.vc, .slice t.T t.types.length t.tc, .slice t.A t.kids.length t.cap] 40))) := hide ((Ext.refl w).alloc _)
  have HL := hide (h _ (ht.ext X0.out) hf)
  clear h ht hf
  dsimp only at *
  generalize t.tb.pat = R at *
  unfold tmV at *
  go_enter Tryz.func162, Tryz.ntmps162
  go_wp2_with fail
  refine HL.out.mono ?_
  rintro e w2 ⟨rfl, hx⟩
  go_wp2
  go_ret
  exact ⟨rfl, X0.out.trans hx⟩

set_option maxRecDepth 10000 in
set_option maxHeartbeats 4000000 in
theorem m_ispat (t : Tm) : AsksM 114 (fun t => t.tb.pat) t := by
  induction t using Tm.ind with
  | h t ih =>
  intro w ht hf
  have X0 : Hid (Ext w (w.alloc (.cells #[.int .i64 t.kind, .int .i64 t.n, encStr t.name, .slice t.V t.vars.length t.vc, .slice t.T t.types.length t.tc, .slice t.A t.kids.length t.cap] 40))) := hide ((Ext.refl w).alloc _)
  have HF := hide (fun w' (e : Ext w w') => hide (m_fits t w' (ht.ext e) hf.ty hf.tys))
  have HA := hide (fun w' (e : Ext w w') => hide (has_fm 162 #[] mispat1_opens (fun k => !k.tb.pat) t.A t.cap t.kids w' (ht.all.ext e) hf.kl (fun w'' e2 x hx => m_ispat1 x (ih x hx) w'' ((ht.all.kids x hx).ext (e.trans e2)) (hf.kids x hx))))
  have B1 : Hid (TmBox (w.alloc (.cells #[.int .i64 t.kind, .int .i64 t.n, encStr t.name, .slice t.V t.vars.length t.vc, .slice t.T t.types.length t.tc, .slice t.A t.kids.length t.cap] 40)) w.heap.size t) := hide (TmBox.new w t)
  have HR : Hid (t.tb.pat = (decide (21 ≤ t.kind) && fitsM t && (t.kids.all fun k => k.tb.pat))) := hide (by rw [tb_eq]; show (_ && _ && (t.kids.map Tm.tb).all (·.pat)) = _; rw [List.all_map]; rfl)
  have hany : (t.kids.any fun k => !k.tb.pat) = !(t.kids.all fun k => k.tb.pat) := by rw [← List.not_all_eq_any_not]
  rw [hany] at HA
  have hkl := ht.hd.le
  have hkm := ht.hd.max
  clear ih ht hf hany
  dsimp only
  generalize t.tb.pat = R at *
  generalize fitsM t = RF at *
  generalize (t.kids.all fun k => k.tb.pat) = RK at *
  obtain ⟨c0, -, -, -, -, -⟩ := B1.out.cells
  unfold tmV at *
  by_cases hk : t.kind ≥ 21
  · have hR := HR.out
    have hk' : 21 ≤ t.kind := hk
    rw [decide_eq_true hk', Bool.true_and] at hR
    clear hk'
    subst hR
    go_enter Tryz.func114, Tryz.ntmps114
    go_wp2_with fail
    refine (HF.out _ X0.out).out.mono ?_
    rintro e w2 ⟨rfl, hx⟩
    have X2 := hide hx
    obtain ⟨-, -, -, -, -, d5⟩ := (B1.out.ext X2.out).cells
    clear hx
    cases RF
    · go_wp2
      go_ret
      exact ⟨rfl, X0.out.trans X2.out⟩
    · go_wp2_with fail
      refine (HA.out _ (X0.out.trans X2.out)).out.mono ?_
      rintro e w3 ⟨rfl, hx⟩
      go_wp2
      go_ret
      exact ⟨by simp, X0.out.trans (X2.out.trans hx)⟩
  · have hR := HR.out
    rw [decide_eq_false (show ¬ 21 ≤ t.kind from hk)] at hR
    simp only [Bool.false_and] at hR
    subst hR
    go_enter Tryz.func114, Tryz.ntmps114
    go_wp2
    go_ret
    exact ⟨rfl, X0.out⟩

end Go.Proofs.YtcnkfkjgpdmebaaGreatDoor
