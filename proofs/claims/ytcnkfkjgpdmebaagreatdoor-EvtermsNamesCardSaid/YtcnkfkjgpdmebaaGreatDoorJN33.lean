/- Contracts: whether an alternative, a binding may be. -/
import Derived.Test.YtcnkfkjgpdmebaaGreatDoorJN32
import Derived.RangeFuncNested
import Derived.RangeFuncBound
import Derived.RangeFuncCalls
import Derived.RangeFuncLeaves
/- Contracts: whether an alternative, a binding may be. -/
namespace Go.Proofs.YtcnkfkjgpdmebaaGreatDoor
open Go.RowKit Go.Shelf

theorem tb_at (t : Tm) {i : Nat} (hi : i < t.kids.length) : TB.at_ (t.kids.map Tm.tb) i = (t.kids[i]'hi).tb := by
  unfold TB.at_
  rw [List.getD_eq_getElem?_getD, List.getElem?_map, List.getElem?_eq_getElem hi]
  rfl
theorem misterm3_opens : Opens 116 := enters_of Tryz.func116 (by kernel_rfl) rfl
theorem misterm2_opens : Opens 115 := enters_of Tryz.func115 (by kernel_rfl) rfl
theorem misterm1_opens : Opens 113 := enters_of Tryz.func113 (by kernel_rfl) rfl
theorem m_isterm3 (t : Tm) (h : AsksM 70 (fun t => t.tb.term) t) : AsksM 116 (fun t => !t.tb.term) t := by
  intro w ht hf
  have X0 : Hid (Ext w (w.alloc (.cells #[.int .i64 t.kind, .int .i64 t.n, encStr t.name, .slice t.V t.vars.length t.vc, .slice t.T t.types.length t.tc, .slice t.A t.kids.length t.cap] 40))) := hide ((Ext.refl w).alloc _)
  have HL := hide (h _ (ht.ext X0.out) hf)
  clear h ht hf
  dsimp only at *
  generalize t.tb.term = R at *
  unfold tmV at *
  go_enter Tryz.func116, Tryz.ntmps116
  go_wp2_with fail
  refine HL.out.mono ?_
  rintro e w2 ⟨rfl, hx⟩
  go_wp2
  go_ret
  exact ⟨rfl, X0.out.trans hx⟩

/-- A part of a term, where it lies. -/
theorem first_kid {w : World} {t : Tm} (h : TmsIn w t.A t.kids) (hi : 0 < t.kids.length) :
    ∃ b o, t.A = some ⟨b, o, none⟩ ∧ b < w.heap.size ∧ w.cell? ⟨b, o, none⟩ = some (.int .i64 (t.kids[0]'hi).kind) ∧ w.cell? ⟨b, o + 1, none⟩ = some (.int .i64 (t.kids[0]'hi).n) ∧
      w.cell? ⟨b, o + 2, none⟩ = some (.string ⟨(t.kids[0]'hi).name.toArray⟩) ∧ w.cell? ⟨b, o + 3, none⟩ = some (.slice (t.kids[0]'hi).V (t.kids[0]'hi).vars.length (t.kids[0]'hi).vc) ∧
      w.cell? ⟨b, o + 4, none⟩ = some (.slice (t.kids[0]'hi).T (t.kids[0]'hi).types.length (t.kids[0]'hi).tc) ∧ w.cell? ⟨b, o + 5, none⟩ = some (.slice (t.kids[0]'hi).A (t.kids[0]'hi).kids.length (t.kids[0]'hi).cap) := by
  have := h.at_ hi
  simpa using this

set_option maxRecDepth 10000 in
set_option maxHeartbeats 4000000 in
theorem m_isterm2 (t : Tm) (h : ∀ k ∈ t.kids, AsksM 70 (fun t => t.tb.term) k) : AsksM 115 (fun t => !t.tb.bind) t := by
  intro w ht hf
  have X0 : Hid (Ext w (w.alloc (.cells #[.int .i64 t.kind, .int .i64 t.n, encStr t.name, .slice t.V t.vars.length t.vc, .slice t.T t.types.length t.tc, .slice t.A t.kids.length t.cap] 40))) := hide ((Ext.refl w).alloc _)
  have HF := hide (fun w' (e : Ext w w') => hide (m_fits t w' (ht.ext e) hf.ty hf.tys))
  have B1 : Hid (TmBox (w.alloc (.cells #[.int .i64 t.kind, .int .i64 t.n, encStr t.name, .slice t.V t.vars.length t.vc, .slice t.T t.types.length t.tc, .slice t.A t.kids.length t.cap] 40)) w.heap.size t) := hide (TmBox.new w t)
  have HR : Hid (t.tb.bind = ((t.kind == 11) && fitsM t && (TB.at_ (t.kids.map Tm.tb) 0).term)) := hide (by rw [tb_eq]; rfl)
  have hkl := ht.hd.le
  have hkm := ht.hd.max
  have HK := hide ht.all
  have Hh := hide h
  have Hfk := hide hf.kids
  have Hl : Hid (t.kind = 11 → fitsM t = true → t.kids.length = 1) := hide (fun h1 h2 => by
    have := fits_kids (d := ⟨true, false, false, 1, 1⟩) (by rw [h1]; rfl) h2 (by decide)
    simp only at this
    omega)
  clear h ht hf
  dsimp only
  generalize t.tb.bind = R at *
  obtain ⟨c0, -, -, -, -, -⟩ := B1.out.cells
  unfold tmV at *
  cases hk : (t.kind != 11)
  · have hk11 : t.kind = 11 := by simpa using hk
    have HR2 : Hid (R = (fitsM t && (TB.at_ (t.kids.map Tm.tb) 0).term)) := hide (by rw [HR.out, hk11]; rfl)
    cases hF : fitsM t
    · rw [hF] at HF
      have hR := HR2.out
      rw [hF, Bool.false_and] at hR
      subst hR
      clear hF hk11 HR HR2
      go_enter Tryz.func115, Tryz.ntmps115
      go_wp2_with fail
      refine (HF.out _ X0.out).out.mono ?_
      rintro e w2 ⟨rfl, hx⟩
      go_wp2
      go_ret
      exact ⟨rfl, X0.out.trans hx⟩
    · have hl := Hl.out hk11 hF
      have hl0 : 0 < t.kids.length := by omega
      rw [hF] at HF
      have hR := HR2.out
      rw [hF, Bool.true_and, tb_at t hl0] at hR
      have HRr := hide hR
      have HC := hide (fun w' (e : Ext w w') => hide (Hh.out _ (List.getElem_mem hl0) w' ((HK.out.kids _ (List.getElem_mem hl0)).ext e) (Hfk.out _ (List.getElem_mem hl0))))
      clear hF hk11 HR HR2 hl hR
      go_enter Tryz.func115, Tryz.ntmps115
      go_wp2_with fail
      refine (HF.out _ X0.out).out.mono ?_
      rintro e w2 ⟨rfl, hx⟩
      have X2 := hide hx
      obtain ⟨-, -, -, -, -, d5⟩ := (B1.out.ext X2.out).cells
      obtain ⟨b, o, hA, hb, q0, q1, q2, q3, q4, q5⟩ := first_kid (HK.out.ext (X0.out.trans X2.out)) hl0
      rw [hA] at d5
      clear hx hA
      generalize t.kids[0]'hl0 = x at *
      try dsimp only at HC
      generalize x.tb.term = RT at *
      have HRr := HRr.out
      subst HRr
      unfold tmV at HC
      go_wp2_with fail
      refine (HC.out _ (X0.out.trans X2.out)).out.mono ?_
      rintro e w3 ⟨rfl, hx⟩
      go_wp2
      go_ret
      exact ⟨by simp, X0.out.trans (X2.out.trans hx)⟩
  · have hR := HR.out
    have hk11 : (t.kind == 11) = false := by simpa using hk
    rw [hk11] at hR
    simp only [Bool.false_and] at hR
    subst hR
    clear hk11
    go_enter Tryz.func115, Tryz.ntmps115
    go_wp2
    go_ret
    exact ⟨rfl, X0.out⟩

set_option maxRecDepth 10000 in
set_option maxHeartbeats 4000000 in
theorem m_isterm1 (t : Tm) (h : ∀ k ∈ t.kids, AsksM 70 (fun t => t.tb.term) k) : AsksM 113 (fun t => !t.tb.alt) t := by
  intro w ht hf
  have X0 : Hid (Ext w (w.alloc (.cells #[.int .i64 t.kind, .int .i64 t.n, encStr t.name, .slice t.V t.vars.length t.vc, .slice t.T t.types.length t.tc, .slice t.A t.kids.length t.cap] 40))) := hide ((Ext.refl w).alloc _)
  have HF := hide (fun w' (e : Ext w w') => hide (m_fits t w' (ht.ext e) hf.ty hf.tys))
  have B1 : Hid (TmBox (w.alloc (.cells #[.int .i64 t.kind, .int .i64 t.n, encStr t.name, .slice t.V t.vars.length t.vc, .slice t.T t.types.length t.tc, .slice t.A t.kids.length t.cap] 40)) w.heap.size t) := hide (TmBox.new w t)
  have HR : Hid (t.tb.alt = ((t.kind == 9) && fitsM t && (TB.at_ (t.kids.map Tm.tb) 0).pat && (TB.at_ (t.kids.map Tm.tb) 1).term)) := hide (by rw [tb_eq]; rfl)
  have hkl := ht.hd.le
  have hkm := ht.hd.max
  have HK := hide ht.all
  have Hh := hide h
  have Hfk := hide hf.kids
  have Hl : Hid (t.kind = 9 → fitsM t = true → t.kids.length = 2) := hide (fun h1 h2 => by
    have := fits_kids (d := ⟨false, false, false, 0, 2⟩) (by rw [h1]; rfl) h2 (by decide)
    simp only at this
    omega)
  clear h ht hf
  dsimp only
  generalize t.tb.alt = R at *
  obtain ⟨c0, -, -, -, -, -⟩ := B1.out.cells
  unfold tmV at *
  cases hk : (t.kind != 9)
  · have hk11 : t.kind = 9 := by simpa using hk
    have HR2 : Hid (R = (fitsM t && (TB.at_ (t.kids.map Tm.tb) 0).pat && (TB.at_ (t.kids.map Tm.tb) 1).term)) := hide (by rw [HR.out, hk11]; rfl)
    cases hF : fitsM t
    · rw [hF] at HF
      have hR := HR2.out
      rw [hF, Bool.false_and, Bool.false_and] at hR
      subst hR
      clear hF hk11 HR HR2
      go_enter Tryz.func113, Tryz.ntmps113
      go_wp2_with fail
      refine (HF.out _ X0.out).out.mono ?_
      rintro e w2 ⟨rfl, hx⟩
      go_wp2
      go_ret
      exact ⟨rfl, X0.out.trans hx⟩
    · have hl := Hl.out hk11 hF
      have hl0 : 0 < t.kids.length := by omega
      have hl1 : 1 < t.kids.length := by omega
      rw [hF] at HF
      have hR := HR2.out
      rw [hF, Bool.true_and, tb_at t hl0, tb_at t hl1] at hR
      have HC0 := hide (fun w' (e : Ext w w') => hide (m_ispat _ w' ((HK.out.kids _ (List.getElem_mem hl0)).ext e) (Hfk.out _ (List.getElem_mem hl0))))
      have HC1 := hide (fun w' (e : Ext w w') => hide (Hh.out _ (List.getElem_mem hl1) w' ((HK.out.kids _ (List.getElem_mem hl1)).ext e) (Hfk.out _ (List.getElem_mem hl1))))
      have HRr := hide hR
      clear hF hk11 HR HR2 hl hR
      go_enter Tryz.func113, Tryz.ntmps113
      go_wp2_with fail
      refine (HF.out _ X0.out).out.mono ?_
      rintro e w2 ⟨rfl, hx⟩
      have X2 := hide hx
      obtain ⟨-, -, -, -, -, d5⟩ := (B1.out.ext X2.out).cells
      obtain ⟨b, o, hA, hb, q0, q1, q2, q3, q4, q5⟩ := first_kid (HK.out.ext (X0.out.trans X2.out)) hl0
      have HA2 := hide (fun w' (e : Ext w w') => (HK.out.ext e).at_ hl1)
      have HA := hide hA
      rw [hA] at d5
      clear hx hA
      generalize t.kids[0]'hl0 = x at *
      generalize t.kids[1]'hl1 = y at *
      try dsimp only at HC0 HC1
      generalize x.tb.pat = RP at *
      generalize y.tb.term = RT at *
      have HRr := HRr.out
      subst HRr
      unfold tmV at HC0 HC1
      go_wp2_with fail
      refine (HC0.out _ (X0.out.trans X2.out)).out.mono ?_
      rintro e w3 ⟨rfl, hx⟩
      have X3 := hide (X2.out.trans hx)
      clear hx q0 q1 q2 q3 q4 q5 d5
      cases RP
      · go_wp2
        go_ret
        exact ⟨rfl, X0.out.trans X3.out⟩
      · obtain ⟨-, -, -, -, -, d5⟩ := (B1.out.ext X3.out).cells
        obtain ⟨b', o', hA', hb', q0, q1, q2, q3, q4, q5⟩ := HA2.out _ (X0.out.trans X3.out)
        rw [hA'] at d5
        clear hA'
        go_wp2_with fail
        refine (HC1.out _ (X0.out.trans X3.out)).out.mono ?_
        rintro e w4 ⟨rfl, hx⟩
        go_wp2
        go_ret
        exact ⟨by simp, X0.out.trans (X3.out.trans hx)⟩
  · have hR := HR.out
    have hk11 : (t.kind == 9) = false := by simpa using hk
    rw [hk11] at hR
    simp only [Bool.false_and] at hR
    subst hR
    clear hk11
    go_enter Tryz.func113, Tryz.ntmps113
    go_wp2
    go_ret
    exact ⟨rfl, X0.out⟩

end Go.Proofs.YtcnkfkjgpdmebaaGreatDoor

/- Contracts: what is no term; whether a term of any kind but two is one. -/
namespace Go.Proofs.YtcnkfkjgpdmebaaGreatDoor
open Go.RowKit Go.Shelf

/-- The function tells of a term whether it is one. -/
def IsT (t : Tm) : Prop := AsksM 70 (fun t => t.tb.term) t
theorem any_not {α : Type} (l : List α) (p : α → Bool) : (l.any fun k => !p k) = !(l.all fun k => p k) := by rw [← List.not_all_eq_any_not]
/-- No term at once. -/
def noTerm (t : Tm) : Bool := decide (21 ≤ t.kind) || (t.kind == 9) || (t.kind == 11)
theorem noTerm_false {t : Tm} (h : noTerm t = true) : t.tb.term = false := by
  rw [tb_eq]
  show TB.termOf t.kind (fitsM t) (t.kids.map Tm.tb) = false
  unfold noTerm at h
  simp only [Bool.or_eq_true] at h
  unfold TB.termOf
  rcases h with (h | h) | h <;> rw [h] <;> simp
theorem unfit_false {t : Tm} (h : fitsM t = false) : t.tb.term = false := by
  rw [tb_eq]
  show TB.termOf t.kind (fitsM t) (t.kids.map Tm.tb) = false
  unfold TB.termOf
  rw [h]
  simp
theorem fit_eq {t : Tm} (h : fitsM t = true) (hn : noTerm t = false) : t.tb.term = (if t.kind = 8 then decide (2 ≤ t.kids.length) && (TB.at_ (t.kids.map Tm.tb) 0).term && (t.kids.drop 1).all (fun k => k.tb.alt) else if t.kind = 10 then decide (1 ≤ t.kids.length) && (TB.at_ (t.kids.map Tm.tb) (t.kids.length - 1)).term && (t.kids.take (t.kids.length - 1)).all (fun k => k.tb.bind) else t.kids.all (fun k => k.tb.term)) := by
  rw [tb_eq]
  show TB.termOf t.kind (fitsM t) (t.kids.map Tm.tb) = _
  unfold noTerm at hn
  simp only [Bool.or_eq_false_iff] at hn
  unfold TB.termOf
  rw [h, hn.1.1, hn.1.2, hn.2]
  simp only [Bool.not_false, Bool.and_self, Bool.true_and, List.length_map, ← List.map_drop, ← List.map_take, List.all_map, Function.comp_def]
theorem noTerm_parts {t : Tm} (h : noTerm t = false) : ¬ t.kind ≥ 21 ∧ (t.kind == 9) = false ∧ (t.kind == 11) = false := by
  unfold noTerm at h
  simp only [Bool.or_eq_false_iff, decide_eq_false_iff_not] at h
  exact ⟨h.1.1, h.1.2, h.2⟩

set_option maxRecDepth 10000 in
set_option maxHeartbeats 4000000 in
theorem m_isterm_no (t : Tm) (hn : noTerm t = true) : IsT t := by
  intro w ht hf
  have X0 : Hid (Ext w (w.alloc (.cells #[.int .i64 t.kind, .int .i64 t.n, encStr t.name, .slice t.V t.vars.length t.vc, .slice t.T t.types.length t.tc, .slice t.A t.kids.length t.cap] 40))) := hide ((Ext.refl w).alloc _)
  have B1 : Hid (TmBox (w.alloc (.cells #[.int .i64 t.kind, .int .i64 t.n, encStr t.name, .slice t.V t.vars.length t.vc, .slice t.T t.types.length t.tc, .slice t.A t.kids.length t.cap] 40)) w.heap.size t) := hide (TmBox.new w t)
  dsimp only
  rw [noTerm_false hn]
  have Hn := hide hn
  clear ht hf hn
  obtain ⟨c0, -, -, -, -, -⟩ := B1.out.cells
  unfold tmV
  by_cases h21 : t.kind ≥ 21
  · clear Hn
    go_enter Tryz.func70, Tryz.ntmps70
    go_wp2
    go_ret
    exact ⟨rfl, X0.out⟩
  cases h9 : (t.kind == 9)
  rotate_left
  · clear Hn
    go_enter Tryz.func70, Tryz.ntmps70
    go_wp2
    go_ret
    exact ⟨rfl, X0.out⟩
  cases h11 : (t.kind == 11)
  rotate_left
  · clear Hn
    go_enter Tryz.func70, Tryz.ntmps70
    go_wp2
    go_ret
    exact ⟨rfl, X0.out⟩
  · exact absurd Hn.out (by unfold noTerm; rw [h9, h11, decide_eq_false (show ¬ 21 ≤ t.kind from h21)]; decide)

set_option maxRecDepth 10000 in
set_option maxHeartbeats 4000000 in
theorem m_isterm_unfit (t : Tm) (hn : noTerm t = false) (hF : fitsM t = false) : IsT t := by
  intro w ht hf
  have X0 : Hid (Ext w (w.alloc (.cells #[.int .i64 t.kind, .int .i64 t.n, encStr t.name, .slice t.V t.vars.length t.vc, .slice t.T t.types.length t.tc, .slice t.A t.kids.length t.cap] 40))) := hide ((Ext.refl w).alloc _)
  have HF := hide (fun w' (e : Ext w w') => hide (m_fits t w' (ht.ext e) hf.ty hf.tys))
  have B1 : Hid (TmBox (w.alloc (.cells #[.int .i64 t.kind, .int .i64 t.n, encStr t.name, .slice t.V t.vars.length t.vc, .slice t.T t.types.length t.tc, .slice t.A t.kids.length t.cap] 40)) w.heap.size t) := hide (TmBox.new w t)
  obtain ⟨h21, h9, h11⟩ := noTerm_parts hn
  dsimp only
  rw [unfit_false hF]
  rw [hF] at HF
  clear ht hf hn hF
  obtain ⟨c0, -, -, -, -, -⟩ := B1.out.cells
  unfold tmV at *
  go_enter Tryz.func70, Tryz.ntmps70
  go_wp2_with fail
  refine (HF.out _ X0.out).out.mono ?_
  rintro e w2 ⟨rfl, hx⟩
  go_wp2
  go_ret
  exact ⟨rfl, X0.out.trans hx⟩

set_option maxRecDepth 10000 in
set_option maxHeartbeats 4000000 in
theorem m_isterm_else (t : Tm) (hn : noTerm t = false) (hF : fitsM t = true) (h8 : (t.kind == 8) = false) (h10 : (t.kind == 10) = false) (HI : ∀ k ∈ t.kids, IsT k) : IsT t := by
  intro w ht hf
  have X0 : Hid (Ext w (w.alloc (.cells #[.int .i64 t.kind, .int .i64 t.n, encStr t.name, .slice t.V t.vars.length t.vc, .slice t.T t.types.length t.tc, .slice t.A t.kids.length t.cap] 40))) := hide ((Ext.refl w).alloc _)
  have HF := hide (fun w' (e : Ext w w') => hide (m_fits t w' (ht.ext e) hf.ty hf.tys))
  have B1 : Hid (TmBox (w.alloc (.cells #[.int .i64 t.kind, .int .i64 t.n, encStr t.name, .slice t.V t.vars.length t.vc, .slice t.T t.types.length t.tc, .slice t.A t.kids.length t.cap] 40)) w.heap.size t) := hide (TmBox.new w t)
  obtain ⟨h21, h9, h11⟩ := noTerm_parts hn
  have HK := hide ht.all
  have Hf := hide hf
  have hR := fit_eq hF hn
  rw [if_neg (by simpa using h8), if_neg (by simpa using h10)] at hR
  have hkl := ht.hd.le
  have hkm := ht.hd.max
  have HA := hide (fun w' (e : Ext w w') => hide (has_fm 116 #[] misterm3_opens (fun k => !k.tb.term) t.A t.cap t.kids w' (HK.out.ext e) Hf.out.kl (fun w'' e2 x hx => m_isterm3 x (HI x hx) w'' ((HK.out.kids x hx).ext (e.trans e2)) (Hf.out.kids x hx))))
  dsimp only
  rw [any_not, ← hR] at HA
  rw [hF] at HF
  clear ht hf hn hF hR HI HK Hf
  generalize t.tb.term = R at *
  obtain ⟨c0, -, -, -, -, -⟩ := B1.out.cells
  unfold tmV at *
  go_enter Tryz.func70, Tryz.ntmps70
  go_wp2_with fail
  refine (HF.out _ X0.out).out.mono ?_
  rintro e w2 ⟨rfl, hx⟩
  have X2 := hide hx
  obtain ⟨d0, -, -, -, -, d5⟩ := (B1.out.ext X2.out).cells
  clear hx
  go_wp2_with fail
  refine (HA.out _ (X0.out.trans X2.out)).out.mono ?_
  rintro e w3 ⟨rfl, hx⟩
  go_wp2
  go_ret
  exact ⟨by simp, X0.out.trans (X2.out.trans hx)⟩

end Go.Proofs.YtcnkfkjgpdmebaaGreatDoor

/- Contract: whether a TermCase is a term. -/
namespace Go.Proofs.YtcnkfkjgpdmebaaGreatDoor
open Go.RowKit Go.Shelf

set_option maxRecDepth 10000 in
set_option maxHeartbeats 4000000 in
theorem m_isterm_case0 (t : Tm) (hn : noTerm t = false) (hF : fitsM t = true) (h8 : (t.kind == 8) = true) (hk : ¬ 2 ≤ t.kids.length) : IsT t := by
  intro w ht hf
  have X0 : Hid (Ext w (w.alloc (.cells #[.int .i64 t.kind, .int .i64 t.n, encStr t.name, .slice t.V t.vars.length t.vc, .slice t.T t.types.length t.tc, .slice t.A t.kids.length t.cap] 40))) := hide ((Ext.refl w).alloc _)
  have HF := hide (fun w' (e : Ext w w') => hide (m_fits t w' (ht.ext e) hf.ty hf.tys))
  have B1 : Hid (TmBox (w.alloc (.cells #[.int .i64 t.kind, .int .i64 t.n, encStr t.name, .slice t.V t.vars.length t.vc, .slice t.T t.types.length t.tc, .slice t.A t.kids.length t.cap] 40)) w.heap.size t) := hide (TmBox.new w t)
  obtain ⟨h21, h9, h11⟩ := noTerm_parts hn
  have hR := fit_eq hF hn
  rw [if_pos (by simpa using h8), decide_eq_false hk, Bool.false_and, Bool.false_and] at hR
  have hkl := ht.hd.le
  have hkm := ht.hd.max
  dsimp only
  rw [hR]
  rw [hF] at HF
  have hn' : ¬ (t.kids.length : Int) ≥ 2 := by omega
  clear ht hf hn hF hR hk
  obtain ⟨c0, -, -, -, -, -⟩ := B1.out.cells
  unfold tmV at *
  go_enter Tryz.func70, Tryz.ntmps70
  go_wp2_with fail
  refine (HF.out _ X0.out).out.mono ?_
  rintro e w2 ⟨rfl, hx⟩
  have X2 := hide hx
  obtain ⟨d0, -, -, -, -, d5⟩ := (B1.out.ext X2.out).cells
  clear hx
  go_wp2
  go_ret
  exact ⟨rfl, X0.out.trans X2.out⟩

set_option maxRecDepth 10000 in
set_option maxHeartbeats 8000000 in
theorem m_isterm_case (t : Tm) (hn : noTerm t = false) (hF : fitsM t = true) (h8 : (t.kind == 8) = true) (hk : 2 ≤ t.kids.length) (HI : ∀ k ∈ t.kids, IsT k) (HI2 : ∀ k ∈ t.kids, ∀ x ∈ k.kids, IsT x) : IsT t := by
  intro w ht hf
  have X0 : Hid (Ext w (w.alloc (.cells #[.int .i64 t.kind, .int .i64 t.n, encStr t.name, .slice t.V t.vars.length t.vc, .slice t.T t.types.length t.tc, .slice t.A t.kids.length t.cap] 40))) := hide ((Ext.refl w).alloc _)
  have HF := hide (fun w' (e : Ext w w') => hide (m_fits t w' (ht.ext e) hf.ty hf.tys))
  have B1 : Hid (TmBox (w.alloc (.cells #[.int .i64 t.kind, .int .i64 t.n, encStr t.name, .slice t.V t.vars.length t.vc, .slice t.T t.types.length t.tc, .slice t.A t.kids.length t.cap] 40)) w.heap.size t) := hide (TmBox.new w t)
  obtain ⟨h21, h9, h11⟩ := noTerm_parts hn
  have HK := hide ht.all
  have Hf := hide hf
  have hl0 : 0 < t.kids.length := by omega
  have hR := fit_eq hF hn
  rw [if_pos (by simpa using h8), decide_eq_true hk, Bool.true_and, tb_at t hl0] at hR
  have hkl := ht.hd.le
  have hkm := ht.hd.max
  have hn' : (t.kids.length : Int) ≥ 2 := by omega
  have HC0 := hide (fun w' (e : Ext w w') => hide (HI _ (List.getElem_mem hl0) w' ((HK.out.kids _ (List.getElem_mem hl0)).ext e) (Hf.out.kids _ (List.getElem_mem hl0))))
  have HA := hide (fun w' (e : Ext w w') => hide (has_fm 113 #[] misterm1_opens (fun k => !k.tb.alt) _ (t.cap - 1) (t.kids.drop 1) w' ((HK.out.cut (k := 1) (cap := t.cap) (by omega) hkl).ext e) (by rw [List.length_drop]; have := Hf.out.kl; omega) (fun w'' e2 x hx => m_isterm1 x (HI2 x (List.mem_of_mem_drop hx)) w'' ((HK.out.kids x (List.mem_of_mem_drop hx)).ext (e.trans e2)) (Hf.out.kids x (List.mem_of_mem_drop hx)))))
  rw [any_not, List.length_drop, if_neg (show ¬ t.cap = 1 by omega)] at HA
  obtain ⟨b, o, hA, hb, q0, q1, q2, q3, q4, q5⟩ := first_kid (HK.out.ext X0.out) hl0
  rw [hA] at HA
  have HRr := hide hR
  have HQ := hide (fun w' (e : Ext w w') => first_kid (HK.out.ext e) hl0)
  have HAd := hide hA
  dsimp only
  rw [hF] at HF
  clear hR hn q0 q1 q2 q3 q4 q5 hb ht hf hF HI HI2 hk HK Hf hA
  generalize t.kids[0]'hl0 = x at *
  generalize ((t.kids.drop 1).all fun k => k.tb.alt) = RA at *
  try dsimp only at HC0
  generalize x.tb.term = RT at *
  generalize t.tb.term = R at *
  have HRr := HRr.out
  subst HRr
  obtain ⟨c0, -, -, -, -, -⟩ := B1.out.cells
  unfold tmV at *
  go_enter Tryz.func70, Tryz.ntmps70
  go_wp2_with fail
  refine (HF.out _ X0.out).out.mono ?_
  rintro e w2 ⟨rfl, hx⟩
  have X2 := hide hx
  obtain ⟨d0, -, -, -, -, d5⟩ := (B1.out.ext X2.out).cells
  obtain ⟨b', o', hA', hb, q0, q1, q2, q3, q4, q5⟩ := HQ.out _ (X0.out.trans X2.out)
  have hA := HAd.out
  rw [hA] at hA'
  injection hA' with hA'
  injection hA' with e1 e2
  subst e1 e2
  rw [hA] at d5
  clear hx hA
  go_wp2_with fail
  refine (HC0.out _ (X0.out.trans X2.out)).out.mono ?_
  rintro e w3 ⟨rfl, hx⟩
  have X3 := hide (X2.out.trans hx)
  clear hx q0 q1 q2 q3 q4 q5 d5 d0
  cases RT
  · go_wp2
    go_ret
    exact ⟨rfl, X0.out.trans X3.out⟩
  · obtain ⟨-, -, -, -, -, d5⟩ := (B1.out.ext X3.out).cells
    rw [HAd.out] at d5
    have hc1 : ¬ t.cap = 1 := by omega
    have hs1 : (1 : Int) ≤ (t.kids.length : Int) := by omega
    have hs2 : (t.kids.length : Int) ≤ (t.cap : Int) := by omega
    have hs3 : (1 : Int) ≤ (t.cap : Int) := by omega
    have hs5 : 1 ≤ t.cap := by omega
    have hs6 : (0 : Int) < (t.kids.length : Int) := by omega
    go_wp2_with fail
    refine (HA.out _ (X0.out.trans X3.out)).out.mono ?_
    rintro e w4 ⟨rfl, hx⟩
    go_wp2
    go_ret
    exact ⟨by simp, X0.out.trans (X3.out.trans hx)⟩

end Go.Proofs.YtcnkfkjgpdmebaaGreatDoor

/- Contract: whether a TermLet is a term. -/
namespace Go.Proofs.YtcnkfkjgpdmebaaGreatDoor
open Go.RowKit Go.Shelf

set_option maxRecDepth 10000 in
set_option maxHeartbeats 4000000 in
theorem m_isterm_let0 (t : Tm) (hn : noTerm t = false) (hF : fitsM t = true) (h8 : (t.kind == 8) = false) (h10 : (t.kind == 10) = true) (hk : ¬ 1 ≤ t.kids.length) : IsT t := by
  intro w ht hf
  have X0 : Hid (Ext w (w.alloc (.cells #[.int .i64 t.kind, .int .i64 t.n, encStr t.name, .slice t.V t.vars.length t.vc, .slice t.T t.types.length t.tc, .slice t.A t.kids.length t.cap] 40))) := hide ((Ext.refl w).alloc _)
  have HF := hide (fun w' (e : Ext w w') => hide (m_fits t w' (ht.ext e) hf.ty hf.tys))
  have B1 : Hid (TmBox (w.alloc (.cells #[.int .i64 t.kind, .int .i64 t.n, encStr t.name, .slice t.V t.vars.length t.vc, .slice t.T t.types.length t.tc, .slice t.A t.kids.length t.cap] 40)) w.heap.size t) := hide (TmBox.new w t)
  obtain ⟨h21, h9, h11⟩ := noTerm_parts hn
  have hR := fit_eq hF hn
  rw [if_neg (by simpa using h8), if_pos (by simpa using h10), decide_eq_false hk, Bool.false_and, Bool.false_and] at hR
  have hkl := ht.hd.le
  have hkm := ht.hd.max
  dsimp only
  rw [hR]
  rw [hF] at HF
  have hn' : ¬ (t.kids.length : Int) ≥ 1 := by omega
  clear ht hf hn hF hR hk
  obtain ⟨c0, -, -, -, -, -⟩ := B1.out.cells
  unfold tmV at *
  go_enter Tryz.func70, Tryz.ntmps70
  go_wp2_with fail
  refine (HF.out _ X0.out).out.mono ?_
  rintro e w2 ⟨rfl, hx⟩
  have X2 := hide hx
  obtain ⟨d0, -, -, -, -, d5⟩ := (B1.out.ext X2.out).cells
  clear hx
  go_wp2
  go_ret
  exact ⟨rfl, X0.out.trans X2.out⟩

set_option maxRecDepth 10000 in
set_option maxHeartbeats 8000000 in
theorem m_isterm_let (t : Tm) (hn : noTerm t = false) (hF : fitsM t = true) (h8 : (t.kind == 8) = false) (h10 : (t.kind == 10) = true) (hk : 1 ≤ t.kids.length) (HI : ∀ k ∈ t.kids, IsT k) (HI2 : ∀ k ∈ t.kids, ∀ x ∈ k.kids, IsT x) : IsT t := by
  intro w ht hf
  have X0 : Hid (Ext w (w.alloc (.cells #[.int .i64 t.kind, .int .i64 t.n, encStr t.name, .slice t.V t.vars.length t.vc, .slice t.T t.types.length t.tc, .slice t.A t.kids.length t.cap] 40))) := hide ((Ext.refl w).alloc _)
  have HF := hide (fun w' (e : Ext w w') => hide (m_fits t w' (ht.ext e) hf.ty hf.tys))
  have B1 : Hid (TmBox (w.alloc (.cells #[.int .i64 t.kind, .int .i64 t.n, encStr t.name, .slice t.V t.vars.length t.vc, .slice t.T t.types.length t.tc, .slice t.A t.kids.length t.cap] 40)) w.heap.size t) := hide (TmBox.new w t)
  obtain ⟨h21, h9, h11⟩ := noTerm_parts hn
  have HK := hide ht.all
  have Hf := hide hf
  have hl0 : t.kids.length - 1 < t.kids.length := by omega
  have hR := fit_eq hF hn
  rw [if_neg (by simpa using h8), if_pos (by simpa using h10), decide_eq_true hk, Bool.true_and, tb_at t hl0] at hR
  have hkl := ht.hd.le
  have hkm := ht.hd.max
  have hn' : (t.kids.length : Int) ≥ 1 := by omega
  have HC0 := hide (fun w' (e : Ext w w') => hide (HI _ (List.getElem_mem hl0) w' ((HK.out.kids _ (List.getElem_mem hl0)).ext e) (Hf.out.kids _ (List.getElem_mem hl0))))
  have HA := hide (fun w' (e : Ext w w') => hide (has_fm 115 #[] misterm2_opens (fun k => !k.tb.bind) t.A t.cap (t.kids.take (t.kids.length - 1)) w' ((HK.out.take (k := t.kids.length - 1) (by omega)).ext e) (by rw [List.length_take]; have := Hf.out.kl; omega) (fun w'' e2 x hx => m_isterm2 x (HI2 x (List.mem_of_mem_take hx)) w'' ((HK.out.kids x (List.mem_of_mem_take hx)).ext (e.trans e2)) (Hf.out.kids x (List.mem_of_mem_take hx)))))
  rw [any_not, List.length_take, Nat.min_eq_left (by omega)] at HA
  have HQ := hide (fun w' (e : Ext w w') => (HK.out.ext e).at_ hl0)
  obtain ⟨b, o, hA, hb, q0, q1, q2, q3, q4, q5⟩ := HQ.out _ X0.out
  have HRr := hide hR
  have HAd := hide hA
  rw [hA] at HA
  dsimp only
  rw [hF] at HF
  clear hR hn q0 q1 q2 q3 q4 q5 hb ht hf hF HI HI2 HK Hf hA
  generalize t.kids[t.kids.length - 1]'hl0 = x at *
  generalize ((t.kids.take (t.kids.length - 1)).all fun k => k.tb.bind) = RA at *
  try dsimp only at HC0
  generalize x.tb.term = RT at *
  generalize t.tb.term = R at *
  have HRr := HRr.out
  subst HRr
  obtain ⟨c0, -, -, -, -, -⟩ := B1.out.cells
  obtain ⟨m, hm⟩ : ∃ m, t.kids.length = m + 1 := ⟨t.kids.length - 1, by omega⟩
  have hm1 : t.kids.length - 1 = m := by omega
  rw [hm1] at HQ HA
  have hmI : (t.kids.length : Int) - 1 = (m : Int) := by omega
  have hmk : m ≤ t.cap := by omega
  clear hm hm1
  unfold tmV at *
  go_enter Tryz.func70, Tryz.ntmps70
  go_wp2_with fail
  refine (HF.out _ X0.out).out.mono ?_
  rintro e w2 ⟨rfl, hx⟩
  have X2 := hide hx
  obtain ⟨d0, -, -, -, -, d5⟩ := (B1.out.ext X2.out).cells
  obtain ⟨b', o', hA', hb, q0, q1, q2, q3, q4, q5⟩ := HQ.out _ (X0.out.trans X2.out)
  have hA := HAd.out
  rw [hA] at hA'
  injection hA' with hA'
  injection hA' with e1 e2
  subst e1 e2
  rw [hA] at d5
  clear hx hA
  go_wp2_with fail
  refine (HC0.out _ (X0.out.trans X2.out)).out.mono ?_
  rintro e w3 ⟨rfl, hx⟩
  have X3 := hide (X2.out.trans hx)
  clear hx q0 q1 q2 q3 q4 q5 d5 d0
  cases RT
  · go_wp2
    go_ret
    exact ⟨rfl, X0.out.trans X3.out⟩
  · obtain ⟨-, -, -, -, -, d5⟩ := (B1.out.ext X3.out).cells
    rw [HAd.out] at d5
    have hs2 : (m : Int) ≤ (t.cap : Int) := by omega
    have hs3 : (0 : Int) ≤ (m : Int) := by omega
    have hs4 : (0 : Int) ≤ (t.cap : Int) := by omega
    go_wp2_with fail
    refine (HA.out _ (X0.out.trans X3.out)).out.mono ?_
    rintro e w4 ⟨rfl, hx⟩
    go_wp2
    go_ret
    exact ⟨by simp, X0.out.trans (X3.out.trans hx)⟩

end Go.Proofs.YtcnkfkjgpdmebaaGreatDoor

/- Contract: whether a term is one, however great. -/
namespace Go.Proofs.YtcnkfkjgpdmebaaGreatDoor
open Go.RowKit Go.Shelf

theorem m_isterm_n (n : Nat) : ∀ t : Tm, t.size ≤ n → IsT t := by
  induction n with
  | zero => intro t h; have := t.size_pos; omega
  | succ n ih =>
  intro t hsz
  have HI : ∀ k ∈ t.kids, IsT k := fun k hk => ih k (by have := Tm.size_kid hk; omega)
  have HI2 : ∀ k ∈ t.kids, ∀ x ∈ k.kids, IsT x := fun k hk x hx => ih x (by have := Tm.size_kid hk; have := Tm.size_kid hx; omega)
  cases hn : noTerm t
  rotate_left
  · exact m_isterm_no t hn
  cases hF : fitsM t
  · exact m_isterm_unfit t hn hF
  cases h8 : (t.kind == 8)
  · cases h10 : (t.kind == 10)
    · exact m_isterm_else t hn hF h8 h10 HI
    · by_cases hk : 1 ≤ t.kids.length
      · exact m_isterm_let t hn hF h8 h10 hk HI HI2
      · exact m_isterm_let0 t hn hF h8 h10 hk
  · by_cases hk : 2 ≤ t.kids.length
    · exact m_isterm_case t hn hF h8 hk HI HI2
    · exact m_isterm_case0 t hn hF h8 hk
theorem m_isterm (t : Tm) : IsT t := m_isterm_n t.size t (Nat.le_refl _)

end Go.Proofs.YtcnkfkjgpdmebaaGreatDoor

/- A range over a method value: the law for a loop whose iterator is bound to its receiver. No program in sight. -/
namespace Go.Proofs.YtcnkfkjgpdmebaaGreatDoor
open Go.RowKit

/-- What a loop's own book-keeping, in blocks from B on, leaves as it was. -/
structure Book {α : Type} (B : Nat) (I : List α → World → Prop) : Prop where
  alloc : ∀ s W o, I s W → I s (W.alloc o)
  put : ∀ s W l o o', I s W → B ≤ l → W.heap[l]? = some o → o.isCells = false → I s (W.putObj l o')
/-- How a round may end. -/
def roundEnd {α : Type} (Kp : World → World → Prop) (I Ix : List α → World → Prop) (xs : List α) (W : World) : Exit → Act → World → Prop
  | .normal, _, W' => KeepsOthers W W' ∧ Kp W W' ∧ I xs W'
  | .ret, _, W' => KeepsOthers W W' ∧ Ix xs W'
  | _, _, _ => False

theorem range_bound {F : Fence} {n : Nat} {P : Program} {α : Type} {g : Operand} {ps : Array Tmp} {assign body : Code} {Q : Exit → Act → World → Prop} {a : Act} {w : World}
    (hro : F.round = none) (h1 : 1 ≤ n) {gf : Nat} {ba : Array Value} (hg : a.eval g = .func (.func gf) ba #[]) (hFg : F.fn gf) (eg : ∀ args w, (callFunc gf args).run P w = .ok (.enter gf args) w)
    {encs : α → Array Value} {Kp : World → World → Prop} {S Sp : List α → Prop} {N : Nat}
    (hseq : ∀ (l : Nat) (J Jx : List α → World → Prop) (W : World), Below w.heap.size w W → (∀ s W o, J s W → J s (W.alloc o)) →
      (∀ pre x W1, J pre W1 → pre.length < N → YieldAt F (n - 1 - 1) P l (encs x) W1 fun e W' => (e = .returned (.bool true) ∧ J (pre ++ [x]) W' ∧ Kp W1 W') ∨ (e = .returned (.bool false) ∧ Jx (pre ++ [x]) W')) → J [] W →
      CallsIn F (n - 1) P gf (ba ++ #[.func (.yield l) #[] #[]]) W fun e W' => (∃ v, e = .returned v) ∧ ((∃ xs, S xs ∧ J xs W') ∨ (∃ pre, Sp pre ∧ Jx pre W')))
    (hKt : ∀ {A B C : World}, Kp A B → Kp B C → Kp A C) (hKb : ∀ (W : World) (l : Nat) (o o' : Obj), w.heap.size ≤ l → W.heap[l]? = some o → o.isCells = false → Kp W (W.putObj l o')) (hps : ∀ x, (encs x).size = ps.size)
    (I Ix : List α → World → Prop) (hI : Book w.heap.size I) (hIx : Book w.heap.size Ix) (h0 : I [] w) (a₁ : α → Act)
    (hassign : ∀ (l : Nat) (x : α) (W : World) (K : Act → World → Prop), K (a₁ x) W →
      assign.wpIn (F.inRound l) (n - 1 - 1) P (Exit.then K (fun _ _ _ => False)) { tmps := (ps.zip (encs x)).foldl (fun t (p, v) => t.setIfInBounds p v) a.tmps, defers := [] } W)
    (hbody : ∀ (l : Nat) (pre : List α) (x : α) (W : World), I pre W → pre.length < N → body.wpIn (F.inRound l) (n - 1 - 1) P (roundEnd Kp I Ix (pre ++ [x]) W) (a₁ x) W)
    (hdone : ∀ (D : Nat) (xs : List α) (W : World), w.heap.size ≤ D → S xs → I xs W → W.heap[D]? = some (.deferred (some [])) → Q .normal { a with defers := { target := .collected D, args := #[] } :: a.defers } W)
    (hstop : ∀ (D : Nat) (pre : List α) (W : World), w.heap.size ≤ D → Sp pre → Ix pre W → W.heap[D]? = some (.deferred (some [])) → Code.ret.wpIn F n P Q { a with defers := { target := .collected D, args := #[] } :: a.defers } W) :
    (Code.rangeFunc g ps assign body).wpIn F n P Q a w := by
  refine wpIn_rangeFunc fun fn hfn => ?_
  rw [hro]
  -- the loop's object, in each of its states
  let L : LoopState → Option Code → Obj := fun st pe => .loop { state := st, pending := pe, fn, tmps := a.tmps, params := ps, assign, body, defers := w.heap.size }
  obtain ⟨V, hV⟩ : ∃ V, V = (w.alloc (.deferred (some []))).alloc (L .ready none) := ⟨_, rfl⟩
  have vL : V.heap[w.heap.size + 1]? = some (L .ready none) := by
    rw [hV]; have := World.alloc_heap_new (w.alloc (.deferred (some []))) (L .ready none); rwa [World.size_alloc] at this
  have vD : V.heap[w.heap.size]? = some (.deferred (some [])) := by
    rw [hV]; exact (Below.heap_alloc _ _ _ (by simp)).trans (World.alloc_heap_new w _)
  have vI : I [] V := by rw [hV]; exact hI.alloc _ _ _ (hI.alloc _ _ _ h0)
  have vB : Below w.heap.size w V := by rw [hV]; exact ((Below.refl _ w).alloc (Nat.le_refl _) _).alloc (by simp) _
  have old : ∀ {W : World} {j : Nat} {o : Obj} (o' : Obj), W.heap[j]? = some o → (W.alloc o').heap[j]? = some o := fun o' h => (Below.heap_alloc _ _ _ (Array.getElem?_eq_some_iff.1 h).1).trans h
  refine ⟨w.heap.size + 1, [{ target := .collected w.heap.size, args := #[] }], V, { target := .fn (.func gf) #[], args := ba ++ #[.func (.yield (w.heap.size + 1)) #[] #[]] }, V, gf, ba ++ #[.func (.yield (w.heap.size + 1)) #[] #[]], V, ?_, ?_, ?_, ?_, fun _ => h1, ?_⟩
  · rw [hV]; exact run_enterLoop_outer _ _ _ _ _
  · simp only [resolve, hg]
    simp [go_sem]
  · intro f' hf'; simp [Target.leads] at hf'; subst hf'; exact hFg
  · simp [invoke, go_sem, eg]
  refine (hseq (w.heap.size + 1) (fun pre W => I pre W ∧ W.heap[w.heap.size + 1]? = some (L .ready none) ∧ W.heap[w.heap.size]? = some (.deferred (some [])))
    (fun pre W => Ix pre W ∧ W.heap[w.heap.size + 1]? = some (L .done (some .ret)) ∧ W.heap[w.heap.size]? = some (.deferred (some []))) V vB
    (fun s W o h => ⟨hI.alloc _ _ _ h.1, old o h.2.1, old o h.2.2⟩) ?_ ⟨vI, vL, vD⟩).mono ?_
  · -- a round
    rintro pre x W ⟨hi, hl, hk⟩ hlen
    refine ⟨fn, _, assign, body, run_yield (P := P) (args := encs x) hl (hps x), roundIn_of_wpIn hfn (hassign _ x W _ ⟨_, run_beginRound hl rfl, ?_⟩)⟩
    have hB : (W.putObj (w.heap.size + 1) (L .busy none)).heap[w.heap.size + 1]? = some (L .busy none) := World.putObj_heap_same (Array.getElem?_eq_some_iff.1 hl).1
    have hD : (W.putObj (w.heap.size + 1) (L .busy none)).heap[w.heap.size]? = some (.deferred (some [])) := (World.putObj_heap_other (by omega)).trans hk
    have ends : ∀ (jump : Option Code) (W3 : World), KeepsOthers (W.putObj (w.heap.size + 1) (L .busy none)) W3 → W3.heap[w.heap.size + 1]? = some (L .busy none) ∧
        (Instr.endRound (w.heap.size + 1) jump).run P W3 = .ok (.bool jump.isNone) (W3.putObj (w.heap.size + 1) (L (if jump.isNone then .ready else .done) jump)) ∧
        (W3.putObj (w.heap.size + 1) (L (if jump.isNone then .ready else .done) jump)).heap[w.heap.size + 1]? = some (L (if jump.isNone then .ready else .done) jump) ∧
        (W3.putObj (w.heap.size + 1) (L (if jump.isNone then .ready else .done) jump)).heap[w.heap.size]? = some (.deferred (some [])) := fun jump W3 hk3 => by
      have h3 := hk3.same _ _ hB rfl
      exact ⟨h3, run_endRound (P := P) jump h3, World.putObj_heap_same (Array.getElem?_eq_some_iff.1 h3).1, (World.putObj_heap_other (by omega)).trans (hk3.same _ _ hD rfl)⟩
    refine wpIn_mono (hbody _ pre x _ (hI.put _ _ _ _ _ hi (by omega) hl rfl) hlen) ?_
    intro e a3 W3 hp
    cases e with
    | normal =>
      obtain ⟨hk3, hkp, hi3⟩ := hp
      obtain ⟨g1, g2, g3, g4⟩ := ends none W3 hk3
      exact ⟨_, _, g2, .inl ⟨rfl, ⟨hI.put _ _ _ _ _ hi3 (by omega) g1 rfl, g3, g4⟩, hKt (hKt (hKb _ _ _ _ (by omega) hl rfl) hkp) (hKb _ _ _ _ (by omega) g1 rfl)⟩⟩
    | ret =>
      obtain ⟨hk3, hi3⟩ := hp
      obtain ⟨g1, g2, g3, g4⟩ := ends (some .ret) W3 hk3
      exact ⟨_, _, g2, .inr ⟨rfl, hIx.put _ _ _ _ _ hi3 (by omega) g1 rfl, g3, g4⟩⟩
    | exit id => exact hp.elim
    | goto t => exact hp.elim
    | panic ch => exact hp.elim
    | outgrown => exact hp.elim
  · -- behind the iterator
    rintro e W2 ⟨⟨v, rfl⟩, (⟨xs, hS, hi, hl, hk⟩ | ⟨pre, hSp, hi, hl, hk⟩)⟩
    · exact ⟨none, _, run_endLoop (P := P) hl (by simp), hdone _ xs _ (Nat.le_refl _) hS (hI.put _ _ _ _ _ hi (by omega) hl rfl) ((World.putObj_heap_other (by omega)).trans hk)⟩
    · exact ⟨some .ret, _, run_endLoop (P := P) hl (by simp), hstop _ pre _ (Nat.le_refl _) hSp (hIx.put _ _ _ _ _ hi (by omega) hl rfl) ((World.putObj_heap_other (by omega)).trans hk)⟩

end Go.Proofs.YtcnkfkjgpdmebaaGreatDoor

/- Contract: the walk over a term's parts, each with its level, as a range over a function asks it. -/
namespace Go.Proofs.YtcnkfkjgpdmebaaGreatDoor
open Go.RowKit Go.Shelf

attribute [local go_sem] Oper.semAt_some

/-- All parts, each with its level. -/
noncomputable def Tm.lev : Tm → Nat → List (Nat × Tm) := Tm.fold fun t l d => (d, t) :: (l.map fun f => f (d + 1)).flatten
noncomputable def mlevs (l : List Tm) (d : Nat) : List (Nat × Tm) := (l.map fun k => k.lev d).flatten
theorem mlev_eq (t : Tm) (d : Nat) : t.lev d = (d, t) :: mlevs t.kids (d + 1) := by
  unfold Tm.lev
  rw [Tm.fold_eq]
  simp only [mlevs, List.map_map]
  rfl
theorem mlevs_take (l : List Tm) (d : Nat) {k : Nat} (h : k < l.length) : mlevs (l.take (k + 1)) d = mlevs (l.take k) d ++ (l[k]'h).lev d := by
  unfold mlevs
  rw [List.take_succ_eq_append_getElem h, List.map_append, List.flatten_append]
  congr 1
  simp
theorem mlevs_split (l : List Tm) (d k : Nat) : mlevs l d = mlevs (l.take k) d ++ mlevs (l.drop k) d := by
  unfold mlevs
  rw [← List.flatten_append, ← List.map_append, List.take_append_drop]
theorem mlev_low (c : Nat) : ∀ (t : Tm) (d : Nat), (∀ p ∈ t.lev d, p.1 ≤ c) ↔ d + t.depth ≤ c + 1 := by
  intro t
  induction t using Tm.ind with
  | h t ih =>
  intro d
  rw [mlev_eq, Tm.depth_eq]
  have hmax : ∀ (l : List Nat) (m : Nat), l.foldr max 0 ≤ m ↔ ∀ x ∈ l, x ≤ m := by
    intro l m
    induction l with
    | nil => simp
    | cons x l ih => simp only [List.foldr_cons, List.mem_cons, forall_eq_or_imp]; rw [← ih]; omega
  have hk : (∀ p ∈ mlevs t.kids (d + 1), p.1 ≤ c) ↔ ∀ k ∈ t.kids, d + 1 + k.depth ≤ c + 1 := by
    unfold mlevs
    constructor
    · intro h k hk
      exact (ih k hk (d + 1)).1 (fun p hp => h p (List.mem_flatten.2 ⟨_, List.mem_map.2 ⟨k, hk, rfl⟩, hp⟩))
    · intro h p hp
      obtain ⟨_, hl, hp⟩ := List.mem_flatten.1 hp
      obtain ⟨k, hk, rfl⟩ := List.mem_map.1 hl
      exact (ih k hk (d + 1)).2 (h k hk) p hp
  simp only [List.mem_cons, forall_eq_or_imp]
  rw [hk]
  constructor
  · rintro ⟨h1, h2⟩
    have : (t.kids.map Tm.depth).foldr max 0 ≤ c - d := (hmax _ _).2 (fun x hx => by
      obtain ⟨k, hk, rfl⟩ := List.mem_map.1 hx
      have := h2 k hk
      omega)
    omega
  · intro h
    refine ⟨by omega, fun k hk => ?_⟩
    have := (hmax (t.kids.map Tm.depth) ((t.kids.map Tm.depth).foldr max 0)).1 (Nat.le_refl _) k.depth (List.mem_map.2 ⟨k, hk, rfl⟩)
    omega
theorem mlev_len (t : Tm) : ∀ d, (t.lev d).length = t.size := by
  induction t using Tm.ind with
  | h t ih =>
  intro d
  rw [mlev_eq, Tm.size_eq, List.length_cons]
  congr 1
  unfold mlevs
  rw [List.length_flatten, List.map_map]
  congr 1
  exact List.map_congr_left (fun k hk => ih k hk (d + 1))

section
variable {n₀ R : Nat} {A B C : World}
theorem Kc.tmbox (h : Kc n₀ R A B) {b : Nat} {t : Tm} (k : TmBox A b t) (hb : b ≠ R) : TmBox B b t := h.cells b _ hb k rfl
end

set_option maxRecDepth 10000 in
set_option maxHeartbeats 2000000 in
theorem m_each_in (F : Fence) (hd : F.depth = none) (h6 : F.fn 157) (hro : F.round = none) (l n₀ R N : Nat) (w0 : World) (hw0 : n₀ = w0.heap.size) (J Jx : List (Nat × Tm) → World → Prop)
    (hJa : ∀ pre W o, J pre W → J pre (W.alloc o))
    (hY : ∀ m pre x W, J pre W → pre.length < N → YieldAt F m Tryz.prog l #[.int .i64 ((x : Nat × Tm).1 : Nat), tmV x.2] W fun e W' =>
      (e = .returned (.bool true) ∧ J (pre ++ [x]) W' ∧ Kc n₀ R W W') ∨ (e = .returned (.bool false) ∧ Jx (pre ++ [x]) W')) (t : Tm) :
    ∀ (n d : Nat) (pre : List (Nat × Tm)) (W : World), TmIn w0 t → Below n₀ w0 W → R < W.heap.size → J pre W → d + t.size ≤ 1000000 → pre.length + (t.lev d).length ≤ N →
      CallsIn F n Tryz.prog 157 #[tmV t, .int .i64 d, .func (.yield l) #[] #[]] W fun e W' =>
        (e = .returned (.bool true) ∧ J (pre ++ t.lev d) W' ∧ Kc n₀ R W W') ∨ (e = .returned (.bool false) ∧ ∃ q, q <+: t.lev d ∧ Jx (pre ++ q) W') := by
  induction t using Tm.ind with
  | h t ih =>
  intro n d pre W ht hB hRW hJ hsz hN
  have IH := hide ih
  have hdd : ∀ k : Nat, (F.depth.isSome = true → 1 ≤ k) := fun k h => by rw [hd] at h; cases h
  have hlv := mlev_eq t d
  have hn0 : n₀ ≤ W.heap.size := by have := hB.size; omega
  have HB0 : Hid (TmBox (W.alloc (.cells #[.int .i64 t.kind, .int .i64 t.n, encStr t.name, .slice t.V t.vars.length t.vc, .slice t.T t.types.length t.tc, .slice t.A t.kids.length t.cap] 40)) W.heap.size t) := hide (at_newB _ _ _ rfl)
  have K0 : Hid (Kc n₀ R W (W.alloc (.cells #[.int .i64 t.kind, .int .i64 t.n, encStr t.name, .slice t.V t.vars.length t.vc, .slice t.T t.types.length t.tc, .slice t.A t.kids.length t.cap] 40))) := hide ((Kc.refl _ _ _).alloc hn0 _)
  have hJ1 := hJa pre W (.cells #[.int .i64 t.kind, .int .i64 t.n, encStr t.name, .slice t.V t.vars.length t.vc, .slice t.T t.types.length t.tc, .slice t.A t.kids.length t.cap] 40) hJ
  obtain ⟨fn, tmps, assign, body, hy, hR⟩ := hY (n - 1) pre (d, t) _ hJ1 (by rw [hlv] at hN; simp at hN; omega)
  have HT := hide ht
  have HBw := hide hB
  have HR := hide hR
  clear ih hB hR hJ hJ1
  unfold tmV
  unfold tmV at hy
  have hle := ht.hd.le
  have hmx := ht.hd.max
  have HK := hide ht.all
  dsimp only at hy
  generalize hA0 : t.A = A0 at *
  have HA0 := hide hA0
  clear hA0 ht
  refine callsIn_of_wp Tryz.func157 rfl h6 ?_ hro
  simp only [Tryz.ntmps157, List.size_toArray, List.length_cons, List.length_nil, Nat.reduceAdd, Nat.reduceSub, Array.replicate_succ, Array.replicate_zero, List.push_toArray, List.append_toArray, List.nil_append, List.cons_append]
  gi_wp2
  refine HR.out.mono ?_
  rintro e W2 (⟨rfl, hJ2, hk2⟩ | ⟨rfl, hJx2⟩)
  · have K2 := hide (K0.out.trans hk2)
    have HB2 := hide (hk2.tmbox HB0.out (by omega))
    have HJ2 := hide hJ2
    have HJa := hide hJa
    have hc4 := HB2.out.cells.2.2.2.2.2
    rw [HA0.out] at hc4
    have HLT := hide (fun k (hk : k < t.kids.length) => mlevs_take t.kids (d + 1) hk)
    have HLS := hide (fun k => mlevs_split t.kids (d + 1) k)
    have Hlv := hide hlv
    have HNl := hide hN
    have Hsz := hide (fun k (hk : k ∈ t.kids) => Tm.size_kid hk)
    have hW2 : W.heap.size < W2.heap.size := HB2.out.lt
    clear hJ2 hk2 hlv hJa hN HR hY
    gi_wp2
    gi_loopw [17] (fun i wr => ∃ k : Nat, k ≤ t.kids.length ∧ i = .int .i64 k ∧ Hid (J (pre ++ (d, t) :: mlevs (t.kids.take k) (d + 1)) wr) ∧ Hid (Kc n₀ R W2 wr)) (fun i _ => t.kids.length - (intOf i).toNat)
    case atStart => exact ⟨0, Nat.zero_le _, rfl, hide (by simpa [mlevs] using HJ2.out), hide (Kc.refl _ _ _)⟩
    case round =>
      obtain ⟨k, hk, rfl, HJ, HKc⟩ := hrel
      have HB3 := hide (HKc.out.tmbox HB2.out (by omega))
      by_cases hlt : k < t.kids.length
      · have hlt' : (k : Int) < (t.kids.length : Int) := by omega
        have HKw : Hid (Below n₀ w0 wr) := hide ((HBw.out.trans K2.out.below).trans HKc.out.below)
        obtain ⟨b, o, rfl, hb, q0, q1, q2, q3, q4, q5⟩ := (HK.out.old (hw0 ▸ HKw.out)).at_ hlt
        have hck := List.getElem_mem hlt
        have hcs := Hsz.out _ hck
        have Hst := hide (HLT.out k hlt)
        have HsN : pre.length + (mlevs (t.kids.take k) (d + 1)).length + 1 + ((t.kids[k]'hlt).lev (d + 1)).length ≤ N := by
          have h1 := HNl.out
          have h2 := congrArg List.length (HLS.out (k + 1))
          rw [Hlv.out] at h1
          rw [Hst.out] at h2
          simp only [List.length_cons, List.length_append] at h1 h2
          omega
        have HC := hide (IH.out _ hck (n - 1) (d + 1) _ (wr.alloc (.cells #[.int .i64 (t.kids[k]'hlt).kind, .int .i64 (t.kids[k]'hlt).n, encStr (t.kids[k]'hlt).name, .slice (t.kids[k]'hlt).V (t.kids[k]'hlt).vars.length (t.kids[k]'hlt).vc, .slice (t.kids[k]'hlt).T (t.kids[k]'hlt).types.length (t.kids[k]'hlt).tc, .slice (t.kids[k]'hlt).A (t.kids[k]'hlt).kids.length (t.kids[k]'hlt).cap] 40))
          (HK.out.kids _ hck) (HKw.out.alloc (by have := HKw.out.size; omega) _) (by have := HKc.out.size; simp; omega) (HJa.out _ _ _ HJ.out) (by omega) (by simp only [List.length_append, List.length_cons]; omega))
        have HAl : Hid (Kc n₀ R W2 (wr.alloc (.cells #[.int .i64 (t.kids[k]'hlt).kind, .int .i64 (t.kids[k]'hlt).n, encStr (t.kids[k]'hlt).name, .slice (t.kids[k]'hlt).V (t.kids[k]'hlt).vars.length (t.kids[k]'hlt).vc, .slice (t.kids[k]'hlt).T (t.kids[k]'hlt).types.length (t.kids[k]'hlt).tc, .slice (t.kids[k]'hlt).A (t.kids[k]'hlt).kids.length (t.kids[k]'hlt).cap] 40))) := hide (HKc.out.alloc (by have := HKw.out.size; omega) _)
        have Hpl := hide (HLS.out k)
        have Hpd : Hid (mlevs (t.kids.drop k) (d + 1) = (t.kids[k]'hlt).lev (d + 1) ++ mlevs (t.kids.drop (k + 1)) (d + 1)) := hide (by unfold mlevs; rw [List.drop_eq_getElem_cons hlt]; rfl)
        clear hck HsN
        generalize t.kids[k]'hlt = c at *
        have hd1 : (d : Int) + 1 ≤ 2000000 := by omega
        have hd0 : (0 : Int) ≤ (d : Int) := by omega
        have ha : 1 ≤ n ∨ True := .inr trivial
        gi_wp2_with fail
        refine HC.out.mono ?_
        rintro e W4 (⟨rfl, hJ4, hk4⟩ | ⟨rfl, q, hq, hJx4⟩)
        · have K4 := hide (HAl.out.trans hk4)
          have HJ4 := hide hJ4
          clear hJ4 hk4
          gi_wp2
          go_roundw
          case rel => exact ⟨k + 1, hlt, by go_num, hide (by rw [Hst.out]; simpa using HJ4.out), K4⟩
          case measure => simp [intOf]; omega
        · gi_wp2
          go_ret
          refine .inr ⟨rfl, (d, t) :: mlevs (t.kids.take k) (d + 1) ++ q, ?_, by simpa using hJx4⟩
          obtain ⟨r, hr⟩ := hq
          rw [Hlv.out, Hpl.out, Hpd.out, ← hr]
          exact ⟨r ++ mlevs (t.kids.drop (k + 1)) (d + 1), by simp⟩
      · have hge : ¬ (k : Int) < (t.kids.length : Int) := by omega
        have hkk : t.kids.take k = t.kids := List.take_of_length_le (by omega)
        have HF : Hid (J (pre ++ t.lev d) wr) := hide (by have := HJ.out; rw [hkk, ← Hlv.out] at this; exact this)
        clear hkk
        gi_wp2
        go_ret
        exact .inl ⟨rfl, HF.out, by rw [← hw0]; exact K2.out.trans HKc.out⟩
  · gi_wp2
    go_ret
    exact .inr ⟨rfl, [(d, t)], by rw [hlv]; exact ⟨_, rfl⟩, hJx2⟩

end Go.Proofs.YtcnkfkjgpdmebaaGreatDoor

/- Contracts: the way over a term's parts, as a range over it asks. -/
namespace Go.Proofs.YtcnkfkjgpdmebaaGreatDoor
open Go.RowKit Go.Shelf

attribute [local go_sem] Oper.semAt_some

set_option maxHeartbeats 1000000 in
theorem m_nodes_in (F : Fence) (n : Nat) (h4 : F.fn 69) (hro : F.round = none) (t : Tm) (w : World) :
    CallsIn F n Tryz.prog 69 #[tmV t] w fun e w' => e = .returned (.func (.func 110) #[tmV t] #[]) ∧ w' = w.alloc (.cells #[.int .i64 t.kind, .int .i64 t.n, encStr t.name, .slice t.V t.vars.length t.vc, .slice t.T t.types.length t.tc, .slice t.A t.kids.length t.cap] 40) := by
  unfold tmV
  refine callsIn_of_wp Tryz.func69 rfl h4 ?_ hro
  simp only [Tryz.ntmps69, List.size_toArray, List.length_cons, List.length_nil, Nat.reduceAdd, Nat.reduceSub, Array.replicate_succ, Array.replicate_zero, List.push_toArray, List.append_toArray, List.nil_append, List.cons_append]
  gi_wp2
  go_ret
  exact ⟨rfl, rfl⟩

set_option maxHeartbeats 2000000 in
theorem m_all_in (F : Fence) (hd : F.depth = none) (n : Nat) (h5 : F.fn 110) (h6 : F.fn 157) (hro : F.round = none) (l n₀ R : Nat) (w0 : World) (hw0 : n₀ = w0.heap.size) (t : Tm) (J Jx : List (Nat × Tm) → World → Prop)
    (hJa : ∀ pre W o, J pre W → J pre (W.alloc o))
    (hY : ∀ pre x W, J pre W → pre.length < (t.lev 1).length → YieldAt F (n - 1) Tryz.prog l #[.int .i64 ((x : Nat × Tm).1 : Nat), tmV x.2] W fun e W' =>
      (e = .returned (.bool true) ∧ J (pre ++ [x]) W' ∧ Kc n₀ R W W') ∨ (e = .returned (.bool false) ∧ Jx (pre ++ [x]) W'))
    (W : World) (ht : TmIn w0 t) (hB : Below n₀ w0 W) (hR : R < W.heap.size) (hsz : 1 + t.size ≤ 1000000) (h0 : J [] W) :
    CallsIn F n Tryz.prog 110 #[tmV t, .func (.yield l) #[] #[]] W fun e W' => (∃ v, e = .returned v) ∧
      ((∃ ys, ys = t.lev 1 ∧ J ys W') ∨ (∃ pre, pre <+: t.lev 1 ∧ Jx pre W')) := by
  have hp := hide (fun W' (e : Ext W W') (h : J [] W') => m_each_in F hd h6 hro l n₀ R (t.lev 1).length w0 hw0 J Jx hJa (fun m pre x W hj hl => YieldAt.anyDepth hd m (hY pre x W hj hl)) t (n - 1) 1 [] W' ht (hB.trans (e.below.mono (by have := hB.size; omega))) (by have := e.size; omega) h hsz (by simp))
  have HJ := hide (fun o => hJa [] W o h0)
  clear hY hJa ht hB h0 hw0
  unfold tmV at *
  refine callsIn_of_wp Tryz.func110 rfl h5 ?_ hro
  simp only [Tryz.ntmps110, List.size_toArray, List.length_cons, List.length_nil, Nat.reduceAdd, Nat.reduceSub, Array.replicate_succ, Array.replicate_zero, List.push_toArray, List.append_toArray, List.nil_append, List.cons_append]
  gi_wp2_with fail
  refine (hp.out _ ((Ext.refl W).alloc _) (HJ.out _)).mono ?_
  rintro e W1 (⟨rfl, hJ1, _⟩ | ⟨rfl, q, hq, hx⟩)
  · gi_wp2
    go_end0
    exact ⟨⟨_, rfl⟩, .inl ⟨_, rfl, by simpa using hJ1⟩⟩
  · gi_wp2
    go_end0
    exact ⟨⟨_, rfl⟩, .inr ⟨q, hq, by simpa using hx⟩⟩

end Go.Proofs.YtcnkfkjgpdmebaaGreatDoor

/- Contract: how great a term is. -/
namespace Go.Proofs.YtcnkfkjgpdmebaaGreatDoor
open Go.RowKit Go.Shelf

attribute [local go_sem] Oper.semAt_some

theorem cell_boxM {W : World} {B : Nat} {v : Value} {t : TypeId} (h : W.heap[B]? = some (.cells #[v] t (0, 0))) : W.cell? ⟨B, 0, none⟩ = some v ∧ W.frozen? ⟨B, 0, none⟩ = false := by
  constructor <;> simp [World.cell?, World.frozen?, h]
theorem box_set {W : World} {B : Nat} {v u : Value} {t : TypeId} (h : W.heap[B]? = some (.cells #[v] t (0, 0))) : (W.setCell ⟨B, 0, none⟩ u).heap[B]? = some (.cells #[u] t (0, 0)) := by
  have := blk_setCell h 0 u
  simpa using this
theorem box_put {W : World} {B l : Nat} {v : Value} {t : TypeId} {o o' : Obj} (h : W.heap[B]? = some (.cells #[v] t (0, 0))) (hl : W.heap[l]? = some o) (ho : o.isCells = false) : (W.putObj l o').heap[B]? = some (.cells #[v] t (0, 0)) := by
  refine (World.putObj_heap_other (fun e => ?_)).trans h
  subst e
  rw [hl] at h
  cases h
  cases ho
theorem box_alloc {W : World} {B : Nat} {v : Value} {t : TypeId} (o : Obj) (h : W.heap[B]? = some (.cells #[v] t (0, 0))) : (W.alloc o).heap[B]? = some (.cells #[v] t (0, 0)) := (Below.heap_alloc _ _ _ (Array.getElem?_eq_some_iff.1 h).1).trans h
theorem below_put {n₀ : Nat} {w W : World} {l : Nat} (o' : Obj) (h : Below n₀ w W) (hn : n₀ ≤ w.heap.size) (hB : n₀ ≤ l) : Below n₀ w (W.putObj l o') :=
  h.grown (grownBy_putObj' W l o') (Nat.le_trans hn h.size) (fun k e => by cases e; exact hB)

theorem Kc.setM {n₀ R : Nat} (h : n₀ ≤ R) (W : World) (v : Value) : Kc n₀ R W (W.setCell ⟨R, 0, none⟩ v) :=
  ⟨(Below.refl _ W).setCell (p := ⟨R, 0, none⟩) h v, fun _ _ hk ho _ => (Below.heap_setCell _ _ _ _ hk).trans ho⟩



end Go.Proofs.YtcnkfkjgpdmebaaGreatDoor
