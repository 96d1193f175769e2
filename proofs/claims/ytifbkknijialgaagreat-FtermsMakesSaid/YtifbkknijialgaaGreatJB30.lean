/- Contract: whether a term may be. -/
import Derived.Test.YtifbkknijialgaaGreatJB29
/- Contract: whether a term may be. -/
namespace Go.Proofs.YtifbkknijialgaaGreat
open Go.RowKit Go.Shelf

attribute [local go_sem] Oper.semAt_some

/-- Not too many, and none too deep. -/
def AllDeep (l : List (Nat × Tm)) : Prop := l.length ≤ 4096 ∧ ∀ p ∈ l, p.1 ≤ 400
theorem AllDeep.snoc {l : List (Nat × Tm)} {x : Nat × Tm} (h : AllDeep l) (hl : l.length + 1 ≤ 4096) (hx : x.1 ≤ 400) : AllDeep (l ++ [x]) :=
  ⟨by simpa using hl, fun y hy => (List.mem_append.1 hy).elim (h.2 y) (fun e => by rw [List.mem_singleton] at e; subst e; exact hx)⟩
theorem legalM_deep (t : Tm) : legalM t = (@decide (AllDeep (t.lev 1)) (Classical.propDecidable _) && t.tb.term) := by
  unfold legalM
  congr 1
  have h1 := mlev_low 400 t 1
  have h2 := mlev_len t 1
  have : AllDeep (t.lev 1) ↔ (t.size ≤ 4096 ∧ t.depth ≤ 400) := by
    unfold AllDeep
    rw [h1, h2]
    omega
  by_cases h : AllDeep (t.lev 1)
  · rw [@decide_eq_true _ (Classical.propDecidable _) h]
    have := this.1 h
    simp [this.1, this.2]
  · rw [@decide_eq_false _ (Classical.propDecidable _) h]
    have h3 : ¬ (t.size ≤ 4096 ∧ t.depth ≤ 400) := fun k => h (this.2 k)
    by_cases h4 : t.size ≤ 4096
    · have : ¬ t.depth ≤ 400 := fun k => h3 ⟨h4, k⟩
      simp [this]
    · simp [h4]
theorem tmbox_alloc {W : World} {b : Nat} {t : Tm} (o : Obj) (h : TmBox W b t) : TmBox (W.alloc o) b t := h.ext ((Ext.refl _).alloc _)
theorem tmbox_put {W : World} {B l : Nat} {t : Tm} {o o' : Obj} (h : TmBox W B t) (hl : W.heap[l]? = some o) (ho : o.isCells = false) : TmBox (W.putObj l o') B t := by
  refine (World.putObj_heap_other (fun e => ?_)).trans h
  subst e
  unfold TmBox at h
  rw [hl] at h
  cases h
  cases ho
theorem tmbox_set {W : World} {B c i : Nat} {t : Tm} {v : Value} (h : TmBox W B t) (hc : c ≠ B) : TmBox (W.setCell ⟨c, i, none⟩ v) B t :=
  h.kept (grown_cell W c i v) (fun e => hc (by injection e))
theorem box_other {W : World} {B c i : Nat} {v u : Value} {t : TypeId} (h : W.heap[B]? = some (.cells #[v] t (0, 0))) (hc : c ≠ B) : (W.setCell ⟨c, i, none⟩ u).heap[B]? = some (.cells #[v] t (0, 0)) :=
  ((grown_cell W c i u).block B (lt_of_obj h) (fun e => hc (by injection e with e; exact e.symm))).trans h

set_option maxRecDepth 100000 in
set_option maxHeartbeats 8000000 in
theorem m_legal_in (t : Tm) (w : World) (ht : TmIn w t) (hf : FewM t) (hsz : t.size ≤ 100000) :
    CallsIn Fence.wide 4 Tryz.prog 28 #[tmV t] w fun e W' => e = .returned (.bool (legalM t)) ∧ Below w.heap.size w W' := by
  have h1 : 1 ≤ 4 := by omega
  have hn1 : Fence.wide.fn 28 := trivial
  have h5 : Fence.wide.fn 118 := trivial
  have h4 : Fence.wide.fn 66 := trivial
  have h7 : Fence.wide.fn 67 := trivial
  have hd0 : Fence.wide.depth = none := rfl
  rw [legalM_deep]
  have HA := hide (fun w' => m_nodes_in Fence.wide 3 trivial rfl t w')
  have Ht := hide ht
  have HT := hide (fun w' (e : Below w.heap.size w w') => hide ((callsIn_wide (n := 3)).2 (m_isterm t w' (ht.old e) hf)))
  have hsz1 : 1 + t.size ≤ 1000000 := by omega
  have HB0 := hide (TmBox.new w t)
  clear ht hf
  dsimp only at HT
  generalize t.tb.term = RT at *
  unfold tmV at *
  refine callsIn_of_wp_marks Tryz.func28 rfl hn1 ?_ rfl
  simp only [Tryz.ntmps28, List.size_toArray, List.length_cons, List.length_nil, Nat.reduceAdd, Nat.reduceSub, Array.replicate_succ, Array.replicate_zero, List.push_toArray, List.append_toArray, List.nil_append, List.cons_append]
  gi_wp2_with fail
  refine (HA.out _).mono ?_
  rintro e w' ⟨rfl, rfl⟩
  gi_wp2
  have hB0 : Below w.heap.size w ((((w.alloc (.cells #[.int .i64 t.kind, .int .i64 t.n, encStr t.name, .slice t.V t.vars.length t.vc, .slice t.T t.types.length t.tc, .slice t.A t.kids.length t.cap] 50)).alloc (.cells #[.bool false] 4)).alloc (.cells #[.int .i64 0] 3)).alloc (.cells #[.int .i64 t.kind, .int .i64 t.n, encStr t.name, .slice t.V t.vars.length t.vc, .slice t.T t.types.length t.tc, .slice t.A t.kids.length t.cap] 50)) := ((((Below.refl _ w).alloc (Nat.le_refl _) _).alloc (by simp) _).alloc (by simp; omega) _).alloc (by simp; omega) _
  have hR : ((((w.alloc (.cells #[.int .i64 t.kind, .int .i64 t.n, encStr t.name, .slice t.V t.vars.length t.vc, .slice t.T t.types.length t.tc, .slice t.A t.kids.length t.cap] 50)).alloc (.cells #[.bool false] 4)).alloc (.cells #[.int .i64 0] 3)).alloc (.cells #[.int .i64 t.kind, .int .i64 t.n, encStr t.name, .slice t.V t.vars.length t.vc, .slice t.T t.types.length t.tc, .slice t.A t.kids.length t.cap] 50)).heap[w.heap.size + 1 + 1]? = some (.cells #[.int .i64 0] 3 (0, 0)) := box_alloc _ (at_newB _ _ _ (by simp))
  have hRb : ((((w.alloc (.cells #[.int .i64 t.kind, .int .i64 t.n, encStr t.name, .slice t.V t.vars.length t.vc, .slice t.T t.types.length t.tc, .slice t.A t.kids.length t.cap] 50)).alloc (.cells #[.bool false] 4)).alloc (.cells #[.int .i64 0] 3)).alloc (.cells #[.int .i64 t.kind, .int .i64 t.n, encStr t.name, .slice t.V t.vars.length t.vc, .slice t.T t.types.length t.tc, .slice t.A t.kids.length t.cap] 50)).heap[w.heap.size + 1]? = some (.cells #[.bool false] 4 (0, 0)) := box_alloc _ (box_alloc _ (at_newB _ _ _ (by simp)))
  have hRt : TmBox ((((w.alloc (.cells #[.int .i64 t.kind, .int .i64 t.n, encStr t.name, .slice t.V t.vars.length t.vc, .slice t.T t.types.length t.tc, .slice t.A t.kids.length t.cap] 50)).alloc (.cells #[.bool false] 4)).alloc (.cells #[.int .i64 0] 3)).alloc (.cells #[.int .i64 t.kind, .int .i64 t.n, encStr t.name, .slice t.V t.vars.length t.vc, .slice t.T t.types.length t.tc, .slice t.A t.kids.length t.cap] 50)) w.heap.size t := tmbox_alloc _ (tmbox_alloc _ (tmbox_alloc _ HB0.out))
  have hs : ((((w.alloc (.cells #[.int .i64 t.kind, .int .i64 t.n, encStr t.name, .slice t.V t.vars.length t.vc, .slice t.T t.types.length t.tc, .slice t.A t.kids.length t.cap] 50)).alloc (.cells #[.bool false] 4)).alloc (.cells #[.int .i64 0] 3)).alloc (.cells #[.int .i64 t.kind, .int .i64 t.n, encStr t.name, .slice t.V t.vars.length t.vc, .slice t.T t.types.length t.tc, .slice t.A t.kids.length t.cap] 50)).heap.size = w.heap.size + 4 := by simp
  have HM := hide (fun l J Jx W (h1 : Below w.heap.size w W) hJ hY (h2 : w.heap.size + 1 + 1 < W.heap.size) h0 => m_all_in Fence.wide rfl 3 trivial trivial rfl l w.heap.size (w.heap.size + 1 + 1) w rfl t J Jx hJ hY W Ht.out h1 h2 hsz1 h0)
  unfold tmV at HM
  generalize (((w.alloc (.cells #[.int .i64 t.kind, .int .i64 t.n, encStr t.name, .slice t.V t.vars.length t.vc, .slice t.T t.types.length t.tc, .slice t.A t.kids.length t.cap] 50)).alloc (.cells #[.bool false] 4)).alloc (.cells #[.int .i64 0] 3)).alloc (.cells #[.int .i64 t.kind, .int .i64 t.n, encStr t.name, .slice t.V t.vars.length t.vc, .slice t.T t.types.length t.tc, .slice t.A t.kids.length t.cap] 50) = w1 at *
  refine range_bound (Kp := Kc w.heap.size (w.heap.size + 1 + 1)) (encs := fun x : Nat × Tm => #[Value.int .i64 (x.1 : Nat), tmV x.2]) (S := fun ys => ys = t.lev 1) (Sp := fun pre => pre <+: t.lev 1) (N := (t.lev 1).length) rfl h1 rfl h5 (enters_of Tryz.func118 (by kernel_rfl) rfl)
    (fun l J Jx W hW hJ hY h0 => HM.out l J Jx W (hB0.trans (hW.mono (by omega))) hJ hY (by have := hW.size; omega) h0) (fun h k => h.trans k) (fun W l o o' hl hW ho => (Kc.refl _ _ W).put o' (by omega) hW ho) (fun _ => rfl)
    (fun pre W => W.heap[w.heap.size + 1 + 1]? = some (.cells #[.int .i64 pre.length] 3 (0, 0)) ∧ W.heap[w.heap.size + 1]? = some (.cells #[.bool false] 4 (0, 0)) ∧ TmBox W w.heap.size t ∧ AllDeep pre ∧ Below w.heap.size w W)
    (fun pre W => W.heap[w.heap.size + 1]? = some (.cells #[.bool false] 4 (0, 0)) ∧ ¬ AllDeep pre ∧ Below w.heap.size w W)
    ⟨fun s W o h => ⟨box_alloc _ h.1, box_alloc _ h.2.1, tmbox_alloc _ h.2.2.1, h.2.2.2.1, h.2.2.2.2.alloc h.2.2.2.2.size _⟩, fun s W l o o' h hB hl ho => ⟨box_put h.1 hl ho, box_put h.2.1 hl ho, tmbox_put h.2.2.1 hl ho, h.2.2.2.1, below_put o' h.2.2.2.2 (Nat.le_refl _) (by omega)⟩⟩
    ⟨fun s W o h => ⟨box_alloc _ h.1, h.2.1, h.2.2.alloc h.2.2.size _⟩, fun s W l o o' h hB hl ho => ⟨box_put h.1 hl ho, h.2.1, below_put o' h.2.2 (Nat.le_refl _) (by omega)⟩⟩ ⟨hR, hRb, hRt, ⟨by simp, by simp⟩, hB0⟩
    (fun x => { tmps := #[.agg #[.int .i64 t.kind, .int .i64 t.n, encStr t.name, .slice t.V t.vars.length t.vc, .slice t.T t.types.length t.tc, .slice t.A t.kids.length t.cap], .pointer (some ⟨w.heap.size, 0, none⟩), .pointer (some ⟨w.heap.size + 1, 0, none⟩), .pointer (some ⟨w.heap.size + 1 + 1, 0, none⟩), .int .i64 (x.1 : Nat), .agg #[.int .i64 t.kind, .int .i64 t.n, encStr t.name, .slice t.V t.vars.length t.vc, .slice t.T t.types.length t.tc, .slice t.A t.kids.length t.cap], .func (.func 118) #[.agg #[.int .i64 t.kind, .int .i64 t.n, encStr t.name, .slice t.V t.vars.length t.vc, .slice t.T t.types.length t.tc, .slice t.A t.kids.length t.cap]] #[], .int .i64 (x.1 : Nat), tmV x.2, undef, undef, undef, undef, undef, undef, undef, undef, undef, undef], defers := [] }) ?assign ?body ?done ?stop
  case assign =>
    intro l x W K hK
    gi_wp2
    unfold tmV at hK
    simpa using hK
  case body =>
    rintro l pre x W ⟨hc, hcb, hct, hD, hB⟩ hlen
    obtain ⟨c0, f0⟩ := cell_boxM hc
    obtain ⟨b0, fb0⟩ := cell_boxM hcb
    have hlo := hD.1
    have hp1 : ((pre ++ [x]).length : Int) = (pre.length : Int) + 1 := by simp
    have HC := hide (box_set (u := .int .i64 ((pre ++ [x]).length : Int)) hc)
    rw [hp1] at HC
    have HCb := hide (box_other (c := w.heap.size + 1 + 1) (i := 0) (u := .int .i64 ((pre.length : Int) + 1)) hcb (by omega))
    have HCt := hide (tmbox_set (c := w.heap.size + 1 + 1) (i := 0) (v := .int .i64 ((pre.length : Int) + 1)) hct (by omega))
    have HBs := hide (hB.setCell (p := ⟨w.heap.size + 1 + 1, 0, none⟩) (by show w.heap.size ≤ w.heap.size + 1 + 1; omega) (.int .i64 ((pre.length : Int) + 1)))
    have HK := hide (KeepsOthers.setCell W ⟨w.heap.size + 1 + 1, 0, none⟩ (.int .i64 ((pre.length : Int) + 1)))
    have HKc := hide (Kc.setM (n₀ := w.heap.size) (R := w.heap.size + 1 + 1) (by omega) W (.int .i64 ((pre.length : Int) + 1)))
    obtain ⟨d0, e0⟩ := cell_boxM HC.out
    obtain ⟨d1, e1⟩ := cell_boxM HCb.out
    have HD := hide hD
    clear hD hc hcb hct hB
    by_cases hn : pre.length + 1 ≤ 4096
    · have hn1 : ¬ ((pre.length : Int) + 1 > 4096) := by omega
      by_cases hx : x.1 ≤ 400
      · have hx1 : ¬ ((x.1 : Int) > 400) := by omega
        gi_wp2
        exact ⟨HK.out, HKc.out, by rw [hp1]; exact HC.out, HCb.out, HCt.out, HD.out.snoc hn hx, HBs.out⟩
      · have hx1 : ((x.1 : Int) > 400) := by omega
        gi_wp2
        exact ⟨HK.out.trans (KeepsOthers.setCell _ _ _), box_set HCb.out, fun h => hx (h.2 x (by simp)), HBs.out.setCell (p := ⟨w.heap.size + 1, 0, none⟩) (by simp) _⟩
    · have hn1 : ((pre.length : Int) + 1 > 4096) := by omega
      gi_wp2
      exact ⟨HK.out.trans (KeepsOthers.setCell _ _ _), box_set HCb.out, fun h => hn (by have := h.1; simp at this; omega), HBs.out.setCell (p := ⟨w.heap.size + 1, 0, none⟩) (by simp) _⟩
  case done =>
    rintro D ys W hD rfl ⟨hc, hcb, hct, hDp, hB⟩ hK
    obtain ⟨e0, e1, e2, e3, e4, e5⟩ := hct.cells
    have HTW := HT.out W hB
    have HB := hide hB
    have HDp := hide hDp
    clear hB hDp hc HT
    gi_wp2_with fail
    refine HTW.out.mono ?_
    rintro e w2 ⟨rfl, hx⟩
    have hcb2 := (hx.heap (lt_of_obj hcb)).trans hcb
    obtain ⟨b0, fb0⟩ := cell_boxM hcb2
    have hK2 := (hx.heap (lt_of_obj hK)).trans hK
    have HX := hide hx
    clear hx hcb hK hct e0 e1 e2 e3 e4 e5
    gi_wp2
    have hK' := (KeepsOthers.setCell w2 ⟨w.heap.size + 1, 0, none⟩ (.bool RT)).same D _ hK2 rfl
    refine ⟨by simp, .inl ⟨_, _, rfl, run_takeDeferred hK', ?_⟩⟩
    have hc5 := cell_kept (World.cell?_setCell_same' w2 ⟨w.heap.size + 1, 0, none⟩ (.bool RT) (by rw [b0]; rfl)) (grownBy_putObj' _ D (.deferred none)) (fun r e => by cases e; exact ⟨_, hK', rfl⟩)
    refine ⟨.bool RT, ?_, by rw [@decide_eq_true _ (Classical.propDecidable _) HDp.out, Bool.true_and], ((HB.out.trans (HX.out.below.mono HB.out.size)).setCell (p := ⟨w.heap.size + 1, 0, none⟩) (by simp) _).trans (belowK_b (w := w) (Nat.le_refl _) _ D _ _ (by omega) hK' rfl rfl)⟩
    simp [results, Tryz.f28, go_sem, hc5]
  case stop =>
    rintro D pre W hD hpre ⟨hcb, hnd, hB⟩ hK
    obtain ⟨b0, fb0⟩ := cell_boxM hcb
    have HN : Hid (¬ AllDeep (t.lev 1)) := hide (fun h => hnd ⟨Nat.le_trans hpre.length_le h.1, fun p hp => h.2 p (hpre.subset hp)⟩)
    clear hnd hpre
    gi_wp2
    refine ⟨by simp, .inl ⟨_, _, rfl, run_takeDeferred hK, ?_⟩⟩
    have hc5 := cell_kept b0 (grownBy_putObj' _ D (.deferred none)) (fun r e => by cases e; exact ⟨_, hK, rfl⟩)
    refine ⟨.bool false, ?_, by rw [@decide_eq_false _ (Classical.propDecidable _) HN.out, Bool.false_and], hB.trans (belowK_b (w := w) (Nat.le_refl _) W D _ _ (by omega) hK rfl rfl)⟩
    simp [results, Tryz.f28, go_sem, hc5]

theorem m_legal (t : Tm) (w : World) (h : TmIn w t) (hf : FewM t) (hsz : t.size ≤ 100000) :
    Calls Tryz.prog 28 #[tmV t] w fun e w' => e = .returned (.bool (legalM t)) ∧ Ext w w' := by
  refine (callsIn_wide (n := 4)).1 ((m_legal_in t w h hf hsz).mono ?_)
  rintro e w' ⟨he, hB⟩
  exact ⟨he, Ext.of_below hB (Nat.le_refl _)⟩

end Go.Proofs.YtifbkknijialgaaGreat

/- Contracts: a term's text: names, applications. -/
namespace Go.Proofs.YtifbkknijialgaaGreat
open Go.RowKit Go.Shelf

/-- The function tells of a term this text. -/
def TextsTo (t : Tm) (s : Str) : Prop := ∀ w, TmIn w t → Calls Tryz.prog 109 #[tmV t] w fun e w' => e = .returned (encStr s) ∧ Ext w w'

set_option maxRecDepth 10000 in
set_option maxHeartbeats 2000000 in
theorem txt_var (t : Tm) (h1 : (t.kind == 1) = true) : TextsTo t t.name := by
  intro w h
  have HB0 := hide (TmBox.new w t)
  have X0 : Hid (Ext w (w.alloc (.cells #[.int .i64 t.kind, .int .i64 t.n, encStr t.name, .slice t.V t.vars.length t.vc, .slice t.T t.types.length t.tc, .slice t.A t.kids.length t.cap] 50))) := hide ((Ext.refl w).alloc _)
  obtain ⟨c0, c1, c2, c3, c4, c5⟩ := HB0.out.cells
  clear h
  unfold tmV
  go_enter Tryz.func109, Tryz.ntmps109
  go_wp2
  go_ret
  exact ⟨rfl, X0.out⟩

set_option maxRecDepth 10000 in
set_option maxHeartbeats 8000000 in
theorem txt_app (t : Tm) (h4 : (t.kind == 4) = true) (h0 : 0 < t.kids.length) (h1 : 1 < t.kids.length) (sf sa : Str) (hf : TextsTo (t.kids[0]'h0) sf) (ha : TextsTo (t.kids[1]'h1) sa) (hl : sf.length + sa.length ≤ 1000000) : TextsTo t ([40] ++ (sf ++ [32] ++ sa) ++ [41]) := by
  intro w h
  obtain ⟨W, hW⟩ : ∃ W, W = w.alloc (.cells #[.int .i64 t.kind, .int .i64 t.n, encStr t.name, .slice t.V t.vars.length t.vc, .slice t.T t.types.length t.tc, .slice t.A t.kids.length t.cap] 50) := ⟨_, rfl⟩
  have HW := hide hW.symm
  have HB0 : Hid (TmBox W w.heap.size t) := hide (by rw [hW]; exact TmBox.new w t)
  have X0 : Hid (Ext w W) := hide (by rw [hW]; exact (Ext.refl w).alloc _)
  clear hW
  obtain ⟨c0, c1, c2, c3, c4, c5⟩ := HB0.out.cells
  have n1 : (t.kind == 1) = false := by simp at h4 ⊢; omega
  have n2 : (t.kind == 2) = false := by simp at h4 ⊢; omega
  have n3 : (t.kind == 14) = false := by simp at h4 ⊢; omega
  have n4 : (t.kind == 3) = false := by simp at h4 ⊢; omega
  have HK := hide h.all
  obtain ⟨b, o, hA, hb, q0, q1, q2, q3, q4, q5⟩ := (HK.out.ext X0.out).at_ h0
  obtain ⟨b', o', hA', hb', r0, r1, r2, r3, r4, r5⟩ := (HK.out.ext X0.out).at_ h1
  have hbo : (⟨b', o', none⟩ : Addr) = ⟨b, o, none⟩ := Option.some.inj (hA'.symm.trans hA)
  cases hbo
  clear hA' hb'
  have HF := hide (fun w' (e : Ext w w') => hide (hf w' ((HK.out.kids _ (List.getElem_mem h0)).ext e)))
  have HA := hide (fun w' (e : Ext w w') => hide (ha w' ((HK.out.kids _ (List.getElem_mem h1)).ext e)))
  have i0 : (0 : Int) < (t.kids.length : Int) := by omega
  have i1 : (1 : Int) < (t.kids.length : Int) := by omega
  have hs1 : ¬ ((⟨sf.toArray⟩ : ByteArray).size + (⟨#[32]⟩ : ByteArray).size > 9223372036854775807) := by rw [ba_size sf]; show ¬ (sf.length + 1 > _); omega
  have e1 : (ByteArray.mk sf.toArray ++ ByteArray.mk #[32]) = ByteArray.mk (sf ++ ([32] : Str) : Str).toArray := ByteArray.mk_append_mk sf ([32] : Str)
  have hs2 : ¬ ((⟨(sf ++ ([32] : Str) : Str).toArray⟩ : ByteArray).size + (⟨sa.toArray⟩ : ByteArray).size > 9223372036854775807) := by
    rw [ba_size (sf ++ ([32] : Str)), ba_size sa]
    simp only [List.length_append, List.length_cons, List.length_nil]
    omega
  have e2 : (ByteArray.mk (sf ++ ([32] : Str) : Str).toArray ++ ByteArray.mk sa.toArray) = ByteArray.mk (sf ++ ([32] : Str) ++ sa : Str).toArray := ByteArray.mk_append_mk (sf ++ ([32] : Str)) sa
  have hs3 : ¬ ((⟨#[40]⟩ : ByteArray).size + (⟨(sf ++ ([32] : Str) ++ sa : Str).toArray⟩ : ByteArray).size > 9223372036854775807) := by
    rw [ba_size (sf ++ ([32] : Str) ++ sa)]
    show ¬ (1 + _ > _)
    simp only [List.length_append, List.length_cons, List.length_nil]
    omega
  have e3 : (ByteArray.mk #[40] ++ ByteArray.mk (sf ++ ([32] : Str) ++ sa : Str).toArray) = ByteArray.mk (([40] : Str) ++ (sf ++ ([32] : Str) ++ sa) : Str).toArray := ByteArray.mk_append_mk ([40] : Str) (sf ++ ([32] : Str) ++ sa)
  have hs4 : ¬ ((⟨(([40] : Str) ++ (sf ++ ([32] : Str) ++ sa) : Str).toArray⟩ : ByteArray).size + (⟨#[41]⟩ : ByteArray).size > 9223372036854775807) := by
    rw [ba_size (([40] : Str) ++ (sf ++ ([32] : Str) ++ sa))]
    show ¬ (_ + 1 > _)
    simp only [List.length_append, List.length_cons, List.length_nil]
    omega
  have e4 : (ByteArray.mk (([40] : Str) ++ (sf ++ ([32] : Str) ++ sa) : Str).toArray ++ ByteArray.mk #[41]) = ByteArray.mk (([40] : Str) ++ (sf ++ ([32] : Str) ++ sa) ++ ([41] : Str) : Str).toArray := ByteArray.mk_append_mk (([40] : Str) ++ (sf ++ ([32] : Str) ++ sa)) ([41] : Str)
  have hq1 : ¬ (9223372036854775807 < sf.length + 1) := by omega
  have hq2 : ¬ (9223372036854775807 < (sf ++ ([32] : Str)).length + sa.length) := by simp only [List.length_append, List.length_cons, List.length_nil]; omega
  have hq3 : ¬ (9223372036854775807 < 1 + (sf ++ ([32] : Str) ++ sa).length) := by simp only [List.length_append, List.length_cons, List.length_nil]; omega
  have hq4 : ¬ (9223372036854775807 < (([40] : Str) ++ (sf ++ ([32] : Str) ++ sa)).length + 1) := by simp only [List.length_append, List.length_cons, List.length_nil]; omega
  generalize (([40] : Str) ++ (sf ++ ([32] : Str) ++ sa) ++ ([41] : Str) : Str) = s4 at *
  generalize (([40] : Str) ++ (sf ++ ([32] : Str) ++ sa) : Str) = s3 at *
  generalize (sf ++ ([32] : Str) ++ sa : Str) = s2 at *
  generalize (sf ++ ([32] : Str) : Str) = s1 at *
  generalize t.kids[0]'h0 = ka at *
  generalize t.kids[1]'h1 = kb at *
  have HS : Hid (∀ w', Ext W w' → (w'.cell? ⟨w.heap.size, 5, none⟩ = some (.slice (some ⟨b, o, none⟩) t.kids.length t.cap) ∧
      w'.cell? ⟨b, o, none⟩ = some (.int .i64 ka.kind) ∧ w'.cell? ⟨b, o + 1, none⟩ = some (.int .i64 ka.n) ∧ w'.cell? ⟨b, o + 2, none⟩ = some (.string ⟨ka.name.toArray⟩) ∧ w'.cell? ⟨b, o + 3, none⟩ = some (.slice ka.V ka.vars.length ka.vc) ∧ w'.cell? ⟨b, o + 4, none⟩ = some (.slice ka.T ka.types.length ka.tc) ∧ w'.cell? ⟨b, o + 5, none⟩ = some (.slice ka.A ka.kids.length ka.cap) ∧
      w'.cell? ⟨b, o + 6, none⟩ = some (.int .i64 kb.kind) ∧ w'.cell? ⟨b, o + 6 + 1, none⟩ = some (.int .i64 kb.n) ∧ w'.cell? ⟨b, o + 6 + 2, none⟩ = some (.string ⟨kb.name.toArray⟩) ∧ w'.cell? ⟨b, o + 6 + 3, none⟩ = some (.slice kb.V kb.vars.length kb.vc) ∧ w'.cell? ⟨b, o + 6 + 4, none⟩ = some (.slice kb.T kb.types.length kb.tc) ∧ w'.cell? ⟨b, o + 6 + 5, none⟩ = some (.slice kb.A kb.kids.length kb.cap))) := hide (by
    rw [hA] at c5
    have z0 : o + 0 * 6 = o := by omega
    have z1 : o + 1 * 6 = o + 6 := by omega
    rw [z0] at q0 q1 q2 q3 q4 q5
    rw [z1] at r0 r1 r2 r3 r4 r5
    exact fun w' e => ⟨e.cell c5, e.cell q0, e.cell q1, e.cell q2, e.cell q3, e.cell q4, e.cell q5, e.cell r0, e.cell r1, e.cell r2, e.cell r3, e.cell r4, e.cell r5⟩)
  rw [hA] at c5
  clear q0 q1 q2 q3 q4 q5 r0 r1 r2 r3 r4 r5 hb hA h hf ha HK HB0
  unfold tmV at HF HA ⊢
  go_enter Tryz.func109, Tryz.ntmps109
  go_upto_region 1 with fail
  rw [HW.out]
  obtain ⟨p0, p1, p2, p3, p4, p5, p6, p7, p8, p9, p10, p11, p12⟩ := HS.out _ (Ext.refl W)
  clear c5 HW
  go_upto_region 13 with fail
  go_region_held3 (fun w' : World => (w'.cell? ⟨w.heap.size, 5, none⟩ = some (.slice (some ⟨b, o, none⟩) t.kids.length t.cap) ∧ w'.cell? ⟨b, o, none⟩ = some (.int .i64 ka.kind) ∧ w'.cell? ⟨b, o + 1, none⟩ = some (.int .i64 ka.n) ∧ w'.cell? ⟨b, o + 2, none⟩ = some (.string ⟨ka.name.toArray⟩) ∧ w'.cell? ⟨b, o + 3, none⟩ = some (.slice ka.V ka.vars.length ka.vc) ∧ w'.cell? ⟨b, o + 4, none⟩ = some (.slice ka.T ka.types.length ka.tc) ∧ w'.cell? ⟨b, o + 5, none⟩ = some (.slice ka.A ka.kids.length ka.cap) ∧ w'.cell? ⟨b, o + 6, none⟩ = some (.int .i64 kb.kind) ∧ w'.cell? ⟨b, o + 6 + 1, none⟩ = some (.int .i64 kb.n) ∧ w'.cell? ⟨b, o + 6 + 2, none⟩ = some (.string ⟨kb.name.toArray⟩) ∧ w'.cell? ⟨b, o + 6 + 3, none⟩ = some (.slice kb.V kb.vars.length kb.vc) ∧ w'.cell? ⟨b, o + 6 + 4, none⟩ = some (.slice kb.T kb.types.length kb.tc) ∧ w'.cell? ⟨b, o + 6 + 5, none⟩ = some (.slice kb.A kb.kids.length kb.cap))) (first | assumption | (exact HS.out _ (Ext.refl W).drew)) (first
    | (go_at_call 109
       with_reducible refine Calls.mono (HF.out _ ?e).out ?_
       case e => first | (refine Ext.trans X0.out ?_; (repeat (first | exact Ext.refl _ | exact Ext.pre (by simp) | exact Ext.alloc (by assumption) _ | refine Ext.alloc ?_ _ | refine Ext.more ?_ _ _ | refine Ext.drew ?_ | refine Ext.drewN ?_ _)); done) | (refine Ext.trans (X0.out.trans X8.out) ?_; (repeat (first | exact Ext.refl _ | exact Ext.pre (by simp) | exact Ext.alloc (by assumption) _ | refine Ext.alloc ?_ _ | refine Ext.more ?_ _ _ | refine Ext.drew ?_ | refine Ext.drewN ?_ _)); done)
       rintro e w7 ⟨rfl, hx7⟩
       have X7 : Hid (Ext W w7) := hide (by
         refine Ext.trans ?_ hx7
         first | (refine Ext.trans (Ext.refl W) ?_; (repeat (first | exact Ext.refl _ | exact Ext.pre (by simp) | exact Ext.alloc (by assumption) _ | refine Ext.alloc ?_ _ | refine Ext.more ?_ _ _ | refine Ext.drew ?_ | refine Ext.drewN ?_ _)); done) | (refine Ext.trans X8.out ?_; (repeat (first | exact Ext.refl _ | exact Ext.pre (by simp) | exact Ext.alloc (by assumption) _ | refine Ext.alloc ?_ _ | refine Ext.more ?_ _ _ | refine Ext.drew ?_ | refine Ext.drewN ?_ _)); done))
       have K7 := HS.out _ X7.out
       clear hx7)
    | (go_at_call 109
       with_reducible refine Calls.mono (HA.out _ ?e).out ?_
       case e => first | (refine Ext.trans X0.out ?_; (repeat (first | exact Ext.refl _ | exact Ext.pre (by simp) | exact Ext.alloc (by assumption) _ | refine Ext.alloc ?_ _ | refine Ext.more ?_ _ _ | refine Ext.drew ?_ | refine Ext.drewN ?_ _)); done) | (refine Ext.trans (X0.out.trans X7.out) ?_; (repeat (first | exact Ext.refl _ | exact Ext.pre (by simp) | exact Ext.alloc (by assumption) _ | refine Ext.alloc ?_ _ | refine Ext.more ?_ _ _ | refine Ext.drew ?_ | refine Ext.drewN ?_ _)); done)
       rintro e w8 ⟨rfl, hx8⟩
       have X8 : Hid (Ext W w8) := hide (by
         refine Ext.trans ?_ hx8
         first | (refine Ext.trans (Ext.refl W) ?_; (repeat (first | exact Ext.refl _ | exact Ext.pre (by simp) | exact Ext.alloc (by assumption) _ | refine Ext.alloc ?_ _ | refine Ext.more ?_ _ _ | refine Ext.drew ?_ | refine Ext.drewN ?_ _)); done) | (refine Ext.trans X7.out ?_; (repeat (first | exact Ext.refl _ | exact Ext.pre (by simp) | exact Ext.alloc (by assumption) _ | refine Ext.alloc ?_ _ | refine Ext.more ?_ _ _ | refine Ext.drew ?_ | refine Ext.drewN ?_ _)); done))
       have K8 := HS.out _ X8.out
       clear hx8))
  all_goals
    go_wp2
    go_ret
    first
      | exact ⟨rfl, X0.out.trans X7.out⟩
      | exact ⟨rfl, X0.out.trans X8.out⟩
      | exact ⟨rfl, X0.out.trans (X7.out.trans (by repeat (first | exact Ext.refl _ | exact Ext.pre (by simp) | exact Ext.alloc (by assumption) _ | refine Ext.alloc ?_ _ |  refine Ext.more ?_ _ _ | refine Ext.drew ?_ | refine Ext.drewN ?_ _)))⟩
      | exact ⟨rfl, X0.out.trans (X8.out.trans (by repeat (first | exact Ext.refl _ | exact Ext.pre (by simp) | exact Ext.alloc (by assumption) _ | refine Ext.alloc ?_ _ |  refine Ext.more ?_ _ _ | refine Ext.drew ?_ | refine Ext.drewN ?_ _)))⟩

end Go.Proofs.YtifbkknijialgaaGreat
