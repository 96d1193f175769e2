/- Contract: whether a term may be. -/
import Derived.Test.YtcnkfkjgpdmebaaGreatDoorJN33
/- Contract: whether a term may be. -/
namespace Go.Proofs.YtcnkfkjgpdmebaaGreatDoor
open Go.RowKit Go.Shelf

attribute [local go_sem] Oper.semAt_some

/-- Not too many, and none too deep. -/
def AllDeep (l : List (Nat × Tm)) : Prop := l.length ≤ 4096 ∧ ∀ p ∈ l, p.1 ≤ 400
theorem AllDeep.snoc {l : List (Nat × Tm)} {x : Nat × Tm} (h : AllDeep l) (hl : l.length + 1 ≤ 4096) (hx : x.1 ≤ 400) : AllDeep (l ++ [x]) :=
  ⟨by simpa using hl, fun y hy => (List.mem_append.1 hy).elim (h.2 y) (fun e => by rw [List.mem_singleton] at e; subst e; exact hx)⟩
theorem legalM_deep (t : Tm) : legalM t = (@decide (AllDeep (t.lev 1)) (Classical.propDecidable _) && t.tb.term) := by
  unfold legalM
  congr 1
  have h1 := mlev_low 400 t 1
  have h2 := mlev_len t 1
  have : AllDeep (t.lev 1) ↔ (t.size ≤ 4096 ∧ t.depth ≤ 400) := by
    unfold AllDeep
    rw [h1, h2]
    omega
  by_cases h : AllDeep (t.lev 1)
  · rw [@decide_eq_true _ (Classical.propDecidable _) h]
    have := this.1 h
    simp [this.1, this.2]
  · rw [@decide_eq_false _ (Classical.propDecidable _) h]
    have h3 : ¬ (t.size ≤ 4096 ∧ t.depth ≤ 400) := fun k => h (this.2 k)
    by_cases h4 : t.size ≤ 4096
    · have : ¬ t.depth ≤ 400 := fun k => h3 ⟨h4, k⟩
      simp [this]
    · simp [h4]
theorem tmbox_alloc {W : World} {b : Nat} {t : Tm} (o : Obj) (h : TmBox W b t) : TmBox (W.alloc o) b t := h.ext ((Ext.refl _).alloc _)
theorem tmbox_put {W : World} {B l : Nat} {t : Tm} {o o' : Obj} (h : TmBox W B t) (hl : W.heap[l]? = some o) (ho : o.isCells = false) : TmBox (W.putObj l o') B t := by
  refine (World.putObj_heap_other (fun e => ?_)).trans h
  subst e
  unfold TmBox at h
  rw [hl] at h
  cases h
  cases ho
theorem tmbox_set {W : World} {B c i : Nat} {t : Tm} {v : Value} (h : TmBox W B t) (hc : c ≠ B) : TmBox (W.setCell ⟨c, i, none⟩ v) B t :=
  h.kept (grown_cell W c i v) (fun e => hc (by injection e))
theorem box_other {W : World} {B c i : Nat} {v u : Value} {t : TypeId} (h : W.heap[B]? = some (.cells #[v] t (0, 0))) (hc : c ≠ B) : (W.setCell ⟨c, i, none⟩ u).heap[B]? = some (.cells #[v] t (0, 0)) :=
  ((grown_cell W c i u).block B (lt_of_obj h) (fun e => hc (by injection e with e; exact e.symm))).trans h

set_option maxRecDepth 100000 in
set_option maxHeartbeats 8000000 in
theorem m_legal_in (t : Tm) (w : World) (ht : TmIn w t) (hf : FewM t) (hsz : t.size ≤ 100000) :
    CallsIn Fence.wide 4 Tryz.prog 45 #[tmV t] w fun e W' => e = .returned (.bool (legalM t)) ∧ Below w.heap.size w W' := by
  have h1 : 1 ≤ 4 := by omega
  have hn1 : Fence.wide.fn 45 := trivial
  have h5 : Fence.wide.fn 110 := trivial
  have h4 : Fence.wide.fn 69 := trivial
  have h7 : Fence.wide.fn 70 := trivial
  have hd0 : Fence.wide.depth = none := rfl
  rw [legalM_deep]
  have HA := hide (fun w' => m_nodes_in Fence.wide 3 trivial rfl t w')
  have Ht := hide ht
  have HT := hide (fun w' (e : Below w.heap.size w w') => hide ((callsIn_wide (n := 3)).2 (m_isterm t w' (ht.old e) hf)))
  have hsz1 : 1 + t.size ≤ 1000000 := by omega
  have HB0 := hide (TmBox.new w t)
  clear ht hf
  dsimp only at HT
  generalize t.tb.term = RT at *
  unfold tmV at *
  refine callsIn_of_wp_marks Tryz.func45 rfl hn1 ?_ rfl
  simp only [Tryz.ntmps45, List.size_toArray, List.length_cons, List.length_nil, Nat.reduceAdd, Nat.reduceSub, Array.replicate_succ, Array.replicate_zero, List.push_toArray, List.append_toArray, List.nil_append, List.cons_append]
  gi_wp2_with fail
  refine (HA.out _).mono ?_
  rintro e w' ⟨rfl, rfl⟩
  gi_wp2
  have hB0 : Below w.heap.size w ((((w.alloc (.cells #[.int .i64 t.kind, .int .i64 t.n, encStr t.name, .slice t.V t.vars.length t.vc, .slice t.T t.types.length t.tc, .slice t.A t.kids.length t.cap] 40)).alloc (.cells #[.bool false] 4)).alloc (.cells #[.int .i64 0] 3)).alloc (.cells #[.int .i64 t.kind, .int .i64 t.n, encStr t.name, .slice t.V t.vars.length t.vc, .slice t.T t.types.length t.tc, .slice t.A t.kids.length t.cap] 40)) := ((((Below.refl _ w).alloc (Nat.le_refl _) _).alloc (by simp) _).alloc (by simp; omega) _).alloc (by simp; omega) _
  have hR : ((((w.alloc (.cells #[.int .i64 t.kind, .int .i64 t.n, encStr t.name, .slice t.V t.vars.length t.vc, .slice t.T t.types.length t.tc, .slice t.A t.kids.length t.cap] 40)).alloc (.cells #[.bool false] 4)).alloc (.cells #[.int .i64 0] 3)).alloc (.cells #[.int .i64 t.kind, .int .i64 t.n, encStr t.name, .slice t.V t.vars.length t.vc, .slice t.T t.types.length t.tc, .slice t.A t.kids.length t.cap] 40)).heap[w.heap.size + 1 + 1]? = some (.cells #[.int .i64 0] 3 (0, 0)) := box_alloc _ (at_newB _ _ _ (by simp))
  have hRb : ((((w.alloc (.cells #[.int .i64 t.kind, .int .i64 t.n, encStr t.name, .slice t.V t.vars.length t.vc, .slice t.T t.types.length t.tc, .slice t.A t.kids.length t.cap] 40)).alloc (.cells #[.bool false] 4)).alloc (.cells #[.int .i64 0] 3)).alloc (.cells #[.int .i64 t.kind, .int .i64 t.n, encStr t.name, .slice t.V t.vars.length t.vc, .slice t.T t.types.length t.tc, .slice t.A t.kids.length t.cap] 40)).heap[w.heap.size + 1]? = some (.cells #[.bool false] 4 (0, 0)) := box_alloc _ (box_alloc _ (at_newB _ _ _ (by simp)))
  have hRt : TmBox ((((w.alloc (.cells #[.int .i64 t.kind, .int .i64 t.n, encStr t.name, .slice t.V t.vars.length t.vc, .slice t.T t.types.length t.tc, .slice t.A t.kids.length t.cap] 40)).alloc (.cells #[.bool false] 4)).alloc (.cells #[.int .i64 0] 3)).alloc (.cells #[.int .i64 t.kind, .int .i64 t.n, encStr t.name, .slice t.V t.vars.length t.vc, .slice t.T t.types.length t.tc, .slice t.A t.kids.length t.cap] 40)) w.heap.size t := tmbox_alloc _ (tmbox_alloc _ (tmbox_alloc _ HB0.out))
  have hs : ((((w.alloc (.cells #[.int .i64 t.kind, .int .i64 t.n, encStr t.name, .slice t.V t.vars.length t.vc, .slice t.T t.types.length t.tc, .slice t.A t.kids.length t.cap] 40)).alloc (.cells #[.bool false] 4)).alloc (.cells #[.int .i64 0] 3)).alloc (.cells #[.int .i64 t.kind, .int .i64 t.n, encStr t.name, .slice t.V t.vars.length t.vc, .slice t.T t.types.length t.tc, .slice t.A t.kids.length t.cap] 40)).heap.size = w.heap.size + 4 := by simp
  have HM := hide (fun l J Jx W (h1 : Below w.heap.size w W) hJ hY (h2 : w.heap.size + 1 + 1 < W.heap.size) h0 => m_all_in Fence.wide rfl 3 trivial trivial rfl l w.heap.size (w.heap.size + 1 + 1) w rfl t J Jx hJ hY W Ht.out h1 h2 hsz1 h0)
  unfold tmV at HM
  generalize (((w.alloc (.cells #[.int .i64 t.kind, .int .i64 t.n, encStr t.name, .slice t.V t.vars.length t.vc, .slice t.T t.types.length t.tc, .slice t.A t.kids.length t.cap] 40)).alloc (.cells #[.bool false] 4)).alloc (.cells #[.int .i64 0] 3)).alloc (.cells #[.int .i64 t.kind, .int .i64 t.n, encStr t.name, .slice t.V t.vars.length t.vc, .slice t.T t.types.length t.tc, .slice t.A t.kids.length t.cap] 40) = w1 at *
  refine range_bound (Kp := Kc w.heap.size (w.heap.size + 1 + 1)) (encs := fun x : Nat × Tm => #[Value.int .i64 (x.1 : Nat), tmV x.2]) (S := fun ys => ys = t.lev 1) (Sp := fun pre => pre <+: t.lev 1) (N := (t.lev 1).length) rfl h1 rfl h5 (enters_of Tryz.func110 (by kernel_rfl) rfl)
    (fun l J Jx W hW hJ hY h0 => HM.out l J Jx W (hB0.trans (hW.mono (by omega))) hJ hY (by have := hW.size; omega) h0) (fun h k => h.trans k) (fun W l o o' hl hW ho => (Kc.refl _ _ W).put o' (by omega) hW ho) (fun _ => rfl)
    (fun pre W => W.heap[w.heap.size + 1 + 1]? = some (.cells #[.int .i64 pre.length] 3 (0, 0)) ∧ W.heap[w.heap.size + 1]? = some (.cells #[.bool false] 4 (0, 0)) ∧ TmBox W w.heap.size t ∧ AllDeep pre ∧ Below w.heap.size w W)
    (fun pre W => W.heap[w.heap.size + 1]? = some (.cells #[.bool false] 4 (0, 0)) ∧ ¬ AllDeep pre ∧ Below w.heap.size w W)
    ⟨fun s W o h => ⟨box_alloc _ h.1, box_alloc _ h.2.1, tmbox_alloc _ h.2.2.1, h.2.2.2.1, h.2.2.2.2.alloc h.2.2.2.2.size _⟩, fun s W l o o' h hB hl ho => ⟨box_put h.1 hl ho, box_put h.2.1 hl ho, tmbox_put h.2.2.1 hl ho, h.2.2.2.1, below_put o' h.2.2.2.2 (Nat.le_refl _) (by omega)⟩⟩
    ⟨fun s W o h => ⟨box_alloc _ h.1, h.2.1, h.2.2.alloc h.2.2.size _⟩, fun s W l o o' h hB hl ho => ⟨box_put h.1 hl ho, h.2.1, below_put o' h.2.2 (Nat.le_refl _) (by omega)⟩⟩ ⟨hR, hRb, hRt, ⟨by simp, by simp⟩, hB0⟩
    (fun x => { tmps := #[.agg #[.int .i64 t.kind, .int .i64 t.n, encStr t.name, .slice t.V t.vars.length t.vc, .slice t.T t.types.length t.tc, .slice t.A t.kids.length t.cap], .pointer (some ⟨w.heap.size, 0, none⟩), .pointer (some ⟨w.heap.size + 1, 0, none⟩), .pointer (some ⟨w.heap.size + 1 + 1, 0, none⟩), .int .i64 (x.1 : Nat), .agg #[.int .i64 t.kind, .int .i64 t.n, encStr t.name, .slice t.V t.vars.length t.vc, .slice t.T t.types.length t.tc, .slice t.A t.kids.length t.cap], .func (.func 110) #[.agg #[.int .i64 t.kind, .int .i64 t.n, encStr t.name, .slice t.V t.vars.length t.vc, .slice t.T t.types.length t.tc, .slice t.A t.kids.length t.cap]] #[], .int .i64 (x.1 : Nat), tmV x.2, undef, undef, undef, undef, undef, undef, undef, undef, undef, undef], defers := [] }) ?assign ?body ?done ?stop
  case assign =>
    intro l x W K hK
    gi_wp2
    unfold tmV at hK
    simpa using hK
  case body =>
    rintro l pre x W ⟨hc, hcb, hct, hD, hB⟩ hlen
    obtain ⟨c0, f0⟩ := cell_boxM hc
    obtain ⟨b0, fb0⟩ := cell_boxM hcb
    have hlo := hD.1
    have hp1 : ((pre ++ [x]).length : Int) = (pre.length : Int) + 1 := by simp
    have HC := hide (box_set (u := .int .i64 ((pre ++ [x]).length : Int)) hc)
    rw [hp1] at HC
    have HCb := hide (box_other (c := w.heap.size + 1 + 1) (i := 0) (u := .int .i64 ((pre.length : Int) + 1)) hcb (by omega))
    have HCt := hide (tmbox_set (c := w.heap.size + 1 + 1) (i := 0) (v := .int .i64 ((pre.length : Int) + 1)) hct (by omega))
    have HBs := hide (hB.setCell (p := ⟨w.heap.size + 1 + 1, 0, none⟩) (by show w.heap.size ≤ w.heap.size + 1 + 1; omega) (.int .i64 ((pre.length : Int) + 1)))
    have HK := hide (KeepsOthers.setCell W ⟨w.heap.size + 1 + 1, 0, none⟩ (.int .i64 ((pre.length : Int) + 1)))
    have HKc := hide (Kc.setM (n₀ := w.heap.size) (R := w.heap.size + 1 + 1) (by omega) W (.int .i64 ((pre.length : Int) + 1)))
    obtain ⟨d0, e0⟩ := cell_boxM HC.out
    obtain ⟨d1, e1⟩ := cell_boxM HCb.out
    have HD := hide hD
    clear hD hc hcb hct hB
    by_cases hn : pre.length + 1 ≤ 4096
    · have hn1 : ¬ ((pre.length : Int) + 1 > 4096) := by omega
      by_cases hx : x.1 ≤ 400
      · have hx1 : ¬ ((x.1 : Int) > 400) := by omega
        gi_wp2
        exact ⟨HK.out, HKc.out, by rw [hp1]; exact HC.out, HCb.out, HCt.out, HD.out.snoc hn hx, HBs.out⟩
      · have hx1 : ((x.1 : Int) > 400) := by omega
        gi_wp2
        exact ⟨HK.out.trans (KeepsOthers.setCell _ _ _), box_set HCb.out, fun h => hx (h.2 x (by simp)), HBs.out.setCell (p := ⟨w.heap.size + 1, 0, none⟩) (by simp) _⟩
    · have hn1 : ((pre.length : Int) + 1 > 4096) := by omega
      gi_wp2
      exact ⟨HK.out.trans (KeepsOthers.setCell _ _ _), box_set HCb.out, fun h => hn (by have := h.1; simp at this; omega), HBs.out.setCell (p := ⟨w.heap.size + 1, 0, none⟩) (by simp) _⟩
  case done =>
    rintro D ys W hD rfl ⟨hc, hcb, hct, hDp, hB⟩ hK
    obtain ⟨e0, e1, e2, e3, e4, e5⟩ := hct.cells
    have HTW := HT.out W hB
    have HB := hide hB
    have HDp := hide hDp
    clear hB hDp hc HT
    gi_wp2_with fail
    refine HTW.out.mono ?_
    rintro e w2 ⟨rfl, hx⟩
    have hcb2 := (hx.heap (lt_of_obj hcb)).trans hcb
    obtain ⟨b0, fb0⟩ := cell_boxM hcb2
    have hK2 := (hx.heap (lt_of_obj hK)).trans hK
    have HX := hide hx
    clear hx hcb hK hct e0 e1 e2 e3 e4 e5
    gi_wp2
    have hK' := (KeepsOthers.setCell w2 ⟨w.heap.size + 1, 0, none⟩ (.bool RT)).same D _ hK2 rfl
    refine ⟨by simp, .inl ⟨_, _, rfl, run_takeDeferred hK', ?_⟩⟩
    have hc5 := cell_kept (World.cell?_setCell_same' w2 ⟨w.heap.size + 1, 0, none⟩ (.bool RT) (by rw [b0]; rfl)) (grownBy_putObj' _ D (.deferred none)) (fun r e => by cases e; exact ⟨_, hK', rfl⟩)
    refine ⟨.bool RT, ?_, by rw [@decide_eq_true _ (Classical.propDecidable _) HDp.out, Bool.true_and], ((HB.out.trans (HX.out.below.mono HB.out.size)).setCell (p := ⟨w.heap.size + 1, 0, none⟩) (by simp) _).trans (belowK_b (w := w) (Nat.le_refl _) _ D _ _ (by omega) hK' rfl rfl)⟩
    simp [results, Tryz.f45, go_sem, hc5]
  case stop =>
    rintro D pre W hD hpre ⟨hcb, hnd, hB⟩ hK
    obtain ⟨b0, fb0⟩ := cell_boxM hcb
    have HN : Hid (¬ AllDeep (t.lev 1)) := hide (fun h => hnd ⟨Nat.le_trans hpre.length_le h.1, fun p hp => h.2 p (hpre.subset hp)⟩)
    clear hnd hpre
    gi_wp2
    refine ⟨by simp, .inl ⟨_, _, rfl, run_takeDeferred hK, ?_⟩⟩
    have hc5 := cell_kept b0 (grownBy_putObj' _ D (.deferred none)) (fun r e => by cases e; exact ⟨_, hK, rfl⟩)
    refine ⟨.bool false, ?_, by rw [@decide_eq_false _ (Classical.propDecidable _) HN.out, Bool.false_and], hB.trans (belowK_b (w := w) (Nat.le_refl _) W D _ _ (by omega) hK rfl rfl)⟩
    simp [results, Tryz.f45, go_sem, hc5]

theorem m_legal (t : Tm) (w : World) (h : TmIn w t) (hf : FewM t) (hsz : t.size ≤ 100000) :
    Calls Tryz.prog 45 #[tmV t] w fun e w' => e = .returned (.bool (legalM t)) ∧ Ext w w' := by
  refine (callsIn_wide (n := 4)).1 ((m_legal_in t w h hf hsz).mono ?_)
  rintro e w' ⟨he, hB⟩
  exact ⟨he, Ext.of_below hB (Nat.le_refl _)⟩

end Go.Proofs.YtcnkfkjgpdmebaaGreatDoor

/- Contract: the term of a proof, or why there is none (evterms.whole, evterms.Term). -/
namespace Go.Proofs.YtcnkfkjgpdmebaaGreatDoor
open Go.RowKit

theorem EvGl.lt0 {w : World} {a0 a1 : Addr} (h : EvGl w a0 a1) : 0 < w.heap.size := by
  cases e0 : w.heap[0]? with
  | none => have := h.v0; simp [World.cell?, e0] at this
  | some o => exact lt_of_obj e0
theorem EvGl.lt1 {w : World} {a0 a1 : Addr} (h : EvGl w a0 a1) : 1 < w.heap.size := by
  cases e0 : w.heap[1]? with
  | none => have := h.v1; simp [World.cell?, e0] at this
  | some o => exact lt_of_obj e0
theorem awayM_zeroE (c : Nat) : AwayM c Tm.zero := .mk (fun h => absurd rfl h) (fun h => absurd rfl h) (by intro x hx; cases hx) (fun h => absurd rfl h) (by intro k hk; cases hk)
/-- The term, or why there is none: by number. -/
def errI (a0 a1 : Addr) : Nat → Value
  | 0 => .nilIface
  | 1 => .iface 307 (.pointer (some a0))
  | _ => .iface 307 (.pointer (some a1))
structure WhOk (w w' : World) (cs : List KlD) (ins : List InD) (preds : List Pd) (given : List Tm) (p : Pf) (t : Tm) (n : Nat) : Prop where
  inn : TmIn w' t
  away : ∀ c, c < w.heap.size → (∀ g ∈ given, AwayM c g) → AwayF c p → AwayM c t
  out : (n = 1 ∧ t = Tm.zero ∧ (preds.length ≠ given.length ∨ (preds.length = given.length ∧ prv cs ins preds p = none))) ∨
    (preds.length = given.length ∧ (prv cs ins preds p).isSome = true ∧ ∃ u : Tm, u.pure = evP cs ins preds (given.map Tm.pure) p ∧ ((n = 0 ∧ t = u ∧ legalM u = true) ∨ (n = 2 ∧ t = Tm.zero ∧ legalM u = false)))
/-- A term that is one is not too great to be asked. -/
def EvFew (cs : List KlD) (ins : List InD) (preds : List Pd) (given : List Tm) (p : Pf) : Prop :=
  (prv cs ins preds p).isSome = true → preds.length = given.length → ∀ t : Tm, t.pure = evP cs ins preds (given.map Tm.pure) p → FewM t ∧ t.size ≤ 100000

set_option maxRecDepth 10000 in
set_option maxHeartbeats 2000000 in
theorem e_whole (x : EnD) (P : Option Addr) (pc : Nat) (preds : List Pd) (L : Option Addr) (lc : Nat) (given : List Tm) (hpl : ∀ y ∈ x.insts, y.preds.length ≤ 40000) (p : Pf) (a0 a1 : Addr) (w : World) (he : EnIn w x) (hP : PdsIn w P preds) (hL : TmsIn w L given) (hp : PfIn w p) (hgl : HGe w) (hev : EvGl w a0 a1) (hfew : EvFew x.classes x.insts preds given p) :
    Calls Tryz.prog 28 #[.agg #[.slice x.D x.datas.length x.dc, .slice x.C x.classes.length x.cc, .slice x.I x.insts.length x.ic, .slice P preds.length pc, .slice L given.length lc], pfV p] w fun e w' => (∃ t n, e = .returned (.tuple #[tmV t, errI a0 a1 n]) ∧ WhOk w w' x.classes x.insts preds given p t n) ∧ Ext w w' := by
  obtain ⟨W, hW⟩ : ∃ W, W = ((w.alloc (.cells #[.slice x.D x.datas.length x.dc, .slice x.C x.classes.length x.cc, .slice x.I x.insts.length x.ic, .slice P preds.length pc, .slice L given.length lc] 81)).alloc (.cells #[.int .i64 p.kind, .int .i64 p.n, .slice p.T p.types.length p.tc, .slice p.A p.kids.length p.cap] 34)).alloc (.cells #[.int .i64 0, .int .i64 0, .string ⟨#[]⟩, .slice none 0 0, .slice none 0 0, .slice none 0 0] 40) := ⟨_, rfl⟩
  have HW := hide hW.symm
  have X0 : Hid (Ext w W) := hide (by rw [hW]; exact (((Ext.refl _).alloc _).alloc _).alloc _)
  have B1 : Hid (MkBox W w.heap.size x P pc preds L lc given) := hide (by rw [hW]; exact (MkBox.new w).ext (((Ext.refl _).alloc _).alloc _))
  have B2 : Hid (FBox W (w.heap.size + 1) p) := hide (by rw [hW]; exact FBox.ext (at_newB _ _ _ (by simp)) ((Ext.refl _).alloc _))
  have B3 : Hid (W.heap[w.heap.size + 1 + 1]? = some (.cells #[.int .i64 0, .int .i64 0, .string ⟨#[]⟩, .slice none 0 0, .slice none 0 0, .slice none 0 0] 40)) := hide (by rw [hW]; exact at_newB _ _ _ (by simp))
  have HsW : Hid (W.heap.size = w.heap.size + 3) := hide (by rw [hW]; simp)
  have hl0 := hev.lt0
  have hl1 := hev.lt1
  have HGv := hide (fun w' (e : Ext W w') => hev.ext (X0.out.trans e))
  have HPv := hide (fun w' (e : Ext W w') => hide (p_proves x P pc preds p w' (he.ext (X0.out.trans e)) (hP.ext (X0.out.trans e)) (hp.ext (X0.out.trans e)) (HGe.ext hgl (X0.out.trans e))))
  have HT := hide (fun w' (e : Ext W w') (h : (prv x.classes x.insts preds p).isSome = true) (hl : given.length = preds.length) => hide (e_mterm x P pc preds L lc given hpl p w' (he.ext (X0.out.trans e)) (hP.ext (X0.out.trans e)) (hL.ext (X0.out.trans e)) (hp.ext (X0.out.trans e)) h hl (HGe.ext hgl (X0.out.trans e))))
  have HFw := hide hfew
  have HAg : Hid (∀ c, w.heap.size ≤ c → (∀ g ∈ given, AwayM c g) ∧ AwayF c p) := hide (fun c hc => ⟨fun g hg => awayM_new (hL.kids g hg) hc, awayF_new hp hc⟩)
  have HBx := hide (fun w' (e : Ext W w') => And.intro ((B1.out.ext e).lt) ((B1.out.ext e).cells))
  have HFx := hide (fun w' (e : Ext W w') => And.intro ((B2.out.ext e).lt) ((B2.out.ext e).cells))
  unfold EvFew at HFw
  clear hW he hP hL hp hgl hev hfew B1 B2
  generalize hO : prv x.classes x.insts preds p = O at *
  generalize hEv : evP x.classes x.insts preds (given.map Tm.pure) p = EV at *
  have HO := hide hO
  have HEv := hide hEv
  clear hO hEv
  unfold enV at HPv
  obtain ⟨n1, e0, e1, e2, e3, e4⟩ := HBx.out W (Ext.refl _)
  obtain ⟨n2, c0, c1, c2, c3⟩ := HFx.out W (Ext.refl _)
  unfold pfV at *
  have h2lt : w.heap.size + 1 + 1 < W.heap.size := by rw [HsW.out]; omega
  by_cases hlen : preds.length = given.length
  · have hne : ((preds.length : Int) != (given.length : Int)) = false := by simp [hlen]
    have Hlen := hide hlen
    clear hlen
    go_enter Tryz.func28, Tryz.ntmps28
    go_upto_region 1 with fail
    rw [HW.out]
    clear HW
    go_upto_region 3 with fail
    clear hne
    go_wp2_with fail
    refine (HPv.out _ (Ext.refl _)).out.mono ?_
    rintro e w2 ⟨⟨b, m, rfl, hpv⟩, hx⟩
    have X2 := hide hx
    have Hpv := hide hpv
    clear hx hpv HPv n1 e0 e1 e2 e3 e4 n2 c0 c1 c2 c3
    go_upto_region 4 with fail
    refine wp_name ?_
    intro W4 hW4
    have X4 : Hid (Ext W W4) := hide (by rw [hW4]; exact X2.out.alloc _)
    clear hW4
    cases O with
    | none =>
      obtain ⟨rfl, -⟩ := Hpv.out.no rfl
      clear Hpv HT HFw
      have gv := HGv.out W4 X4.out
      have g0 := gv.v0
      have g1 := gv.v1
      have gl0 := gv.lt0
      have gl1 := gv.lt1
      have B4 := hide ((X4.out.heap (lt_of_obj B3.out)).trans B3.out)
      obtain ⟨z0, z1, z2, z3, z4, z5, zf0, zf1, zf2, zf3, zf4, zf5⟩ := m0_cells B4.out
      have hz := lt_of_obj B4.out
      have hng : 0 ≠ w.heap.size + 1 + 1 := by omega
      have hng2 : w.heap.size + 1 + 1 ≠ 0 := by omega
      have XF := hide (putTm_ext (X0.out.trans X4.out) (by omega : w.heap.size ≤ w.heap.size + 1 + 1) Tm.zero)
      clear gv
      go_wp2
      go_region
      go_wp2
      refine bodyPost_ret (v := .tuple #[tmV Tm.zero, errI a0 a1 1]) ?_ rfl ⟨⟨Tm.zero, 1, rfl, ⟨TmIn.zero _, fun c _ _ _ => awayM_zeroE c, .inl ⟨rfl, rfl, .inr ⟨Hlen.out, HO.out⟩⟩⟩⟩, ?_⟩
      · simp [results, Tryz.f28, go_sem, z0, z1, z2, z3, z4, z5, errI]
        exact ⟨rfl, rfl, rfl, ⟨rfl, rfl, rfl⟩, ⟨rfl, rfl, rfl⟩, rfl, rfl, rfl⟩
      · exact XF.out.drew
    | some a =>
      have HT2 := hide (fun w' (e : Ext W w') => hide ((HT.out w' e rfl Hlen.out.symm).out))
      obtain ⟨rfl, -⟩ := Hpv.out.yes a rfl
      clear Hpv HT
      obtain ⟨n1, e0, e1, e2, e3, e4⟩ := HBx.out W4 X4.out
      obtain ⟨n2, c0, c1, c2, c3⟩ := HFx.out W4 X4.out
      go_wp2_with fail
      refine (HT2.out W4 X4.out).out.mono ?_
      rintro e w6 ⟨⟨t, rfl, ht⟩, hx⟩
      have X6 := hide (X4.out.trans hx)
      have Hin := hide ht.inn
      have His := hide ht.is
      have h9 := HAg.out (w.heap.size + 1 + 1) (by omega)
      have HAt := hide (ht.away (w.heap.size + 1 + 1) (by have := X4.out.size; omega) h9.1 h9.2)
      have HAll : Hid (∀ c, c < w.heap.size → (∀ g ∈ given, AwayM c g) → AwayF c p → AwayM c t) := hide (fun c hc h1 h2 => ht.away c (by have := X4.out.size; omega) h1 h2)
      obtain ⟨hf, hs⟩ := HFw.out rfl Hlen.out t (by rw [His.out])
      have HL := hide (fun w' (e : Ext w6 w') => hide (m_legal t w' (Hin.out.ext e) hf hs))
      unfold tmV at HL
      clear ht hx hf hs HFw HT2 h9 n1 e0 e1 e2 e3 e4 n2 c0 c1 c2 c3
      generalize hR : legalM t = R at *
      have HRl := hide hR
      clear hR
      go_upto_region 7 with fail
      refine wp_name ?_
      intro W7 hW7
      have E7 : Hid (Ext w6 W7) := hide (by rw [hW7]; exact (Ext.refl _).alloc _)
      have D7 : Hid (TmBox W7 w6.heap.size t) := hide (by rw [hW7]; exact TmBox.new w6 t)
      clear hW7
      obtain ⟨d0, d1, d2, d3, d4, d5⟩ := D7.out.cells
      have d6 := D7.out.lt
      go_wp2_with fail
      refine (HL.out W7 E7.out).out.mono ?_
      rintro e w9 ⟨rfl, hx⟩
      have E9 := hide (E7.out.trans hx)
      have D9 := hide (D7.out.ext hx)
      have X9 := hide (X6.out.trans E9.out)
      clear hx HL d0 d1 d2 d3 d4 d5 d6 E7 D7
      cases R
      · skip
        have gv := HGv.out w9 X9.out
        have g0 := gv.v0
        have g1 := gv.v1
        have gl0 := gv.lt0
        have gl1 := gv.lt1
        have B4 := hide ((X9.out.heap (lt_of_obj B3.out)).trans B3.out)
        obtain ⟨z0, z1, z2, z3, z4, z5, zf0, zf1, zf2, zf3, zf4, zf5⟩ := m0_cells B4.out
        have hz := lt_of_obj B4.out
        have hng : 1 ≠ w.heap.size + 1 + 1 := by omega
        have hng2 : w.heap.size + 1 + 1 ≠ 1 := by omega
        have XF := hide (putTm_ext (X0.out.trans X9.out) (by omega : w.heap.size ≤ w.heap.size + 1 + 1) Tm.zero)
        clear gv
        go_wp2
        go_region
        go_wp2
        refine bodyPost_ret (v := .tuple #[tmV Tm.zero, errI a0 a1 2]) ?_ rfl ⟨⟨Tm.zero, 2, rfl, ⟨TmIn.zero _, fun c _ _ _ => awayM_zeroE c, .inr ⟨Hlen.out, by rw [HO.out]; rfl, t, by rw [His.out, HEv.out], .inr ⟨rfl, rfl, HRl.out⟩⟩⟩⟩, ?_⟩
        · simp [results, Tryz.f28, go_sem, z0, z1, z2, z3, z4, z5, errI]
          exact ⟨rfl, rfl, rfl, ⟨rfl, rfl, rfl⟩, ⟨rfl, rfl, rfl⟩, rfl, rfl, rfl⟩
        · exact XF.out.drew
      · obtain ⟨d0, d1, d2, d3, d4, d5⟩ := D9.out.cells
        have d6 := D9.out.lt
        have B4 := hide ((X9.out.heap (lt_of_obj B3.out)).trans B3.out)
        obtain ⟨z0, z1, z2, z3, z4, z5, zf0, zf1, zf2, zf3, zf4, zf5⟩ := m0_cells B4.out
        have hz := lt_of_obj B4.out
        have XF := hide (putTm_ext (X0.out.trans X9.out) (by omega : w.heap.size ≤ w.heap.size + 1 + 1) t)
        have HI := hide ((Hin.out.ext E9.out).grown (putTm_grown w9 (w.heap.size + 1 + 1) t) (fun c e => by injection e with e; subst e; exact HAt.out))
        go_wp2
        refine bodyPost_ret (v := .tuple #[tmV t, errI a0 a1 0]) ?_ rfl ⟨⟨t, 0, rfl, ⟨HI.out, HAll.out, .inr ⟨Hlen.out, by rw [HO.out]; rfl, t, by rw [His.out, HEv.out], .inl ⟨rfl, rfl, HRl.out⟩⟩⟩⟩, XF.out⟩
        simp [results, Tryz.f28, go_sem, z0, z1, z2, z3, z4, z5, errI]
  · have hne : ((preds.length : Int) != (given.length : Int)) = true := by simp; omega
    go_enter Tryz.func28, Tryz.ntmps28
    go_upto_region 1 with fail
    rw [HW.out]
    clear HW
    have gv := HGv.out W (Ext.refl W)
    have g0 := gv.v0
    have g1 := gv.v1
    have gl0 := gv.lt0
    have gl1 := gv.lt1
    have B4 := hide (((Ext.refl W).heap (lt_of_obj B3.out)).trans B3.out)
    obtain ⟨z0, z1, z2, z3, z4, z5, zf0, zf1, zf2, zf3, zf4, zf5⟩ := m0_cells B4.out
    have hz := lt_of_obj B4.out
    have hng : 0 ≠ w.heap.size + 1 + 1 := by omega
    have hng2 : w.heap.size + 1 + 1 ≠ 0 := by omega
    have XF := hide (putTm_ext (X0.out.trans (Ext.refl W)) (by omega : w.heap.size ≤ w.heap.size + 1 + 1) Tm.zero)
    clear gv
    go_wp2
    go_region
    go_wp2
    refine bodyPost_ret (v := .tuple #[tmV Tm.zero, errI a0 a1 1]) ?_ rfl ⟨⟨Tm.zero, 1, rfl, ⟨TmIn.zero _, fun c _ _ _ => awayM_zeroE c, .inl ⟨rfl, rfl, .inl hlen⟩⟩⟩, ?_⟩
    · simp [results, Tryz.f28, go_sem, z0, z1, z2, z3, z4, z5, errI]
      exact ⟨rfl, rfl, rfl, ⟨rfl, rfl, rfl⟩, ⟨rfl, rfl, rfl⟩, rfl, rfl, rfl⟩
    · exact XF.out.drew

end Go.Proofs.YtcnkfkjgpdmebaaGreatDoor

/- Rows of classes, and looking for one by its name. -/
namespace Go.Proofs.YtcnkfkjgpdmebaaGreatDoor
open Go.RowKit

structure Cls where
  name : Str
  A : Option Addr
  cap : Nat
  sup : List Str
  meth : Value
def Cls.cells (c : Cls) : List Value := [encStr c.name, .slice c.A c.sup.length c.cap, c.meth]
def clsC : Coder Cls := ⟨3, Cls.cells, fun _ => rfl, by omega⟩
def Cls.zero : Cls := ⟨[], none, 0, [], .slice none 0 0⟩
/-- Classes that stand in memory. -/
structure Classes (w : World) (A : Option Addr) (l : List Cls) : Prop where
  row : RowOf clsC w A l
  sup : ∀ c ∈ l, Strs w c.A c.sup
  le : ∀ c ∈ l, c.sup.length ≤ c.cap ∧ c.cap ≤ 9223372036854775807

section
variable {w w' : World} {A : Option Addr} {l : List Cls}
theorem Classes.ext (h : Classes w A l) (k : Ext w w') : Classes w' A l := ⟨RowOf.ext clsC h.row k, fun c hc => (h.sup c hc).ext k, h.le⟩
theorem Classes.nil (w : World) (A : Option Addr) : Classes w A [] := ⟨RowOf.nil _ _ _, by simp, by simp⟩
theorem Classes.at_ (h : Classes w A l) {i : Nat} (hi : i < l.length) :
    ∃ b o, A = some ⟨b, o, none⟩ ∧ b < w.heap.size ∧ w.cell? ⟨b, o + i * 3, none⟩ = some (.string ⟨(l[i]'hi).name.toArray⟩) ∧
      w.cell? ⟨b, o + i * 3 + 1, none⟩ = some (.slice (l[i]'hi).A (l[i]'hi).sup.length (l[i]'hi).cap) ∧ w.cell? ⟨b, o + i * 3 + 2, none⟩ = some (l[i]'hi).meth := by
  obtain ⟨b, o, e, hb, hc⟩ := RowOf.at_ clsC h.row hi
  refine ⟨b, o, e, hb, ?_, ?_, ?_⟩
  · have := hc 0 (by decide); simpa [clsC, Cls.cells] using this
  · have := hc 1 (by decide); simpa [clsC, Cls.cells] using this
  · have := hc 2 (by decide); simpa [clsC, Cls.cells] using this
end
def names (l : List Cls) : List Str := l.map (·.name)
theorem names_len (l : List Cls) : (names l).length = l.length := by simp [names]
theorem names_get (l : List Cls) {i : Nat} (h : i < l.length) : (names l).getD i [] = (l[i]'h).name := by simp [names, h]
def atI (l : List Cls) (x : Str) : Int := idxI (names l) x

set_option maxHeartbeats 1000000 in
theorem sup_at (A : Option Addr) (cap : Nat) (l : List Cls) (x : Str) (w : World) (h : Classes w A l) (hle : l.length ≤ 9223372036854775807) :
    Calls Tryz.prog 140 #[.slice A l.length cap, encStr x] w fun e w' => e = .returned (.int .i64 (atI l x)) ∧ w' = w := by
  have Hat := hide (fun k => @idxI_at _ _ (names l) x [] k)
  have Hno := hide (idxI_no (names l) x [])
  have Hr := hide h
  have Hn : Hid (∀ i (h : i < l.length), (names l).getD i [] = (l[i]'h).name) := hide (fun i h => names_get l h)
  have Hl := hide (names_len l)
  clear h
  unfold atI
  generalize idxI (names l) x = R at *
  go_enter Tryz.func140, Tryz.ntmps140
  go_wp2
  go_loop [8] (fun i => ∃ j : Nat, j ≤ l.length ∧ i = .int .i64 j ∧ Hid (∀ i, i < j → ((names l).getD i [] == x) = false)) (fun i => l.length - (intOf i).toNat)
  case atStart => exact ⟨0, Nat.zero_le _, rfl, hide (fun i hi => absurd hi (by omega))⟩
  case round =>
    obtain ⟨j, hj, rfl, Hj⟩ := hrel
    by_cases hlt : j < l.length
    · obtain ⟨b, o, rfl, hb, hc, hc1, hc2⟩ := Hr.out.at_ hlt
      have hlt' : (j : Int) < (l.length : Int) := by omega
      have Hy : Hid ((names l).getD j [] = (l[j]'hlt).name) := hide (Hn.out j hlt)
      generalize (l[j]'hlt).name = y at *
      clear hc1 hc2
      cases hs : (y == x)
      · go_wp2
        go_round
        case rel =>
          refine ⟨j + 1, hlt, by go_num, hide (fun i hi => ?_)⟩
          by_cases hij : i = j
          · rw [hij, Hy.out]; exact hs
          · exact Hj.out i (by omega)
        case measure => simp [intOf]; omega
      · have hR := Hat.out j (by rw [Hl.out]; exact hlt) Hj.out (by rw [Hy.out]; exact hs)
        subst hR
        go_wp2
        go_ret
        exact ⟨rfl, rfl⟩
    · have hge : (l.length : Int) ≤ (j : Int) := by omega
      have hR := Hno.out (fun i hi => Hj.out i (by rw [Hl.out] at hi; omega))
      subst hR
      go_wp2
      go_ret
      exact ⟨rfl, rfl⟩

end Go.Proofs.YtcnkfkjgpdmebaaGreatDoor

/- Plain facts on classes above classes. No program in sight. -/
namespace Go.Proofs.YtcnkfkjgpdmebaaGreatDoor

/-! ### Classes above classes -/
/-- The classes right above one; none of one that there is not. -/
def supL (l : List Cls) (x : Str) : List Str := match l.find? (·.name == x) with | some c => c.sup | none => []
def restN (l : List Cls) (out : List Str) : Nat := (l.map fun c => if out.any (· == c.name) then 0 else c.sup.length).sum
def aboveGo (l : List Cls) : Nat → List Str → List Str → List Str
  | 0, out, _ => out
  | _ + 1, out, [] => out
  | f + 1, out, x :: todo => if out.any (· == x) then aboveGo l f out todo else aboveGo l f (out ++ [x]) (todo ++ supL l x)
def boundL (l : List Cls) (x : Str) : Nat := (supL l x).length + restN l []
def aboveL (l : List Cls) (x : Str) : List Str := aboveGo l (boundL l x) [] (supL l x)
theorem restN_mono (l : List Cls) (out : List Str) (x : Str) : restN l (out ++ [x]) ≤ restN l out := by
  unfold restN
  induction l with
  | nil => simp
  | cons c l ih =>
    simp only [List.map_cons, List.sum_cons]
    have : (if (out ++ [x]).any (· == c.name) = true then 0 else c.sup.length) ≤ (if out.any (· == c.name) = true then 0 else c.sup.length) := by
      rw [List.any_append]
      cases out.any (· == c.name) <;> simp
      split <;> omega
    omega
theorem restN_add (l : List Cls) (out : List Str) (x : Str) (hx : out.any (· == x) = false) : restN l (out ++ [x]) + (supL l x).length ≤ restN l out := by
  induction l with
  | nil => simp [restN, supL]
  | cons c l ih =>
    unfold restN supL at ih ⊢
    simp only [List.map_cons, List.sum_cons, List.find?_cons]
    cases hc : (c.name == x)
    · have e : (out ++ [x]).any (· == c.name) = out.any (· == c.name) := by
        rw [List.any_append]
        have : (x == c.name) = false := by
          rw [Bool.eq_false_iff] at hc ⊢
          simp at hc ⊢
          exact fun h => hc h.symm
        simp [this]
      rw [e]
      dsimp only
      omega
    · have e : c.name = x := by simpa using hc
      have h1 := restN_mono l out x
      unfold restN at h1
      rw [e, hx]
      simp
      simp at h1
      omega

/-- A class above another one. -/
inductive Up (l : List Cls) : Str → Str → Prop
  | one {x y} : y ∈ supL l x → Up l x y
  | step {x y z} : Up l x y → z ∈ supL l y → Up l x z
theorem Up.trans {l : List Cls} {x y z : Str} (h : Up l x y) (k : Up l y z) : Up l x z := by
  induction k with
  | one h1 => exact .step h h1
  | step _ h1 ih => exact .step ih h1
theorem any_eq_mem (l : List Str) (x : Str) : l.any (· == x) = true ↔ x ∈ l := by simp
theorem any_eq_not (l : List Str) (x : Str) : l.any (· == x) = false ↔ x ∉ l := by rw [Bool.eq_false_iff]; exact not_congr (any_eq_mem l x)
theorem aboveGo_spec (l : List Cls) (x : Str) : ∀ (f : Nat) (out todo : List Str), todo.length + restN l out ≤ f → out.Nodup → (∀ y ∈ out, Up l x y) → (∀ y ∈ todo, Up l x y) →
    (∀ y ∈ supL l x, y ∈ out ∨ y ∈ todo) → (∀ y ∈ out, ∀ z ∈ supL l y, z ∈ out ∨ z ∈ todo) →
    (aboveGo l f out todo).Nodup ∧ ∀ y, y ∈ aboveGo l f out todo ↔ Up l x y
  | 0, out, todo, hf, hn, h1, h2, h3, h4 => by
    have : todo = [] := List.eq_nil_of_length_eq_zero (by omega)
    subst this
    refine ⟨hn, fun y => ⟨h1 y, fun hy => ?_⟩⟩
    show y ∈ out
    induction hy with
    | one hh => simpa using h3 _ hh
    | step _ hh ih => simpa using h4 _ ih _ hh
  | f + 1, out, [], hf, hn, h1, h2, h3, h4 => by
    refine ⟨hn, fun y => ⟨h1 y, fun hy => ?_⟩⟩
    show y ∈ out
    induction hy with
    | one hh => simpa using h3 _ hh
    | step _ hh ih => simpa using h4 _ ih _ hh
  | f + 1, out, y :: todo, hf, hn, h1, h2, h3, h4 => by
    simp only [List.length_cons] at hf
    unfold aboveGo
    cases ho : out.any (· == y)
    · simp only [Bool.false_eq_true, ↓reduceIte]
      have hy := (any_eq_not out y).1 ho
      have hu := h2 y (by simp)
      have := restN_add l out y ho
      refine aboveGo_spec l x f _ _ (by rw [List.length_append]; omega) ?_ ?_ ?_ ?_ ?_
      · exact List.nodup_append.2 ⟨hn, by simp, fun a ha b hb e => by simp at hb; subst hb; subst e; exact hy ha⟩
      · intro z hz
        rcases List.mem_append.1 hz with hz | hz
        · exact h1 z hz
        · simp at hz; subst hz; exact hu
      · intro z hz
        rcases List.mem_append.1 hz with hz | hz
        · exact h2 z (by simp [hz])
        · exact hu.step hz
      · intro z hz
        rcases h3 z hz with h | h
        · exact .inl (by simp [h])
        · rcases List.mem_cons.1 h with rfl | h
          · exact .inl (by simp)
          · exact .inr (by simp [h])
      · intro z hz u hu'
        rcases List.mem_append.1 hz with hz | hz
        · rcases h4 z hz u hu' with h | h
          · exact .inl (by simp [h])
          · rcases List.mem_cons.1 h with rfl | h
            · exact .inl (by simp)
            · exact .inr (by simp [h])
        · simp at hz; subst hz; exact .inr (by simp [hu'])
    · simp only [↓reduceIte]
      have hy := (any_eq_mem out y).1 ho
      refine aboveGo_spec l x f _ _ (by omega) hn h1 (fun z hz => h2 z (by simp [hz])) ?_ ?_
      · intro z hz
        rcases h3 z hz with h | h
        · exact .inl h
        · rcases List.mem_cons.1 h with rfl | h
          · exact .inl hy
          · exact .inr h
      · intro z hz u hu'
        rcases h4 z hz u hu' with h | h
        · exact .inl h
        · rcases List.mem_cons.1 h with rfl | h
          · exact .inl hy
          · exact .inr h
theorem aboveL_spec (l : List Cls) (x : Str) : (aboveL l x).Nodup ∧ ∀ y, y ∈ aboveL l x ↔ Up l x y :=
  aboveGo_spec l x _ _ _ (Nat.le_refl _) List.nodup_nil (by simp) (fun y hy => .one hy) (fun y hy => .inr hy) (by simp)

/-! ### Looking at all -/
def firstI (p : Nat → Bool) (n : Nat) : Option Nat := (List.range n).find? p
theorem firstI_at (p : Nat → Bool) : ∀ n k, k < n → (∀ j, j < k → p j = false) → p k = true → firstI p n = some k := by
  intro n k hk h1 h2
  unfold firstI
  rw [List.find?_eq_some_iff_append]
  refine ⟨h2, List.range k, (List.range' (k + 1) (n - k - 1)), ?_, ?_⟩
  · rw [List.range_eq_range', List.range_eq_range']
    have : List.range' 0 n = List.range' 0 k ++ List.range' (0 + 1 * k) (n - k) := by
      rw [List.range'_append]; congr 1; omega
    rw [this, show n - k = (n - k - 1) + 1 by omega, List.range'_succ]
    simp
  · intro j hj
    simp at hj
    simp [h1 j hj]
theorem firstI_none (p : Nat → Bool) (n : Nat) (h : ∀ j, j < n → p j = false) : firstI p n = none := by
  unfold firstI
  rw [List.find?_eq_none]
  intro j hj
  simp at hj
  simp [h j hj]
theorem firstI_none' {p : Nat → Bool} {n : Nat} (h : firstI p n = none) : ∀ j, j < n → p j = false := by
  intro j hj
  unfold firstI at h
  rw [List.find?_eq_none] at h
  have := h j (by simpa using hj)
  simpa using this

theorem atI_cases (l : List Cls) (x : Str) : (atI l x = -1 ∧ supL l x = [] ∧ x ∉ names l) ∨ ∃ k, ∃ h : k < l.length, atI l x = (k : Int) ∧ supL l x = (l[k]'h).sup ∧ (l[k]'h).name = x := by
  cases hf : l.find? (·.name == x) with
  | none =>
    left
    rw [List.find?_eq_none] at hf
    refine ⟨?_, by unfold supL; rw [List.find?_eq_none.2 hf], ?_⟩
    · refine idxI_no (names l) x [] fun j hj => ?_
      have hj' : j < l.length := by rw [names_len] at hj; exact hj
      rw [names_get l hj']
      have := hf _ (List.getElem_mem hj')
      simpa using this
    · intro hm
      obtain ⟨c, hc, e⟩ := List.mem_map.1 hm
      have := hf c hc
      simp [e] at this
  | some c =>
    right
    obtain ⟨hp, k, hk, e, hall⟩ := List.find?_eq_some_iff_getElem.1 hf
    refine ⟨k, hk, ?_, by unfold supL; rw [hf, e], by rw [e]; simpa using hp⟩
    refine idxI_at (names l) x [] (by rw [names_len]; exact hk) (fun j hj => ?_) ?_
    · have hj' : j < l.length := by omega
      rw [names_get l hj']
      have := hall j hj
      simpa using this
    · rw [names_get l hk, e]
      exact hp
end Go.Proofs.YtcnkfkjgpdmebaaGreatDoor
