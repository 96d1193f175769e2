/- Contracts: predicates that are the same; schemes that are the same, but for names. (A program of ours has printed this.) -/
import Derived.Test.YtmjiljhcjfnfpaaGreatJS28
import Derived.Deep.RegionHeld3
import Derived.Deep.DeepCutAuto
/- Contracts: predicates that are the same; schemes that are the same, but for names. (A program of ours has printed this.) -/
namespace Go.Proofs.YtmjiljhcjfnfpaaGreat
open Go.RowKit Go.Shelf Go.Sort

set_option maxRecDepth 10000 in
set_option maxHeartbeats 1000000 in
theorem p_same (a b : Pd) (w : World) (ha : TyIn w a.ty) (hb : TyIn w b.ty) :
    Calls Tryz.prog 24 #[pdV a, pdV b] w fun e w' => e = .returned (.bool (a.cls == b.cls && sameB a.ty b.ty)) ∧ Ext w w' := by
  obtain ⟨W, hW⟩ : ∃ W, W = (w.alloc (.cells #[encStr a.cls, encStr a.ty.con, .int .i64 a.ty.var, .slice a.ty.A a.ty.args.length a.ty.cap] 40)).alloc (.cells #[encStr b.cls, encStr b.ty.con, .int .i64 b.ty.var, .slice b.ty.A b.ty.args.length b.ty.cap] 40) := ⟨_, rfl⟩
  have HW := hide hW.symm
  have X0 : Hid (Ext w W) := hide (by rw [hW]; exact ((Ext.refl _).alloc _).alloc _)
  have B1 : Hid (PdBox W w.heap.size a) := hide (by rw [hW]; exact (PdBox.new w a).ext ((Ext.refl _).alloc _))
  have B2 : Hid (PdBox W (w.heap.size + 1) b) := hide (by rw [hW]; exact at_newB _ _ _ (by simp))
  have HS := hide (t_same a.ty b.ty W (ha.ext X0.out) (hb.ext X0.out))
  obtain ⟨c0, c1, c2, c3⟩ := B1.out.cells
  obtain ⟨d0, d1, d2, d3⟩ := B2.out.cells
  have hb1 := B1.out.lt
  have hb2 := B2.out.lt
  clear hW ha hb
  unfold tyV at HS
  unfold pdV
  generalize sameB a.ty b.ty = R at *
  cases hq : (a.cls == b.cls)
  · go_enter Tryz.func24, Tryz.ntmps24
    go_upto_region 1 with fail
    rw [HW.out]
    go_wp2
    go_ret
    exact ⟨rfl, X0.out⟩
  · go_enter Tryz.func24, Tryz.ntmps24
    go_upto_region 1 with fail
    rw [HW.out]
    go_wp2_with fail
    refine HS.out.mono ?_
    rintro e w2 ⟨rfl, hx⟩
    go_wp2
    go_ret
    exact ⟨rfl, X0.out.trans hx⟩
/-- What a predicate says. -/
noncomputable def pkey (p : Pd) : Str × Ty.Pure := (p.cls, p.ty.pure)
theorem same_key {a b : Pd} : (a.cls == b.cls && sameB a.ty b.ty) = true ↔ pkey a = pkey b := by
  rw [Bool.and_eq_true, beq_iff_eq, sameB_iff]
  unfold pkey
  rw [Prod.mk.injEq]

set_option maxRecDepth 10000 in
set_option maxHeartbeats 4000000 in
theorem eq_fp (A B : Option Addr) (ca cb : Nat) (l m : List Pd) (R : Bool) (hR : R = true ↔ l.map pkey = m.map pkey) (w : World) (hl : PdsIn w A l) (hm : PdsIn w B m) (hn : l.length ≤ 9223372036854775807) :
    Calls Tryz.prog 23 #[.slice A l.length ca, .slice B m.length cb, .func (.func 24) #[] #[]] w fun e w' => e = .returned (.bool R) ∧ Ext w w' := by
  have HL := hide hl
  have HM := hide hm
  have HR := hide hR
  clear hl hm hR
  by_cases hlen : l.length = m.length
  case neg =>
    have h1 : ((l.length : Int) != (m.length : Int)) = true := by simp; omega
    have h2 : (l.length != m.length) = true := by simpa using hlen
    have h3 : (l.length == m.length) = false := by simpa using hlen
    have h4 : ((l.length : Int) == (m.length : Int)) = false := by simp; omega
    have hF : R = false := by
      rw [← Bool.not_eq_true, HR.out]
      intro e
      exact hlen (by simpa using congrArg List.length e)
    clear HR hlen
    subst hF
    generalize l.length = ll at *
    generalize m.length = mm at *
    go_enter Tryz.func23, Tryz.ntmps23
    go_wp2
    go_ret
    exact ⟨rfl, Ext.refl _⟩
  have HLn := hide hlen
  have h0 : Hid (∀ i (h1 : i < l.length) (h2 : i < m.length), pkey (l[i]'h1) ≠ pkey (m[i]'h2) → R = false) := hide (fun i h1 h2 h3 => by
    rw [← Bool.not_eq_true, HR.out]
    intro e
    have : (l.map pkey)[i]? = (m.map pkey)[i]? := by rw [e]
    rw [List.getElem?_map, List.getElem?_map, List.getElem?_eq_getElem h1, List.getElem?_eq_getElem h2] at this
    exact h3 (by simpa using this))
  have hyes : Hid ((∀ i (h1 : i < l.length) (h2 : i < m.length), pkey (l[i]'h1) = pkey (m[i]'h2)) → R = true) := hide (fun h => HR.out.2 (List.ext_getElem (by simp [HLn.out]) fun i h1 h2 => by
    rw [List.getElem_map, List.getElem_map]
    exact h i (by simpa using h1) (by simpa using h2)))
  rw [← hlen]
  clear hlen HR
  go_enter Tryz.func23, Tryz.ntmps23
  go_wp2
  go_loopw [17] (fun i wr => ∃ k : Nat, k ≤ l.length ∧ i = .int .i64 k ∧ Hid (∀ i (h1 : i < l.length) (h2 : i < m.length), i < k → pkey (l[i]'h1) = pkey (m[i]'h2)) ∧ Hid (Ext w wr)) (fun i _ => l.length - (intOf i).toNat)
  case atStart => exact ⟨0, Nat.zero_le _, rfl, hide (fun i _ _ h => absurd h (by omega)), hide (by repeat (first | exact Ext.refl _ | exact Ext.pre (by simp) | exact Ext.alloc (by assumption) _ | refine Ext.alloc ?_ _ |  refine Ext.more ?_ _ _ | refine Ext.drew ?_ | refine Ext.drewN ?_ _))⟩
  case round =>
    obtain ⟨k, hk, rfl, HQ, HX⟩ := hrel
    by_cases hlt : k < l.length
    · have hltb : k < m.length := by rw [← HLn.out]; exact hlt
      have hlt' : (k : Int) < (l.length : Int) := by omega
      have hk0 : (0 : Int) ≤ (k : Int) := by omega
      obtain ⟨p, o, hA, hp, q0, q1, q2, q3⟩ := (HL.out.ext HX.out).at_ hlt
      obtain ⟨p', o', hB, hp', r0, r1, r2, r3⟩ := (HM.out.ext HX.out).at_ hltb
      have HC := hide (fun w' (e : Ext w w') => hide (p_same (l[k]'hlt) (m[k]'hltb) w' ((HL.out.all _ (List.getElem_mem hlt)).ty.ext e) ((HM.out.all _ (List.getElem_mem hltb)).ty.ext e)))
      obtain ⟨S, hS⟩ : ∃ S, S = ((l[k]'hlt).cls == (m[k]'hltb).cls && sameB (l[k]'hlt).ty (m[k]'hltb).ty) := ⟨_, rfl⟩
      rw [← hS] at HC
      have HS : Hid (S = true ↔ pkey (l[k]'hlt) = pkey (m[k]'hltb)) := hide (by rw [hS]; exact same_key)
      have HNo := hide (h0.out k hlt hltb)
      have HQ2 : Hid (pkey (l[k]'hlt) = pkey (m[k]'hltb) → ∀ i (h1 : i < l.length) (h2 : i < m.length), i < k + 1 → pkey (l[i]'h1) = pkey (m[i]'h2)) := hide (fun e i h1 h2 h3 => by
        by_cases hik : i = k
        · subst hik; exact e
        · exact HQ.out i h1 h2 (by omega))
      clear hS
      generalize l[k]'hlt = x at *
      generalize m[k]'hltb = y at *
      rw [hA, hB]
      clear hA hB
      unfold pdV at HC
      go_wp2_with fail
      refine (HC.out _ ((HX.out.alloc _).alloc _)).out.mono ?_
      rintro e w5 ⟨rfl, hx5⟩
      have X5 := hide (((HX.out.alloc _).alloc _).trans hx5)
      clear hx5 q0 q1 q2 q3 r0 r1 r2 r3
      cases hSb : S
      · have hF := HNo.out (fun e => by rw [HS.out.2 e] at hSb; cases hSb)
        clear HNo HQ2 HS hSb hyes h0 HQ
        subst hF
        go_wp2
        go_ret
        exact ⟨rfl, X5.out⟩
      · have HQ3 := hide (HQ2.out (HS.out.1 hSb))
        clear HNo HQ2 HS hSb
        go_wp2
        go_roundw
        case rel => exact ⟨k + 1, hlt, by go_num, HQ3, X5⟩
        case measure => simp [intOf]; omega
    · have hge : ¬ (k : Int) < (l.length : Int) := by omega
      have hT := hyes.out (fun i h1 h2 => HQ.out i h1 h2 (by omega))
      clear hyes h0 HQ
      subst hT
      go_wp2
      go_ret
      exact ⟨rfl, HX.out⟩

/-! ### Two schemes that are made, in a drawn order -/
def ScAw (c : Nat) (sc : Sc) : Prop := awayB c sc.ty = true ∧ (∀ d ∈ sc.preds, awayB c d.ty = true) ∧ (sc.preds ≠ [] → ∀ a, sc.A = some a → a.block ≠ c)
theorem sc_away {w v y : World} {s sc : Sc} (hp : PlnOk v y s sc) (H : ScIn w s) : ∀ c, w.heap.size ≤ c → (c < v.heap.size ∨ y.heap.size ≤ c) → ScAw c sc := by
  intro c h1 h2
  rcases h2 with h2 | h2
  · exact ⟨hp.off.ty c h2 (away_new H.ty h1), fun d hd => hp.off.ps d hd c h2 (fun x hx => away_new (H.row.all x hx).ty h1), fun hn a ha => by have := hp.off.row hn a ha; omega⟩
  · refine ⟨away_new hp.inn.ty h2, fun d hd => away_new (hp.inn.row.all d hd).ty h2, fun hn a ha => ?_⟩
    obtain ⟨b, o, e, hb, -⟩ := hp.inn.row.row.2 (List.length_pos_iff.2 hn)
    rw [ha] at e
    injection e with e
    subst e
    show b ≠ c
    omega
theorem sc_grown {w w' : World} {sc : Sc} {c : Nat} (h : ScIn w sc) (hg : w.grownBy w' (some c)) (ha : ScAw c sc) : ScIn w' sc := h.grown hg ha.1 ha.2.1 ha.2.2
/-- Where the cut lies: both are in memory. -/
def RelSc (W wx : World) (b3 b4 : Nat) (p q : Sc) : Prop := Ext W wx ∧ ScBox wx b3 p ∧ ScBox wx b4 q ∧ ScIn wx p ∧ ScIn wx q
/-- A scheme with the numbers of another one. -/
def NumIs (s sc : Sc) : Prop := sc.ty.pure = renP (numS s) s.ty ∧ sc.preds.map (fun d => (d.cls, d.ty.pure)) = s.preds.map fun x => (x.cls, renP (numS s) x.ty)
theorem same_num {a b p q : Sc} (ha : scB a = true) (hb : scB b = true) (hn : a.n = b.n) (hp : NumIs a p) (hq : NumIs b q) (R2 : Bool) (h2 : R2 = true ↔ p.preds.map pkey = q.preds.map pkey) : sameS a b = (sameB p.ty q.ty && R2) := by
  rw [Bool.eq_iff_iff, sameS_iff, Bool.and_eq_true, sameB_iff, h2, hp.1, hq.1]
  have e1 : p.preds.map pkey = a.preds.map fun x => (x.cls, renP (numS a) x.ty) := hp.2
  have e2 : q.preds.map pkey = b.preds.map fun x => (x.cls, renP (numS b) x.ty) := hq.2
  rw [e1, e2, map_iff]
  unfold tyS
  rw [List.map_cons, List.map_cons, List.cons.injEq]
  constructor
  · rintro ⟨-, -, -, h3, h4, h5⟩; exact ⟨h4, h3, h5⟩
  · rintro ⟨h4, h3, h5⟩; exact ⟨ha, hb, hn, h3, h4, h5⟩
theorem ha5_hit {w : World} {o : Obj} {n : Nat} (h : n = w.heap.size) : (w.alloc o).heap[n]? = some o := by subst h; exact heap_alloc_new w o
theorem ha5_miss {w : World} {o o' : Obj} {n : Nat} (_h : n ≠ w.heap.size) (k : w.heap[n]? = some o') : (w.alloc o).heap[n]? = some o' := (((Ext.refl w).alloc o).heap (lt_of_obj k)).trans k
theorem hd5_drew {w : World} {o' : Obj} {n : Nat} (k : w.heap[n]? = some o') : w.drew.heap[n]? = some o' := k
theorem zb5 {v y : World} {B : Nat} (hx : Ext v y) (h : v.heap[B]? = some (.cells #[.int .i64 0, .slice none 0 0, .string ⟨#[]⟩, .int .i64 0, .slice none 0 0] 27 (0, 0))) : y.heap[B]? = some (.cells #[.int .i64 0, .slice none 0 0, .string ⟨#[]⟩, .int .i64 0, .slice none 0 0] 27 (0, 0)) := (hx.heap (lt_of_obj h)).trans h
theorem sz5_drew (w : World) : w.drew.heap.size = w.heap.size := rfl
section
variable {W y : World} {b3 b4 : Nat} {p q : Sc}
theorem end5A (hV : Ext W y) (z3 : y.heap[b3]? = some (.cells #[.int .i64 0, .slice none 0 0, .string ⟨#[]⟩, .int .i64 0, .slice none 0 0] 27 (0, 0))) (z4 : y.heap[b4]? = some (.cells #[.int .i64 0, .slice none 0 0, .string ⟨#[]⟩, .int .i64 0, .slice none 0 0] 27 (0, 0))) (hne : b3 ≠ b4) (h3 : W.heap.size ≤ b3) (h4 : W.heap.size ≤ b4) (hp : ScIn y p) (hq : ScIn y q) (p3 : ScAw b3 p) (p4 : ScAw b4 p) (q3 : ScAw b3 q) (q4 : ScAw b4 q) :
    RelSc W (((((((((((y).setCell ⟨b3, 0, none⟩ (.int .i64 p.n)).setCell ⟨b3, 1, none⟩ (.slice p.A p.preds.length p.cap)).setCell ⟨b3, 2, none⟩ (.string ⟨p.ty.con.toArray⟩)).setCell ⟨b3, 3, none⟩ (.int .i64 p.ty.var)).setCell ⟨b3, 4, none⟩ (.slice p.ty.A p.ty.args.length p.ty.cap)).setCell ⟨b4, 0, none⟩ (.int .i64 q.n)).setCell ⟨b4, 1, none⟩ (.slice q.A q.preds.length q.cap)).setCell ⟨b4, 2, none⟩ (.string ⟨q.ty.con.toArray⟩)).setCell ⟨b4, 3, none⟩ (.int .i64 q.ty.var)).setCell ⟨b4, 4, none⟩ (.slice q.ty.A q.ty.args.length q.ty.cap)) b3 b4 p q := by
  have g1 := putSc_grown y b3 p
  have g2 := putSc_grown (putSc y b3 p) b4 q
  have z4' := (g1.block b4 (lt_of_obj z4) (fun e => hne (by injection e with e; exact e.symm))).trans z4
  have b1 : ScBox (putSc y b3 p) b3 p := putSc_box z3 p
  exact ⟨(hV.grown g1 (fun c e => by injection e with e; omega)).grown g2 (fun c e => by injection e with e; omega), (g2.block b3 b1.lt (fun e => hne (by injection e with e))).trans b1, putSc_box z4' q, sc_grown (sc_grown hp g1 p3) g2 p4, sc_grown (sc_grown hq g1 q3) g2 q4⟩
theorem end5B (hV : Ext W y) (z3 : y.heap[b3]? = some (.cells #[.int .i64 0, .slice none 0 0, .string ⟨#[]⟩, .int .i64 0, .slice none 0 0] 27 (0, 0))) (h3 : W.heap.size ≤ b3) (hp : ScIn y p) (hq : ScIn y q) (p3 : ScAw b3 p) (q3 : ScAw b3 q) :
    RelSc W (((((((y).setCell ⟨b3, 0, none⟩ (.int .i64 p.n)).setCell ⟨b3, 1, none⟩ (.slice p.A p.preds.length p.cap)).setCell ⟨b3, 2, none⟩ (.string ⟨p.ty.con.toArray⟩)).setCell ⟨b3, 3, none⟩ (.int .i64 p.ty.var)).setCell ⟨b3, 4, none⟩ (.slice p.ty.A p.ty.args.length p.ty.cap)).alloc (.cells #[.int .i64 q.n, .slice q.A q.preds.length q.cap, .string ⟨q.ty.con.toArray⟩, .int .i64 q.ty.var, .slice q.ty.A q.ty.args.length q.ty.cap] 27)) b3 y.heap.size p q := by
  have g := putSc_grown y b3 p
  have b1 : ScBox (putSc y b3 p) b3 p := putSc_box z3 p
  have E : Ext (putSc y b3 p) ((putSc y b3 p).alloc (.cells #[.int .i64 q.n, .slice q.A q.preds.length q.cap, .string ⟨q.ty.con.toArray⟩, .int .i64 q.ty.var, .slice q.ty.A q.ty.args.length q.ty.cap] 27)) := (Ext.refl _).alloc _
  exact ⟨(hV.grown g (fun c e => by injection e with e; omega)).trans E, b1.ext E, at_newB _ _ _ (by simp [World.setCell]), (sc_grown hp g p3).ext E, (sc_grown hq g q3).ext E⟩
theorem end5C (hV : Ext W y) (z4 : y.heap[b4]? = some (.cells #[.int .i64 0, .slice none 0 0, .string ⟨#[]⟩, .int .i64 0, .slice none 0 0] 27 (0, 0))) (h4 : W.heap.size ≤ b4) (hp : ScIn y p) (hq : ScIn y q) (p4 : ScAw b4 p) (q4 : ScAw b4 q) :
    RelSc W (((((((y).setCell ⟨b4, 0, none⟩ (.int .i64 q.n)).setCell ⟨b4, 1, none⟩ (.slice q.A q.preds.length q.cap)).setCell ⟨b4, 2, none⟩ (.string ⟨q.ty.con.toArray⟩)).setCell ⟨b4, 3, none⟩ (.int .i64 q.ty.var)).setCell ⟨b4, 4, none⟩ (.slice q.ty.A q.ty.args.length q.ty.cap)).alloc (.cells #[.int .i64 p.n, .slice p.A p.preds.length p.cap, .string ⟨p.ty.con.toArray⟩, .int .i64 p.ty.var, .slice p.ty.A p.ty.args.length p.ty.cap] 27)) y.heap.size b4 p q := by
  have h := end5B hV z4 h4 hq hp q4 p4
  exact ⟨h.1, h.2.2.1, h.2.1, h.2.2.2.2, h.2.2.2.1⟩
theorem end5D (hV : Ext W y) (hp : ScIn y p) (hq : ScIn y q) : RelSc W ((y.alloc (.cells #[.int .i64 p.n, .slice p.A p.preds.length p.cap, .string ⟨p.ty.con.toArray⟩, .int .i64 p.ty.var, .slice p.ty.A p.ty.args.length p.ty.cap] 27)).alloc (.cells #[.int .i64 q.n, .slice q.A q.preds.length q.cap, .string ⟨q.ty.con.toArray⟩, .int .i64 q.ty.var, .slice q.ty.A q.ty.args.length q.ty.cap] 27)) y.heap.size (y.heap.size + 1) p q := by
  have E1 : Ext y (y.alloc (.cells #[.int .i64 p.n, .slice p.A p.preds.length p.cap, .string ⟨p.ty.con.toArray⟩, .int .i64 p.ty.var, .slice p.ty.A p.ty.args.length p.ty.cap] 27)) := (Ext.refl _).alloc _
  have E2 : Ext (y.alloc (.cells #[.int .i64 p.n, .slice p.A p.preds.length p.cap, .string ⟨p.ty.con.toArray⟩, .int .i64 p.ty.var, .slice p.ty.A p.ty.args.length p.ty.cap] 27)) ((y.alloc (.cells #[.int .i64 p.n, .slice p.A p.preds.length p.cap, .string ⟨p.ty.con.toArray⟩, .int .i64 p.ty.var, .slice p.ty.A p.ty.args.length p.ty.cap] 27)).alloc (.cells #[.int .i64 q.n, .slice q.A q.preds.length q.cap, .string ⟨q.ty.con.toArray⟩, .int .i64 q.ty.var, .slice q.ty.A q.ty.args.length q.ty.cap] 27)) := (Ext.refl _).alloc _
  exact ⟨hV.trans (E1.trans E2), (ScBox.new y p).ext E2, at_newB _ _ _ (by simp), hp.ext (E1.trans E2), hq.ext (E1.trans E2)⟩
theorem end5E (hV : Ext W y) (hp : ScIn y p) (hq : ScIn y q) : RelSc W ((y.alloc (.cells #[.int .i64 q.n, .slice q.A q.preds.length q.cap, .string ⟨q.ty.con.toArray⟩, .int .i64 q.ty.var, .slice q.ty.A q.ty.args.length q.ty.cap] 27)).alloc (.cells #[.int .i64 p.n, .slice p.A p.preds.length p.cap, .string ⟨p.ty.con.toArray⟩, .int .i64 p.ty.var, .slice p.ty.A p.ty.args.length p.ty.cap] 27)) (y.heap.size + 1) y.heap.size p q := by
  have h := end5D hV hq hp
  exact ⟨h.1, h.2.2.1, h.2.1, h.2.2.2.2, h.2.2.2.1⟩
end

end Go.Proofs.YtmjiljhcjfnfpaaGreat

/- Contract: schemes that are the same, but for names. (A program of ours has printed this.) -/
namespace Go.Proofs.YtmjiljhcjfnfpaaGreat
open Go.RowKit Go.Shelf Go.Sort

set_option maxRecDepth 10000 in
set_option maxHeartbeats 16000000 in
theorem s_same (a b : Sc) (w : World) (ha : ScIn w a) (hb : ScIn w b) (hla : a.preds.length ≤ 40000) (hlb : b.preds.length ≤ 40000) (hza : a.ty.size + psz a.preds ≤ 50000) (hzb : b.ty.size + psz b.preds ≤ 50000) :
    Calls Tryz.prog 8 #[scV a, scV b] w fun e w' => e = .returned (.bool (sameS a b)) ∧ Ext w w' := by
  obtain ⟨W, hW⟩ : ∃ W, W = (w.alloc (.cells #[.int .i64 a.n, .slice a.A a.preds.length a.cap, encStr a.ty.con, .int .i64 a.ty.var, .slice a.ty.A a.ty.args.length a.ty.cap] 27)).alloc (.cells #[.int .i64 b.n, .slice b.A b.preds.length b.cap, encStr b.ty.con, .int .i64 b.ty.var, .slice b.ty.A b.ty.args.length b.ty.cap] 27) := ⟨_, rfl⟩
  have HW := hide hW.symm
  have X0 : Hid (Ext w W) := hide (by rw [hW]; exact ((Ext.refl _).alloc _).alloc _)
  have B1 : Hid (ScBox W w.heap.size a) := hide (by rw [hW]; exact (ScBox.new w a).ext ((Ext.refl _).alloc _))
  have B2 : Hid (ScBox W (w.heap.size + 1) b) := hide (by rw [hW]; exact at_newB _ _ _ (by simp))
  have HA := hide ha
  have HB := hide hb
  have HLa := hide (fun w' (e : Ext W w') => hide (s_legal a w' (ha.ext (X0.out.trans e)) hla hza))
  have HLb := hide (fun w' (e : Ext W w') => hide (s_legal b w' (hb.ext (X0.out.trans e)) hlb hzb))
  have HPa := hide (fun (hs : scB a = true) w' (e : Ext W w') => hide (s_plain a w' (ha.ext (X0.out.trans e)) (scB_leg hs) hla hza))
  have HPb := hide (fun (hs : scB b = true) w' (e : Ext W w') => hide (s_plain b w' (hb.ext (X0.out.trans e)) (scB_leg hs) hlb hzb))
  obtain ⟨R, hR⟩ : ∃ R, R = sameS a b := ⟨_, rfl⟩
  have HR := hide hR
  rw [← hR]
  clear hR hW ha hb
  unfold scV at *
  obtain ⟨c0, c1, c2, c3, c4⟩ := B1.out.cells
  have lc := B1.out.lt
  go_enter Tryz.func8, Tryz.ntmps8
  go_upto_region 1 with fail
  rw [HW.out]
  clear HW
  go_wp2_with fail
  refine (HLa.out _ (Ext.refl W)).out.mono ?_
  rintro e w1 ⟨rfl, hx⟩
  have X1 := hide hx
  clear hx c0 c1 c2 c3 c4 lc HLa
  cases hsa : scB a
  · have hF : R = false := by rw [HR.out]; unfold sameS; rw [hsa]; rfl
    clear HR HPa HPb
    subst hF
    go_wp2
    go_ret
    exact ⟨rfl, X0.out.trans X1.out⟩
  have Hsa := hide hsa
  clear hsa
  obtain ⟨d0, d1, d2, d3, d4⟩ := (B2.out.ext X1.out).cells
  have ld := (B2.out.ext X1.out).lt
  go_wp2_with fail
  refine (HLb.out _ X1.out).out.mono ?_
  rintro e w2 ⟨rfl, hx⟩
  have X2 := hide (X1.out.trans hx)
  clear hx d0 d1 d2 d3 d4 ld HLb X1
  cases hsb : scB b
  · have hF : R = false := by rw [HR.out]; unfold sameS; rw [Hsa.out, hsb]; rfl
    clear HR HPa HPb
    subst hF
    go_wp2
    go_ret
    exact ⟨rfl, X0.out.trans X2.out⟩
  have Hsb := hide hsb
  clear hsb
  obtain ⟨c0, c1, c2, c3, c4⟩ := (B1.out.ext X2.out).cells
  have lc := (B1.out.ext X2.out).lt
  obtain ⟨d0, d1, d2, d3, d4⟩ := (B2.out.ext X2.out).cells
  have ld := (B2.out.ext X2.out).lt
  by_cases hn : a.n = b.n
  case neg =>
    have hF : R = false := by rw [HR.out]; unfold sameS; rw [decide_eq_false hn]; simp
    have g1 : (a.n != b.n) = true := by simpa using hn
    have g2 : (a.n == b.n) = false := by simpa using hn
    clear HR HPa HPb hn
    subst hF
    go_wp2
    go_ret
    exact ⟨rfl, X0.out.trans X2.out⟩
  have Hn := hide hn
  have g1 : (a.n != b.n) = false := by simpa using hn
  have g2 : (a.n == b.n) = true := by simpa using hn
  clear hn
  have HO1 := hide (HPa.out Hsa.out)
  have HO2 := hide (HPb.out Hsb.out)
  clear HPa HPb
  go_upto_region 3 with fail
  have HS := hide (fun w' (e : Ext W w') => (And.intro (B1.out.ext e).cells.1 (And.intro (B1.out.ext e).cells.2.1 (And.intro (B1.out.ext e).cells.2.2.1 (And.intro (B1.out.ext e).cells.2.2.2.1 (And.intro (B1.out.ext e).cells.2.2.2.2 (B2.out.ext e).cells))))))
  have hw0 := X0.out.size
  have hw2 := X2.out.size
  go_cut [5, 6] (fun s5 s6 wx => ∃ b3 b4 p q, s5 = .pointer (some ⟨b3, 0, none⟩) ∧ s6 = .pointer (some ⟨b4, 0, none⟩) ∧ Hid (RelSc W wx b3 b4 p q) ∧ Hid (NumIs a p ∧ NumIs b q))
  case first =>
    go_region_held3 (fun w' => w'.cell? ⟨w.heap.size, 0, none⟩ = some (.int .i64 a.n) ∧ w'.cell? ⟨w.heap.size, 1, none⟩ = some (.slice a.A a.preds.length a.cap) ∧ w'.cell? ⟨w.heap.size, 2, none⟩ = some (encStr a.ty.con) ∧ w'.cell? ⟨w.heap.size, 3, none⟩ = some (.int .i64 a.ty.var) ∧ w'.cell? ⟨w.heap.size, 4, none⟩ = some (.slice a.ty.A a.ty.args.length a.ty.cap) ∧ w'.cell? ⟨w.heap.size + 1, 0, none⟩ = some (.int .i64 b.n) ∧ w'.cell? ⟨w.heap.size + 1, 1, none⟩ = some (.slice b.A b.preds.length b.cap) ∧ w'.cell? ⟨w.heap.size + 1, 2, none⟩ = some (encStr b.ty.con) ∧ w'.cell? ⟨w.heap.size + 1, 3, none⟩ = some (.int .i64 b.ty.var) ∧ w'.cell? ⟨w.heap.size + 1, 4, none⟩ = some (.slice b.ty.A b.ty.args.length b.ty.cap))
     (exact HS.out _ (by repeat (first | with_reducible exact Y2.out | with_reducible exact Y1.out | with_reducible exact X2.out | with_reducible refine Ext.setCell ?_ (by first | omega | (dsimp only; omega)) _ | with_reducible refine Ext.alloc ?_ _ | with_reducible refine Ext.drew ?_)))
     (first
    | (go_at_call 21
       with_reducible refine Calls.mono (HO1.out _ ?e).out ?_
       case e => (refine Ext.trans X2.out ?_; (repeat (first | exact Ext.refl _ | exact Ext.pre (by simp) | exact Ext.alloc (by assumption) _ | refine Ext.alloc ?_ _ | refine Ext.more ?_ _ _ | refine Ext.drew ?_ | refine Ext.drewN ?_ _)); done)
       rintro e y1 ⟨⟨p, rfl, hp⟩, hx1⟩
       have Y1 : Hid (Ext W y1) := hide (by refine Ext.trans ?_ hx1; (refine Ext.trans X2.out ?_; (repeat (first | exact Ext.refl _ | exact Ext.pre (by simp) | exact Ext.alloc (by assumption) _ | refine Ext.alloc ?_ _ | refine Ext.more ?_ _ _ | refine Ext.drew ?_ | refine Ext.drewN ?_ _)); done))
       have V1 := hx1.size
       have AP := sc_away hp HA.out
       try rw [sz5_drew] at V1 AP
       try rw [World.size_alloc] at V1 AP
       try rw [World.size_alloc] at V1 AP
       have HAP := hide AP
       have HP : Hid (NumIs a p) := hide ⟨hp.ty, hp.ps⟩
       have HPo := hide hp.inn
       try (have zh := zb5 hx1 (B := w2.heap.size) (by first | assumption | with_reducible exact ha5_hit (by first | omega | exact (World.size_alloc _ _).symm | (rw [World.size_alloc]; omega) | (rw [World.size_alloc, World.size_alloc]; omega)) | with_reducible exact ha5_miss (by first | omega | exact (World.size_alloc _ _).symm | (rw [World.size_alloc]; omega) | (rw [World.size_alloc, World.size_alloc]; omega)) (by assumption) | with_reducible exact ha5_miss (by first | omega | exact (World.size_alloc _ _).symm | (rw [World.size_alloc]; omega) | (rw [World.size_alloc, World.size_alloc]; omega)) (ha5_hit (by first | omega | exact (World.size_alloc _ _).symm | (rw [World.size_alloc]; omega) | (rw [World.size_alloc, World.size_alloc]; omega))) | with_reducible exact ha5_miss (by first | omega | exact (World.size_alloc _ _).symm | (rw [World.size_alloc]; omega) | (rw [World.size_alloc, World.size_alloc]; omega)) (ha5_miss (by first | omega | exact (World.size_alloc _ _).symm | (rw [World.size_alloc]; omega) | (rw [World.size_alloc, World.size_alloc]; omega)) (by assumption)) | with_reducible exact hd5_drew (by assumption) | with_reducible exact hd5_drew (ha5_hit (by first | omega | exact (World.size_alloc _ _).symm | (rw [World.size_alloc]; omega) | (rw [World.size_alloc, World.size_alloc]; omega))) | with_reducible exact hd5_drew (ha5_miss (by first | omega | exact (World.size_alloc _ _).symm | (rw [World.size_alloc]; omega) | (rw [World.size_alloc, World.size_alloc]; omega)) (by assumption)) | with_reducible exact hd5_drew (ha5_miss (by first | omega | exact (World.size_alloc _ _).symm | (rw [World.size_alloc]; omega) | (rw [World.size_alloc, World.size_alloc]; omega)) (ha5_hit (by first | omega | exact (World.size_alloc _ _).symm | (rw [World.size_alloc]; omega) | (rw [World.size_alloc, World.size_alloc]; omega)))) | with_reducible exact hd5_drew (ha5_miss (by first | omega | exact (World.size_alloc _ _).symm | (rw [World.size_alloc]; omega) | (rw [World.size_alloc, World.size_alloc]; omega)) (ha5_miss (by first | omega | exact (World.size_alloc _ _).symm | (rw [World.size_alloc]; omega) | (rw [World.size_alloc, World.size_alloc]; omega)) (by assumption)))); obtain ⟨zc0, zc1, zc2, zc3, zc4, zf0, zf1, zf2, zf3, zf4, zlt⟩ := sc0_cells zh)
       try (have zh := zb5 hx1 (B := w2.heap.size + 1) (by first | assumption | with_reducible exact ha5_hit (by first | omega | exact (World.size_alloc _ _).symm | (rw [World.size_alloc]; omega) | (rw [World.size_alloc, World.size_alloc]; omega)) | with_reducible exact ha5_miss (by first | omega | exact (World.size_alloc _ _).symm | (rw [World.size_alloc]; omega) | (rw [World.size_alloc, World.size_alloc]; omega)) (by assumption) | with_reducible exact ha5_miss (by first | omega | exact (World.size_alloc _ _).symm | (rw [World.size_alloc]; omega) | (rw [World.size_alloc, World.size_alloc]; omega)) (ha5_hit (by first | omega | exact (World.size_alloc _ _).symm | (rw [World.size_alloc]; omega) | (rw [World.size_alloc, World.size_alloc]; omega))) | with_reducible exact ha5_miss (by first | omega | exact (World.size_alloc _ _).symm | (rw [World.size_alloc]; omega) | (rw [World.size_alloc, World.size_alloc]; omega)) (ha5_miss (by first | omega | exact (World.size_alloc _ _).symm | (rw [World.size_alloc]; omega) | (rw [World.size_alloc, World.size_alloc]; omega)) (by assumption)) | with_reducible exact hd5_drew (by assumption) | with_reducible exact hd5_drew (ha5_hit (by first | omega | exact (World.size_alloc _ _).symm | (rw [World.size_alloc]; omega) | (rw [World.size_alloc, World.size_alloc]; omega))) | with_reducible exact hd5_drew (ha5_miss (by first | omega | exact (World.size_alloc _ _).symm | (rw [World.size_alloc]; omega) | (rw [World.size_alloc, World.size_alloc]; omega)) (by assumption)) | with_reducible exact hd5_drew (ha5_miss (by first | omega | exact (World.size_alloc _ _).symm | (rw [World.size_alloc]; omega) | (rw [World.size_alloc, World.size_alloc]; omega)) (ha5_hit (by first | omega | exact (World.size_alloc _ _).symm | (rw [World.size_alloc]; omega) | (rw [World.size_alloc, World.size_alloc]; omega)))) | with_reducible exact hd5_drew (ha5_miss (by first | omega | exact (World.size_alloc _ _).symm | (rw [World.size_alloc]; omega) | (rw [World.size_alloc, World.size_alloc]; omega)) (ha5_miss (by first | omega | exact (World.size_alloc _ _).symm | (rw [World.size_alloc]; omega) | (rw [World.size_alloc, World.size_alloc]; omega)) (by assumption)))); obtain ⟨zc0, zc1, zc2, zc3, zc4, zf0, zf1, zf2, zf3, zf4, zlt⟩ := sc0_cells zh)
       try (have d1' : w2.heap.size ≠ y1.heap.size := by omega)
       try (have d2' : y1.heap.size ≠ w2.heap.size := by omega)
       clear hp AP hx1)
    | (go_at_call 21
       with_reducible refine Calls.mono (HO2.out _ ?e).out ?_
       case e => (refine Ext.trans Y1.out ?_; (repeat (first | exact Ext.refl _ | exact Ext.pre (by simp) | exact Ext.alloc (by assumption) _ | refine Ext.alloc ?_ _ | refine Ext.more ?_ _ _ | refine Ext.drew ?_ | refine Ext.drewN ?_ _)); done)
       rintro e y2 ⟨⟨q, rfl, hq⟩, hx2⟩
       have Y2 : Hid (Ext W y2) := hide (by refine Ext.trans ?_ hx2; (refine Ext.trans Y1.out ?_; (repeat (first | exact Ext.refl _ | exact Ext.pre (by simp) | exact Ext.alloc (by assumption) _ | refine Ext.alloc ?_ _ | refine Ext.more ?_ _ _ | refine Ext.drew ?_ | refine Ext.drewN ?_ _)); done))
       have Y12 : Hid (Ext y1 y2) := hide (by refine Ext.trans ?_ hx2; exact (by repeat (first | exact Ext.refl _ | exact Ext.pre (by simp) | exact Ext.alloc (by assumption) _ | refine Ext.alloc ?_ _ |  refine Ext.more ?_ _ _ | refine Ext.drew ?_ | refine Ext.drewN ?_ _)))
       have V2 := hx2.size
       have AQ := sc_away hq HB.out
       try rw [sz5_drew] at V2 AQ
       try rw [World.size_alloc] at V2 AQ
       try rw [World.size_alloc] at V2 AQ
       have HAQ := hide AQ
       have HQ : Hid (NumIs b q) := hide ⟨hq.ty, hq.ps⟩
       have HPo2 := hide (HPo.out.ext Y12.out)
       have HQo2 := hide hq.inn
       try (have zh := zb5 hx2 (B := w2.heap.size) (by first | assumption | with_reducible exact ha5_hit (by first | omega | exact (World.size_alloc _ _).symm | (rw [World.size_alloc]; omega) | (rw [World.size_alloc, World.size_alloc]; omega)) | with_reducible exact ha5_miss (by first | omega | exact (World.size_alloc _ _).symm | (rw [World.size_alloc]; omega) | (rw [World.size_alloc, World.size_alloc]; omega)) (by assumption) | with_reducible exact ha5_miss (by first | omega | exact (World.size_alloc _ _).symm | (rw [World.size_alloc]; omega) | (rw [World.size_alloc, World.size_alloc]; omega)) (ha5_hit (by first | omega | exact (World.size_alloc _ _).symm | (rw [World.size_alloc]; omega) | (rw [World.size_alloc, World.size_alloc]; omega))) | with_reducible exact ha5_miss (by first | omega | exact (World.size_alloc _ _).symm | (rw [World.size_alloc]; omega) | (rw [World.size_alloc, World.size_alloc]; omega)) (ha5_miss (by first | omega | exact (World.size_alloc _ _).symm | (rw [World.size_alloc]; omega) | (rw [World.size_alloc, World.size_alloc]; omega)) (by assumption)) | with_reducible exact hd5_drew (by assumption) | with_reducible exact hd5_drew (ha5_hit (by first | omega | exact (World.size_alloc _ _).symm | (rw [World.size_alloc]; omega) | (rw [World.size_alloc, World.size_alloc]; omega))) | with_reducible exact hd5_drew (ha5_miss (by first | omega | exact (World.size_alloc _ _).symm | (rw [World.size_alloc]; omega) | (rw [World.size_alloc, World.size_alloc]; omega)) (by assumption)) | with_reducible exact hd5_drew (ha5_miss (by first | omega | exact (World.size_alloc _ _).symm | (rw [World.size_alloc]; omega) | (rw [World.size_alloc, World.size_alloc]; omega)) (ha5_hit (by first | omega | exact (World.size_alloc _ _).symm | (rw [World.size_alloc]; omega) | (rw [World.size_alloc, World.size_alloc]; omega)))) | with_reducible exact hd5_drew (ha5_miss (by first | omega | exact (World.size_alloc _ _).symm | (rw [World.size_alloc]; omega) | (rw [World.size_alloc, World.size_alloc]; omega)) (ha5_miss (by first | omega | exact (World.size_alloc _ _).symm | (rw [World.size_alloc]; omega) | (rw [World.size_alloc, World.size_alloc]; omega)) (by assumption)))); obtain ⟨zc0, zc1, zc2, zc3, zc4, zf0, zf1, zf2, zf3, zf4, zlt⟩ := sc0_cells zh)
       try (have zh := zb5 hx2 (B := w2.heap.size + 1) (by first | assumption | with_reducible exact ha5_hit (by first | omega | exact (World.size_alloc _ _).symm | (rw [World.size_alloc]; omega) | (rw [World.size_alloc, World.size_alloc]; omega)) | with_reducible exact ha5_miss (by first | omega | exact (World.size_alloc _ _).symm | (rw [World.size_alloc]; omega) | (rw [World.size_alloc, World.size_alloc]; omega)) (by assumption) | with_reducible exact ha5_miss (by first | omega | exact (World.size_alloc _ _).symm | (rw [World.size_alloc]; omega) | (rw [World.size_alloc, World.size_alloc]; omega)) (ha5_hit (by first | omega | exact (World.size_alloc _ _).symm | (rw [World.size_alloc]; omega) | (rw [World.size_alloc, World.size_alloc]; omega))) | with_reducible exact ha5_miss (by first | omega | exact (World.size_alloc _ _).symm | (rw [World.size_alloc]; omega) | (rw [World.size_alloc, World.size_alloc]; omega)) (ha5_miss (by first | omega | exact (World.size_alloc _ _).symm | (rw [World.size_alloc]; omega) | (rw [World.size_alloc, World.size_alloc]; omega)) (by assumption)) | with_reducible exact hd5_drew (by assumption) | with_reducible exact hd5_drew (ha5_hit (by first | omega | exact (World.size_alloc _ _).symm | (rw [World.size_alloc]; omega) | (rw [World.size_alloc, World.size_alloc]; omega))) | with_reducible exact hd5_drew (ha5_miss (by first | omega | exact (World.size_alloc _ _).symm | (rw [World.size_alloc]; omega) | (rw [World.size_alloc, World.size_alloc]; omega)) (by assumption)) | with_reducible exact hd5_drew (ha5_miss (by first | omega | exact (World.size_alloc _ _).symm | (rw [World.size_alloc]; omega) | (rw [World.size_alloc, World.size_alloc]; omega)) (ha5_hit (by first | omega | exact (World.size_alloc _ _).symm | (rw [World.size_alloc]; omega) | (rw [World.size_alloc, World.size_alloc]; omega)))) | with_reducible exact hd5_drew (ha5_miss (by first | omega | exact (World.size_alloc _ _).symm | (rw [World.size_alloc]; omega) | (rw [World.size_alloc, World.size_alloc]; omega)) (ha5_miss (by first | omega | exact (World.size_alloc _ _).symm | (rw [World.size_alloc]; omega) | (rw [World.size_alloc, World.size_alloc]; omega)) (by assumption)))); obtain ⟨zc0, zc1, zc2, zc3, zc4, zf0, zf1, zf2, zf3, zf4, zlt⟩ := sc0_cells zh)
       try (have zh := zb5 hx2 (B := y1.heap.size) (by first | assumption | with_reducible exact ha5_hit (by first | omega | exact (World.size_alloc _ _).symm | (rw [World.size_alloc]; omega) | (rw [World.size_alloc, World.size_alloc]; omega)) | with_reducible exact ha5_miss (by first | omega | exact (World.size_alloc _ _).symm | (rw [World.size_alloc]; omega) | (rw [World.size_alloc, World.size_alloc]; omega)) (by assumption) | with_reducible exact ha5_miss (by first | omega | exact (World.size_alloc _ _).symm | (rw [World.size_alloc]; omega) | (rw [World.size_alloc, World.size_alloc]; omega)) (ha5_hit (by first | omega | exact (World.size_alloc _ _).symm | (rw [World.size_alloc]; omega) | (rw [World.size_alloc, World.size_alloc]; omega))) | with_reducible exact ha5_miss (by first | omega | exact (World.size_alloc _ _).symm | (rw [World.size_alloc]; omega) | (rw [World.size_alloc, World.size_alloc]; omega)) (ha5_miss (by first | omega | exact (World.size_alloc _ _).symm | (rw [World.size_alloc]; omega) | (rw [World.size_alloc, World.size_alloc]; omega)) (by assumption)) | with_reducible exact hd5_drew (by assumption) | with_reducible exact hd5_drew (ha5_hit (by first | omega | exact (World.size_alloc _ _).symm | (rw [World.size_alloc]; omega) | (rw [World.size_alloc, World.size_alloc]; omega))) | with_reducible exact hd5_drew (ha5_miss (by first | omega | exact (World.size_alloc _ _).symm | (rw [World.size_alloc]; omega) | (rw [World.size_alloc, World.size_alloc]; omega)) (by assumption)) | with_reducible exact hd5_drew (ha5_miss (by first | omega | exact (World.size_alloc _ _).symm | (rw [World.size_alloc]; omega) | (rw [World.size_alloc, World.size_alloc]; omega)) (ha5_hit (by first | omega | exact (World.size_alloc _ _).symm | (rw [World.size_alloc]; omega) | (rw [World.size_alloc, World.size_alloc]; omega)))) | with_reducible exact hd5_drew (ha5_miss (by first | omega | exact (World.size_alloc _ _).symm | (rw [World.size_alloc]; omega) | (rw [World.size_alloc, World.size_alloc]; omega)) (ha5_miss (by first | omega | exact (World.size_alloc _ _).symm | (rw [World.size_alloc]; omega) | (rw [World.size_alloc, World.size_alloc]; omega)) (by assumption)))); obtain ⟨zc0, zc1, zc2, zc3, zc4, zf0, zf1, zf2, zf3, zf4, zlt⟩ := sc0_cells zh)
       try (have zh := zb5 hx2 (B := y1.heap.size + 1) (by first | assumption | with_reducible exact ha5_hit (by first | omega | exact (World.size_alloc _ _).symm | (rw [World.size_alloc]; omega) | (rw [World.size_alloc, World.size_alloc]; omega)) | with_reducible exact ha5_miss (by first | omega | exact (World.size_alloc _ _).symm | (rw [World.size_alloc]; omega) | (rw [World.size_alloc, World.size_alloc]; omega)) (by assumption) | with_reducible exact ha5_miss (by first | omega | exact (World.size_alloc _ _).symm | (rw [World.size_alloc]; omega) | (rw [World.size_alloc, World.size_alloc]; omega)) (ha5_hit (by first | omega | exact (World.size_alloc _ _).symm | (rw [World.size_alloc]; omega) | (rw [World.size_alloc, World.size_alloc]; omega))) | with_reducible exact ha5_miss (by first | omega | exact (World.size_alloc _ _).symm | (rw [World.size_alloc]; omega) | (rw [World.size_alloc, World.size_alloc]; omega)) (ha5_miss (by first | omega | exact (World.size_alloc _ _).symm | (rw [World.size_alloc]; omega) | (rw [World.size_alloc, World.size_alloc]; omega)) (by assumption)) | with_reducible exact hd5_drew (by assumption) | with_reducible exact hd5_drew (ha5_hit (by first | omega | exact (World.size_alloc _ _).symm | (rw [World.size_alloc]; omega) | (rw [World.size_alloc, World.size_alloc]; omega))) | with_reducible exact hd5_drew (ha5_miss (by first | omega | exact (World.size_alloc _ _).symm | (rw [World.size_alloc]; omega) | (rw [World.size_alloc, World.size_alloc]; omega)) (by assumption)) | with_reducible exact hd5_drew (ha5_miss (by first | omega | exact (World.size_alloc _ _).symm | (rw [World.size_alloc]; omega) | (rw [World.size_alloc, World.size_alloc]; omega)) (ha5_hit (by first | omega | exact (World.size_alloc _ _).symm | (rw [World.size_alloc]; omega) | (rw [World.size_alloc, World.size_alloc]; omega)))) | with_reducible exact hd5_drew (ha5_miss (by first | omega | exact (World.size_alloc _ _).symm | (rw [World.size_alloc]; omega) | (rw [World.size_alloc, World.size_alloc]; omega)) (ha5_miss (by first | omega | exact (World.size_alloc _ _).symm | (rw [World.size_alloc]; omega) | (rw [World.size_alloc, World.size_alloc]; omega)) (by assumption)))); obtain ⟨zc0, zc1, zc2, zc3, zc4, zf0, zf1, zf2, zf3, zf4, zlt⟩ := sc0_cells zh)
       try (have d3' : w2.heap.size ≠ y2.heap.size := by omega)
       try (have d4' : y2.heap.size ≠ w2.heap.size := by omega)
       try (have d5' : y1.heap.size ≠ y2.heap.size := by omega)
       try (have d6' : y2.heap.size ≠ y1.heap.size := by omega)
       clear hq AQ hx2))
    all_goals (go_wp2_with fail; go_meet)
    all_goals (first
      | (with_reducible refine ⟨y2.heap.size, y2.heap.size + 1, p, q, rfl, rfl, ?_, hide ⟨HP.out, HQ.out⟩⟩; exact hide (end5D Y2.out HPo2.out HQo2.out))
      | (with_reducible refine ⟨y2.heap.size + 1, y2.heap.size, p, q, rfl, rfl, ?_, hide ⟨HP.out, HQ.out⟩⟩; exact hide (end5E Y2.out HPo2.out HQo2.out))
      | (with_reducible refine ⟨w2.heap.size, w2.heap.size + 1, p, q, rfl, rfl, ?_, hide ⟨HP.out, HQ.out⟩⟩
         have z3 : y2.heap[w2.heap.size]? = some (.cells #[.int .i64 0, .slice none 0 0, .string ⟨#[]⟩, .int .i64 0, .slice none 0 0] 27 (0, 0)) := by with_reducible assumption
         have z4 : y2.heap[w2.heap.size + 1]? = some (.cells #[.int .i64 0, .slice none 0 0, .string ⟨#[]⟩, .int .i64 0, .slice none 0 0] 27 (0, 0)) := by with_reducible assumption
         have pa := HAP.out (w2.heap.size) (by omega) (by omega)
         have pb := HAP.out (w2.heap.size + 1) (by omega) (by omega)
         have qa := HAQ.out (w2.heap.size) (by omega) (by omega)
         have qb := HAQ.out (w2.heap.size + 1) (by omega) (by omega)
         have g1 : w2.heap.size ≠ w2.heap.size + 1 := by omega
         have g2 : W.heap.size ≤ w2.heap.size := by omega
         have g3 : W.heap.size ≤ w2.heap.size + 1 := by omega
         exact hide (end5A Y2.out z3 z4 g1 g2 g3 HPo2.out HQo2.out pa pb qa qb))
      | (with_reducible refine ⟨w2.heap.size + 1, w2.heap.size, p, q, rfl, rfl, ?_, hide ⟨HP.out, HQ.out⟩⟩
         have z3 : y2.heap[w2.heap.size + 1]? = some (.cells #[.int .i64 0, .slice none 0 0, .string ⟨#[]⟩, .int .i64 0, .slice none 0 0] 27 (0, 0)) := by with_reducible assumption
         have z4 : y2.heap[w2.heap.size]? = some (.cells #[.int .i64 0, .slice none 0 0, .string ⟨#[]⟩, .int .i64 0, .slice none 0 0] 27 (0, 0)) := by with_reducible assumption
         have pa := HAP.out (w2.heap.size + 1) (by omega) (by omega)
         have pb := HAP.out (w2.heap.size) (by omega) (by omega)
         have qa := HAQ.out (w2.heap.size + 1) (by omega) (by omega)
         have qb := HAQ.out (w2.heap.size) (by omega) (by omega)
         have g1 : w2.heap.size + 1 ≠ w2.heap.size := by omega
         have g2 : W.heap.size ≤ w2.heap.size + 1 := by omega
         have g3 : W.heap.size ≤ w2.heap.size := by omega
         exact hide (end5A Y2.out z3 z4 g1 g2 g3 HPo2.out HQo2.out pa pb qa qb))
      | (with_reducible refine ⟨w2.heap.size, y1.heap.size, p, q, rfl, rfl, ?_, hide ⟨HP.out, HQ.out⟩⟩
         have z3 : y2.heap[w2.heap.size]? = some (.cells #[.int .i64 0, .slice none 0 0, .string ⟨#[]⟩, .int .i64 0, .slice none 0 0] 27 (0, 0)) := by with_reducible assumption
         have z4 : y2.heap[y1.heap.size]? = some (.cells #[.int .i64 0, .slice none 0 0, .string ⟨#[]⟩, .int .i64 0, .slice none 0 0] 27 (0, 0)) := by with_reducible assumption
         have pa := HAP.out (w2.heap.size) (by omega) (by omega)
         have pb := HAP.out (y1.heap.size) (by omega) (by omega)
         have qa := HAQ.out (w2.heap.size) (by omega) (by omega)
         have qb := HAQ.out (y1.heap.size) (by omega) (by omega)
         have g1 : w2.heap.size ≠ y1.heap.size := by omega
         have g2 : W.heap.size ≤ w2.heap.size := by omega
         have g3 : W.heap.size ≤ y1.heap.size := by omega
         exact hide (end5A Y2.out z3 z4 g1 g2 g3 HPo2.out HQo2.out pa pb qa qb))
      | (with_reducible refine ⟨y1.heap.size, w2.heap.size, p, q, rfl, rfl, ?_, hide ⟨HP.out, HQ.out⟩⟩
         have z3 : y2.heap[y1.heap.size]? = some (.cells #[.int .i64 0, .slice none 0 0, .string ⟨#[]⟩, .int .i64 0, .slice none 0 0] 27 (0, 0)) := by with_reducible assumption
         have z4 : y2.heap[w2.heap.size]? = some (.cells #[.int .i64 0, .slice none 0 0, .string ⟨#[]⟩, .int .i64 0, .slice none 0 0] 27 (0, 0)) := by with_reducible assumption
         have pa := HAP.out (y1.heap.size) (by omega) (by omega)
         have pb := HAP.out (w2.heap.size) (by omega) (by omega)
         have qa := HAQ.out (y1.heap.size) (by omega) (by omega)
         have qb := HAQ.out (w2.heap.size) (by omega) (by omega)
         have g1 : y1.heap.size ≠ w2.heap.size := by omega
         have g2 : W.heap.size ≤ y1.heap.size := by omega
         have g3 : W.heap.size ≤ w2.heap.size := by omega
         exact hide (end5A Y2.out z3 z4 g1 g2 g3 HPo2.out HQo2.out pa pb qa qb))
      | (with_reducible refine ⟨y1.heap.size, y1.heap.size + 1, p, q, rfl, rfl, ?_, hide ⟨HP.out, HQ.out⟩⟩
         have z3 : y2.heap[y1.heap.size]? = some (.cells #[.int .i64 0, .slice none 0 0, .string ⟨#[]⟩, .int .i64 0, .slice none 0 0] 27 (0, 0)) := by with_reducible assumption
         have z4 : y2.heap[y1.heap.size + 1]? = some (.cells #[.int .i64 0, .slice none 0 0, .string ⟨#[]⟩, .int .i64 0, .slice none 0 0] 27 (0, 0)) := by with_reducible assumption
         have pa := HAP.out (y1.heap.size) (by omega) (by omega)
         have pb := HAP.out (y1.heap.size + 1) (by omega) (by omega)
         have qa := HAQ.out (y1.heap.size) (by omega) (by omega)
         have qb := HAQ.out (y1.heap.size + 1) (by omega) (by omega)
         have g1 : y1.heap.size ≠ y1.heap.size + 1 := by omega
         have g2 : W.heap.size ≤ y1.heap.size := by omega
         have g3 : W.heap.size ≤ y1.heap.size + 1 := by omega
         exact hide (end5A Y2.out z3 z4 g1 g2 g3 HPo2.out HQo2.out pa pb qa qb))
      | (with_reducible refine ⟨y1.heap.size + 1, y1.heap.size, p, q, rfl, rfl, ?_, hide ⟨HP.out, HQ.out⟩⟩
         have z3 : y2.heap[y1.heap.size + 1]? = some (.cells #[.int .i64 0, .slice none 0 0, .string ⟨#[]⟩, .int .i64 0, .slice none 0 0] 27 (0, 0)) := by with_reducible assumption
         have z4 : y2.heap[y1.heap.size]? = some (.cells #[.int .i64 0, .slice none 0 0, .string ⟨#[]⟩, .int .i64 0, .slice none 0 0] 27 (0, 0)) := by with_reducible assumption
         have pa := HAP.out (y1.heap.size + 1) (by omega) (by omega)
         have pb := HAP.out (y1.heap.size) (by omega) (by omega)
         have qa := HAQ.out (y1.heap.size + 1) (by omega) (by omega)
         have qb := HAQ.out (y1.heap.size) (by omega) (by omega)
         have g1 : y1.heap.size + 1 ≠ y1.heap.size := by omega
         have g2 : W.heap.size ≤ y1.heap.size + 1 := by omega
         have g3 : W.heap.size ≤ y1.heap.size := by omega
         exact hide (end5A Y2.out z3 z4 g1 g2 g3 HPo2.out HQo2.out pa pb qa qb))
      | (with_reducible refine ⟨w2.heap.size, y2.heap.size, p, q, rfl, rfl, ?_, hide ⟨HP.out, HQ.out⟩⟩
         have z3 : y2.heap[w2.heap.size]? = some (.cells #[.int .i64 0, .slice none 0 0, .string ⟨#[]⟩, .int .i64 0, .slice none 0 0] 27 (0, 0)) := by with_reducible assumption
         have pa := HAP.out (w2.heap.size) (by omega) (by omega)
         have qa := HAQ.out (w2.heap.size) (by omega) (by omega)
         have g2 : W.heap.size ≤ w2.heap.size := by omega
         exact hide (end5B Y2.out z3 g2 HPo2.out HQo2.out pa qa))
      | (with_reducible refine ⟨y2.heap.size, w2.heap.size, p, q, rfl, rfl, ?_, hide ⟨HP.out, HQ.out⟩⟩
         have z3 : y2.heap[w2.heap.size]? = some (.cells #[.int .i64 0, .slice none 0 0, .string ⟨#[]⟩, .int .i64 0, .slice none 0 0] 27 (0, 0)) := by with_reducible assumption
         have pa := HAP.out (w2.heap.size) (by omega) (by omega)
         have qa := HAQ.out (w2.heap.size) (by omega) (by omega)
         have g2 : W.heap.size ≤ w2.heap.size := by omega
         exact hide (end5C Y2.out z3 g2 HPo2.out HQo2.out pa qa))
      | (with_reducible refine ⟨w2.heap.size + 1, y2.heap.size, p, q, rfl, rfl, ?_, hide ⟨HP.out, HQ.out⟩⟩
         have z3 : y2.heap[w2.heap.size + 1]? = some (.cells #[.int .i64 0, .slice none 0 0, .string ⟨#[]⟩, .int .i64 0, .slice none 0 0] 27 (0, 0)) := by with_reducible assumption
         have pa := HAP.out (w2.heap.size + 1) (by omega) (by omega)
         have qa := HAQ.out (w2.heap.size + 1) (by omega) (by omega)
         have g2 : W.heap.size ≤ w2.heap.size + 1 := by omega
         exact hide (end5B Y2.out z3 g2 HPo2.out HQo2.out pa qa))
      | (with_reducible refine ⟨y2.heap.size, w2.heap.size + 1, p, q, rfl, rfl, ?_, hide ⟨HP.out, HQ.out⟩⟩
         have z3 : y2.heap[w2.heap.size + 1]? = some (.cells #[.int .i64 0, .slice none 0 0, .string ⟨#[]⟩, .int .i64 0, .slice none 0 0] 27 (0, 0)) := by with_reducible assumption
         have pa := HAP.out (w2.heap.size + 1) (by omega) (by omega)
         have qa := HAQ.out (w2.heap.size + 1) (by omega) (by omega)
         have g2 : W.heap.size ≤ w2.heap.size + 1 := by omega
         exact hide (end5C Y2.out z3 g2 HPo2.out HQo2.out pa qa))
      | (with_reducible refine ⟨y1.heap.size, y2.heap.size, p, q, rfl, rfl, ?_, hide ⟨HP.out, HQ.out⟩⟩
         have z3 : y2.heap[y1.heap.size]? = some (.cells #[.int .i64 0, .slice none 0 0, .string ⟨#[]⟩, .int .i64 0, .slice none 0 0] 27 (0, 0)) := by with_reducible assumption
         have pa := HAP.out (y1.heap.size) (by omega) (by omega)
         have qa := HAQ.out (y1.heap.size) (by omega) (by omega)
         have g2 : W.heap.size ≤ y1.heap.size := by omega
         exact hide (end5B Y2.out z3 g2 HPo2.out HQo2.out pa qa))
      | (with_reducible refine ⟨y2.heap.size, y1.heap.size, p, q, rfl, rfl, ?_, hide ⟨HP.out, HQ.out⟩⟩
         have z3 : y2.heap[y1.heap.size]? = some (.cells #[.int .i64 0, .slice none 0 0, .string ⟨#[]⟩, .int .i64 0, .slice none 0 0] 27 (0, 0)) := by with_reducible assumption
         have pa := HAP.out (y1.heap.size) (by omega) (by omega)
         have qa := HAQ.out (y1.heap.size) (by omega) (by omega)
         have g2 : W.heap.size ≤ y1.heap.size := by omega
         exact hide (end5C Y2.out z3 g2 HPo2.out HQo2.out pa qa)))
  case rest =>
    obtain ⟨b3, b4, p, q, rfl, rfl, HM, HP⟩ := hcut
    obtain ⟨xc, hbp, hbq, hp, hq⟩ := HM.out
    have XC := hide xc
    have HBp := hide hbp
    have HBq := hide hbq
    obtain ⟨R2, hR2⟩ : ∃ R2, R2 = @decide (p.preds.map pkey = q.preds.map pkey) (Classical.propDecidable _) := ⟨_, rfl⟩
    have hi2 : R2 = true ↔ p.preds.map pkey = q.preds.map pkey := by rw [hR2]; exact @decide_eq_true_iff _ (Classical.propDecidable _)
    have HE := hide (fun w' (e : Ext wc w') => hide (eq_fp p.A q.A p.cap q.cap p.preds q.preds R2 hi2 w' (hp.row.ext e) (hq.row.ext e) (Nat.le_trans hp.le hp.max)))
    have HT := hide (t_same p.ty q.ty wc hp.ty hq.ty)
    have HRR : Hid (R = (sameB p.ty q.ty && R2)) := hide (by rw [HR.out]; exact same_num Hsa.out Hsb.out Hn.out HP.out.1 HP.out.2 R2 hi2)
    obtain ⟨k0, k1, k2, k3, k4⟩ := hbp.cells
    have lk := hbp.lt
    obtain ⟨j0, j1, j2, j3, j4⟩ := hbq.cells
    have lj := hbq.lt
    generalize sameB p.ty q.ty = R1 at *
    unfold tyV at HT
    clear HR HP HM xc hbp hbq hp hq hR2 hi2 HO1 HO2 HS c0 c1 c2 c3 c4 lc d0 d1 d2 d3 d4 ld
    go_wp2_with fail
    refine HT.out.mono ?_
    rintro e w5 ⟨rfl, hx5⟩
    have X5 := hide hx5
    clear hx5 k0 k1 k2 k3 k4 lk j0 j1 j2 j3 j4 lj
    cases R1
    · have hF : R = false := HRR.out
      clear HRR
      subst hF
      go_wp2
      go_ret
      exact ⟨rfl, X0.out.trans (XC.out.trans X5.out)⟩
    · have hF : R = R2 := by rw [HRR.out]; rfl
      clear HRR
      subst hF
      obtain ⟨k0, k1, k2, k3, k4⟩ := (HBp.out.ext X5.out).cells
      have lk := (HBp.out.ext X5.out).lt
      obtain ⟨j0, j1, j2, j3, j4⟩ := (HBq.out.ext X5.out).cells
      have lj := (HBq.out.ext X5.out).lt
      go_wp2_with fail
      refine (HE.out _ X5.out).out.mono ?_
      rintro e w6 ⟨rfl, hx6⟩
      have X6 := hide (X5.out.trans hx6)
      clear hx6 k0 k1 k2 k3 k4 lk j0 j1 j2 j3 j4 lj
      go_wp2
      go_ret
      exact ⟨rfl, X0.out.trans (XC.out.trans X6.out)⟩

end Go.Proofs.YtmjiljhcjfnfpaaGreat
