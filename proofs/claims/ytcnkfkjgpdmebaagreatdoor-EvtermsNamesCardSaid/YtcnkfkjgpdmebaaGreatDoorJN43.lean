/- Contracts: a term's text: names, applications. -/
import Derived.Test.YtcnkfkjgpdmebaaGreatDoorJN42
/- Contracts: a term's text: names, applications. -/
namespace Go.Proofs.YtcnkfkjgpdmebaaGreatDoor
open Go.RowKit Go.Shelf

/-- The function tells of a term this text. -/
def TextsTo (t : Tm) (s : Str) : Prop := ∀ w, TmIn w t → Calls Tryz.prog 46 #[tmV t] w fun e w' => e = .returned (encStr s) ∧ Ext w w'

set_option maxRecDepth 10000 in
set_option maxHeartbeats 2000000 in
theorem txt_var (t : Tm) (h1 : (t.kind == 1) = true) : TextsTo t t.name := by
  intro w h
  have HB0 := hide (TmBox.new w t)
  have X0 : Hid (Ext w (w.alloc (.cells #[.int .i64 t.kind, .int .i64 t.n, encStr t.name, .slice t.V t.vars.length t.vc, .slice t.T t.types.length t.tc, .slice t.A t.kids.length t.cap] 40))) := hide ((Ext.refl w).alloc _)
  obtain ⟨c0, c1, c2, c3, c4, c5⟩ := HB0.out.cells
  clear h
  unfold tmV
  go_enter Tryz.func46, Tryz.ntmps46
  go_wp2
  go_ret
  exact ⟨rfl, X0.out⟩

set_option maxRecDepth 10000 in
set_option maxHeartbeats 8000000 in
theorem txt_app (t : Tm) (h4 : (t.kind == 4) = true) (h0 : 0 < t.kids.length) (h1 : 1 < t.kids.length) (sf sa : Str) (hf : TextsTo (t.kids[0]'h0) sf) (ha : TextsTo (t.kids[1]'h1) sa) (hl : sf.length + sa.length ≤ 1000000) : TextsTo t ([40] ++ (sf ++ [32] ++ sa) ++ [41]) := by
  intro w h
  obtain ⟨W, hW⟩ : ∃ W, W = w.alloc (.cells #[.int .i64 t.kind, .int .i64 t.n, encStr t.name, .slice t.V t.vars.length t.vc, .slice t.T t.types.length t.tc, .slice t.A t.kids.length t.cap] 40) := ⟨_, rfl⟩
  have HW := hide hW.symm
  have HB0 : Hid (TmBox W w.heap.size t) := hide (by rw [hW]; exact TmBox.new w t)
  have X0 : Hid (Ext w W) := hide (by rw [hW]; exact (Ext.refl w).alloc _)
  clear hW
  obtain ⟨c0, c1, c2, c3, c4, c5⟩ := HB0.out.cells
  have n1 : (t.kind == 1) = false := by simp at h4 ⊢; omega
  have n2 : (t.kind == 2) = false := by simp at h4 ⊢; omega
  have n3 : (t.kind == 14) = false := by simp at h4 ⊢; omega
  have n4 : (t.kind == 3) = false := by simp at h4 ⊢; omega
  have HK := hide h.all
  obtain ⟨b, o, hA, hb, q0, q1, q2, q3, q4, q5⟩ := (HK.out.ext X0.out).at_ h0
  obtain ⟨b', o', hA', hb', r0, r1, r2, r3, r4, r5⟩ := (HK.out.ext X0.out).at_ h1
  have hbo : (⟨b', o', none⟩ : Addr) = ⟨b, o, none⟩ := Option.some.inj (hA'.symm.trans hA)
  cases hbo
  clear hA' hb'
  have HF := hide (fun w' (e : Ext w w') => hide (hf w' ((HK.out.kids _ (List.getElem_mem h0)).ext e)))
  have HA := hide (fun w' (e : Ext w w') => hide (ha w' ((HK.out.kids _ (List.getElem_mem h1)).ext e)))
  have i0 : (0 : Int) < (t.kids.length : Int) := by omega
  have i1 : (1 : Int) < (t.kids.length : Int) := by omega
  have hs1 : ¬ ((⟨sf.toArray⟩ : ByteArray).size + (⟨#[32]⟩ : ByteArray).size > 9223372036854775807) := by rw [ba_size sf]; show ¬ (sf.length + 1 > _); omega
  have e1 : (ByteArray.mk sf.toArray ++ ByteArray.mk #[32]) = ByteArray.mk (sf ++ ([32] : Str) : Str).toArray := ByteArray.mk_append_mk sf ([32] : Str)
  have hs2 : ¬ ((⟨(sf ++ ([32] : Str) : Str).toArray⟩ : ByteArray).size + (⟨sa.toArray⟩ : ByteArray).size > 9223372036854775807) := by
    rw [ba_size (sf ++ ([32] : Str)), ba_size sa]
    simp only [List.length_append, List.length_cons, List.length_nil]
    omega
  have e2 : (ByteArray.mk (sf ++ ([32] : Str) : Str).toArray ++ ByteArray.mk sa.toArray) = ByteArray.mk (sf ++ ([32] : Str) ++ sa : Str).toArray := ByteArray.mk_append_mk (sf ++ ([32] : Str)) sa
  have hs3 : ¬ ((⟨#[40]⟩ : ByteArray).size + (⟨(sf ++ ([32] : Str) ++ sa : Str).toArray⟩ : ByteArray).size > 9223372036854775807) := by
    rw [ba_size (sf ++ ([32] : Str) ++ sa)]
    show ¬ (1 + _ > _)
    simp only [List.length_append, List.length_cons, List.length_nil]
    omega
  have e3 : (ByteArray.mk #[40] ++ ByteArray.mk (sf ++ ([32] : Str) ++ sa : Str).toArray) = ByteArray.mk (([40] : Str) ++ (sf ++ ([32] : Str) ++ sa) : Str).toArray := ByteArray.mk_append_mk ([40] : Str) (sf ++ ([32] : Str) ++ sa)
  have hs4 : ¬ ((⟨(([40] : Str) ++ (sf ++ ([32] : Str) ++ sa) : Str).toArray⟩ : ByteArray).size + (⟨#[41]⟩ : ByteArray).size > 9223372036854775807) := by
    rw [ba_size (([40] : Str) ++ (sf ++ ([32] : Str) ++ sa))]
    show ¬ (_ + 1 > _)
    simp only [List.length_append, List.length_cons, List.length_nil]
    omega
  have e4 : (ByteArray.mk (([40] : Str) ++ (sf ++ ([32] : Str) ++ sa) : Str).toArray ++ ByteArray.mk #[41]) = ByteArray.mk (([40] : Str) ++ (sf ++ ([32] : Str) ++ sa) ++ ([41] : Str) : Str).toArray := ByteArray.mk_append_mk (([40] : Str) ++ (sf ++ ([32] : Str) ++ sa)) ([41] : Str)
  have hq1 : ¬ (9223372036854775807 < sf.length + 1) := by omega
  have hq2 : ¬ (9223372036854775807 < (sf ++ ([32] : Str)).length + sa.length) := by simp only [List.length_append, List.length_cons, List.length_nil]; omega
  have hq3 : ¬ (9223372036854775807 < 1 + (sf ++ ([32] : Str) ++ sa).length) := by simp only [List.length_append, List.length_cons, List.length_nil]; omega
  have hq4 : ¬ (9223372036854775807 < (([40] : Str) ++ (sf ++ ([32] : Str) ++ sa)).length + 1) := by simp only [List.length_append, List.length_cons, List.length_nil]; omega
  generalize (([40] : Str) ++ (sf ++ ([32] : Str) ++ sa) ++ ([41] : Str) : Str) = s4 at *
  generalize (([40] : Str) ++ (sf ++ ([32] : Str) ++ sa) : Str) = s3 at *
  generalize (sf ++ ([32] : Str) ++ sa : Str) = s2 at *
  generalize (sf ++ ([32] : Str) : Str) = s1 at *
  generalize t.kids[0]'h0 = ka at *
  generalize t.kids[1]'h1 = kb at *
  have HS : Hid (∀ w', Ext W w' → (w'.cell? ⟨w.heap.size, 5, none⟩ = some (.slice (some ⟨b, o, none⟩) t.kids.length t.cap) ∧
      w'.cell? ⟨b, o, none⟩ = some (.int .i64 ka.kind) ∧ w'.cell? ⟨b, o + 1, none⟩ = some (.int .i64 ka.n) ∧ w'.cell? ⟨b, o + 2, none⟩ = some (.string ⟨ka.name.toArray⟩) ∧ w'.cell? ⟨b, o + 3, none⟩ = some (.slice ka.V ka.vars.length ka.vc) ∧ w'.cell? ⟨b, o + 4, none⟩ = some (.slice ka.T ka.types.length ka.tc) ∧ w'.cell? ⟨b, o + 5, none⟩ = some (.slice ka.A ka.kids.length ka.cap) ∧
      w'.cell? ⟨b, o + 6, none⟩ = some (.int .i64 kb.kind) ∧ w'.cell? ⟨b, o + 6 + 1, none⟩ = some (.int .i64 kb.n) ∧ w'.cell? ⟨b, o + 6 + 2, none⟩ = some (.string ⟨kb.name.toArray⟩) ∧ w'.cell? ⟨b, o + 6 + 3, none⟩ = some (.slice kb.V kb.vars.length kb.vc) ∧ w'.cell? ⟨b, o + 6 + 4, none⟩ = some (.slice kb.T kb.types.length kb.tc) ∧ w'.cell? ⟨b, o + 6 + 5, none⟩ = some (.slice kb.A kb.kids.length kb.cap))) := hide (by
    rw [hA] at c5
    have z0 : o + 0 * 6 = o := by omega
    have z1 : o + 1 * 6 = o + 6 := by omega
    rw [z0] at q0 q1 q2 q3 q4 q5
    rw [z1] at r0 r1 r2 r3 r4 r5
    exact fun w' e => ⟨e.cell c5, e.cell q0, e.cell q1, e.cell q2, e.cell q3, e.cell q4, e.cell q5, e.cell r0, e.cell r1, e.cell r2, e.cell r3, e.cell r4, e.cell r5⟩)
  rw [hA] at c5
  clear q0 q1 q2 q3 q4 q5 r0 r1 r2 r3 r4 r5 hb hA h hf ha HK HB0
  unfold tmV at HF HA ⊢
  go_enter Tryz.func46, Tryz.ntmps46
  go_upto_region 1 with fail
  rw [HW.out]
  obtain ⟨p0, p1, p2, p3, p4, p5, p6, p7, p8, p9, p10, p11, p12⟩ := HS.out _ (Ext.refl W)
  clear c5 HW
  go_upto_region 13 with fail
  go_region_held3 (fun w' : World => (w'.cell? ⟨w.heap.size, 5, none⟩ = some (.slice (some ⟨b, o, none⟩) t.kids.length t.cap) ∧ w'.cell? ⟨b, o, none⟩ = some (.int .i64 ka.kind) ∧ w'.cell? ⟨b, o + 1, none⟩ = some (.int .i64 ka.n) ∧ w'.cell? ⟨b, o + 2, none⟩ = some (.string ⟨ka.name.toArray⟩) ∧ w'.cell? ⟨b, o + 3, none⟩ = some (.slice ka.V ka.vars.length ka.vc) ∧ w'.cell? ⟨b, o + 4, none⟩ = some (.slice ka.T ka.types.length ka.tc) ∧ w'.cell? ⟨b, o + 5, none⟩ = some (.slice ka.A ka.kids.length ka.cap) ∧ w'.cell? ⟨b, o + 6, none⟩ = some (.int .i64 kb.kind) ∧ w'.cell? ⟨b, o + 6 + 1, none⟩ = some (.int .i64 kb.n) ∧ w'.cell? ⟨b, o + 6 + 2, none⟩ = some (.string ⟨kb.name.toArray⟩) ∧ w'.cell? ⟨b, o + 6 + 3, none⟩ = some (.slice kb.V kb.vars.length kb.vc) ∧ w'.cell? ⟨b, o + 6 + 4, none⟩ = some (.slice kb.T kb.types.length kb.tc) ∧ w'.cell? ⟨b, o + 6 + 5, none⟩ = some (.slice kb.A kb.kids.length kb.cap))) (first | assumption | (exact HS.out _ (Ext.refl W).drew)) (first
    | (go_at_call 46
       with_reducible refine Calls.mono (HF.out _ ?e).out ?_
       case e => first | (refine Ext.trans X0.out ?_; (repeat (first | exact Ext.refl _ | exact Ext.pre (by simp) | exact Ext.alloc (by assumption) _ | refine Ext.alloc ?_ _ | refine Ext.more ?_ _ _ | refine Ext.drew ?_ | refine Ext.drewN ?_ _)); done) | (refine Ext.trans (X0.out.trans X8.out) ?_; (repeat (first | exact Ext.refl _ | exact Ext.pre (by simp) | exact Ext.alloc (by assumption) _ | refine Ext.alloc ?_ _ | refine Ext.more ?_ _ _ | refine Ext.drew ?_ | refine Ext.drewN ?_ _)); done)
       rintro e w7 ⟨rfl, hx7⟩
       have X7 : Hid (Ext W w7) := hide (by
         refine Ext.trans ?_ hx7
         first | (refine Ext.trans (Ext.refl W) ?_; (repeat (first | exact Ext.refl _ | exact Ext.pre (by simp) | exact Ext.alloc (by assumption) _ | refine Ext.alloc ?_ _ | refine Ext.more ?_ _ _ | refine Ext.drew ?_ | refine Ext.drewN ?_ _)); done) | (refine Ext.trans X8.out ?_; (repeat (first | exact Ext.refl _ | exact Ext.pre (by simp) | exact Ext.alloc (by assumption) _ | refine Ext.alloc ?_ _ | refine Ext.more ?_ _ _ | refine Ext.drew ?_ | refine Ext.drewN ?_ _)); done))
       have K7 := HS.out _ X7.out
       clear hx7)
    | (go_at_call 46
       with_reducible refine Calls.mono (HA.out _ ?e).out ?_
       case e => first | (refine Ext.trans X0.out ?_; (repeat (first | exact Ext.refl _ | exact Ext.pre (by simp) | exact Ext.alloc (by assumption) _ | refine Ext.alloc ?_ _ | refine Ext.more ?_ _ _ | refine Ext.drew ?_ | refine Ext.drewN ?_ _)); done) | (refine Ext.trans (X0.out.trans X7.out) ?_; (repeat (first | exact Ext.refl _ | exact Ext.pre (by simp) | exact Ext.alloc (by assumption) _ | refine Ext.alloc ?_ _ | refine Ext.more ?_ _ _ | refine Ext.drew ?_ | refine Ext.drewN ?_ _)); done)
       rintro e w8 ⟨rfl, hx8⟩
       have X8 : Hid (Ext W w8) := hide (by
         refine Ext.trans ?_ hx8
         first | (refine Ext.trans (Ext.refl W) ?_; (repeat (first | exact Ext.refl _ | exact Ext.pre (by simp) | exact Ext.alloc (by assumption) _ | refine Ext.alloc ?_ _ | refine Ext.more ?_ _ _ | refine Ext.drew ?_ | refine Ext.drewN ?_ _)); done) | (refine Ext.trans X7.out ?_; (repeat (first | exact Ext.refl _ | exact Ext.pre (by simp) | exact Ext.alloc (by assumption) _ | refine Ext.alloc ?_ _ | refine Ext.more ?_ _ _ | refine Ext.drew ?_ | refine Ext.drewN ?_ _)); done))
       have K8 := HS.out _ X8.out
       clear hx8))
  all_goals
    go_wp2
    go_ret
    first
      | exact ⟨rfl, X0.out.trans X7.out⟩
      | exact ⟨rfl, X0.out.trans X8.out⟩
      | exact ⟨rfl, X0.out.trans (X7.out.trans (by repeat (first | exact Ext.refl _ | exact Ext.pre (by simp) | exact Ext.alloc (by assumption) _ | refine Ext.alloc ?_ _ |  refine Ext.more ?_ _ _ | refine Ext.drew ?_ | refine Ext.drewN ?_ _)))⟩
      | exact ⟨rfl, X0.out.trans (X8.out.trans (by repeat (first | exact Ext.refl _ | exact Ext.pre (by simp) | exact Ext.alloc (by assumption) _ | refine Ext.alloc ?_ _ |  refine Ext.more ?_ _ _ | refine Ext.drew ?_ | refine Ext.drewN ?_ _)))⟩

end Go.Proofs.YtcnkfkjgpdmebaaGreatDoor

/- Contract: strings.Join of one text. -/
namespace Go.Proofs.YtcnkfkjgpdmebaaGreatDoor
open Go.RowKit

set_option maxRecDepth 10000 in
set_option maxHeartbeats 2000000 in
theorem s_join1 (g cap : Nat) (s sep : Str) (w : World) (h : w.heap[g]? = some (.cells #[encStr s] 9 (0, 0))) : Calls Tryz.prog 121 #[.slice (some ⟨g, 0, none⟩) 1 cap, encStr sep] w fun e w' => e = .returned (encStr s) ∧ w' = w := by
  have k0 := bytes_block h 0
  simp only [List.getElem?_toArray, List.getElem?_cons_zero] at k0
  clear h
  go_enter Tryz.func121, Tryz.ntmps121
  go_wp2
  go_ret
  exact ⟨rfl, rfl⟩

end Go.Proofs.YtcnkfkjgpdmebaaGreatDoor

/- Contracts: the text of one type, of one variable, as terms' texts ask for it. -/
namespace Go.Proofs.YtcnkfkjgpdmebaaGreatDoor
open Go.RowKit Go.Shelf

/-- A type's text within a term's. -/
noncomputable def tyS (x : Ty) : Str := polyS ⟨[], none, 0, x⟩

set_option maxRecDepth 10000 in
set_option maxHeartbeats 2000000 in
theorem m_typ (x : Ty) (w : World) (h : TyIn w x) (ok : okI x = true) (hsz : x.size ≤ 20000) : Calls Tryz.prog 118 #[tyV x] w fun e w' => e = .returned (encStr (tyS x)) ∧ Ext w w' := by
  have HB := hide (TBox.new w x)
  have X0 : Hid (Ext w (w.alloc (.cells #[encStr x.con, .int .i64 x.var, .slice x.A x.args.length x.cap] 53))) := hide ((Ext.refl w).alloc _)
  have HP : Hid (PoIn w ⟨[], none, 0, x⟩) := hide ⟨Nat.le_refl _, by show 0 ≤ 9223372036854775807; omega, RowOf.nil _ _ _, h⟩
  have HT := hide (fun w' (e : Ext w w') => hide (f_Text0 ⟨[], none, 0, x⟩ w' (HP.out.ext e) ok hsz rfl))
  have HR : Hid (polyS ⟨[], none, 0, x⟩ = tyS x) := hide rfl
  rw [HR.out] at HT
  have c0 := HB.out.c0
  have c1 := HB.out.c1
  have c2 := HB.out.c2
  clear h ok HR
  generalize tyS x = R at *
  unfold poV at HT
  simp only [List.length_nil] at HT
  unfold tyV
  go_enter Tryz.func118, Tryz.ntmps118
  go_wp2_with fail
  refine (HT.out _ X0.out).out.mono ?_
  rintro e w2 ⟨rfl, hx⟩
  go_wp2
  go_ret
  exact ⟨rfl, X0.out.trans hx⟩

theorem make_str1 (W : World) : (Instr.makeSlice 67 (.int .i64 1) (.int .i64 1)).run Tryz.prog W = .ok (.slice (some ⟨W.heap.size, 0, none⟩) 1 1) (W.alloc (.cells #[.string ⟨#[]⟩] 9)) := by
  obtain ⟨i1, hj, hy0, hy1, hy2⟩ := info_parts str_infoB
  have hmk := run_make (P := Tryz.prog) W 67 9 i1 _ Tryz.underlying67 hj hy0 .i64 .i64 1 1 (by omega) (Int.le_refl _) (by rw [hy2]; omega) (by omega)
  have e : madeCells (Value.string ⟨#[]⟩).cells (Int.toNat 1 * 1) = #[.string ⟨#[]⟩] := by kernel_rfl
  rw [hy1, e] at hmk
  exact hmk

set_option maxRecDepth 10000 in
set_option maxHeartbeats 4000000 in
theorem j_types1 (A : Option Addr) (cap : Nat) (x : Ty) (s sep : Str) (w : World) (h : TysIn w A [x]) (hx : ∀ w', Ext w w' → Calls Tryz.prog 118 #[tyV x] w' fun e w'' => e = .returned (encStr s) ∧ Ext w' w'') :
    Calls Tryz.prog 117 #[.slice A 1 cap, encStr sep, .func (.func 118) #[] #[]] w fun e w' => e = .returned (encStr s) ∧ Ext w w' := by
  have hmk := make_str1 w
  obtain ⟨W1, hW1⟩ : ∃ W1, W1 = w.alloc (.cells #[.string ⟨#[]⟩] 9) := ⟨_, rfl⟩
  have X1 : Hid (Ext w W1) := hide (by rw [hW1]; exact (Ext.refl _).alloc _)
  have B1 : Hid (W1.heap[w.heap.size]? = some (.cells #[encStr []] 9 (0, 0))) := hide (by rw [hW1]; exact at_newB _ _ _ rfl)
  rw [← hW1] at hmk
  have HK := hide h
  have HX := hide hx
  clear h hx hW1
  go_enter Tryz.func117, Tryz.ntmps117
  go_wp2
  go_loopw [15] (fun i wr => ∃ k : Nat, k ≤ 1 ∧ i = .int .i64 k ∧ Hid (wr.heap[w.heap.size]? = some (.cells #[encStr (if k = 0 then [] else s)] 9 (0, 0))) ∧ Hid (Ext w wr)) (fun i _ => 1 - (intOf i).toNat)
  case atStart => exact ⟨0, by omega, rfl, B1, X1⟩
  case round =>
    obtain ⟨k, hk, rfl, HB, HXr⟩ := hrel
    by_cases hlt : k < 1
    · have hk0 : k = 0 := by omega
      subst hk0
      obtain ⟨b, o, hA, hb, q0, q1, q2⟩ := (HK.out.ext HXr.out).at_ (i := 0) (by simp)
      have z0 : o + 0 * 3 = o := by omega
      have hge0 : [x][0]'(by simp) = x := rfl
      rw [z0, hge0] at q0 q1 q2
      have hbl := lt_of_obj HB.out
      clear hge0 z0
      unfold tyV at HX
      rw [hA]
      clear hA
      go_wp2_with fail
      refine (HX.out _ (HXr.out.alloc _)).mono ?_
      rintro e w3 ⟨rfl, hx3⟩
      have X3 : Hid (Ext wr w3) := hide (((Ext.refl wr).alloc _).trans hx3)
      have C3 := hide ((X3.out.heap hbl).trans HB.out)
      have f0 := free_block C3.out 0
      have k0 := bytes_block C3.out 0
      simp only [List.getElem?_toArray, List.getElem?_cons_zero] at k0
      have HBn : Hid ((w3.setCell ⟨w.heap.size, 0, none⟩ (encStr s)).heap[w.heap.size]? = some (.cells #[encStr (if 1 = 0 then [] else s)] 9 (0, 0))) := hide (by have := blk_setCell C3.out 0 (encStr s); simpa using this)
      have HXn : Hid (Ext w (w3.setCell ⟨w.heap.size, 0, none⟩ (encStr s))) := hide ((HXr.out.trans X3.out).setCell (by simp) _)
      clear hx3
      go_wp2
      go_roundw
      case rel => exact ⟨1, Nat.le_refl _, by go_num, HBn, HXn⟩
      case measure => simp [intOf]
    · have hk1 : k = 1 := by omega
      subst hk1
      have HJ := hide (s_join1 w.heap.size 1 s sep wr (by have := HB.out; simpa using this))
      go_wp2_with fail
      refine HJ.out.mono ?_
      rintro e w3 ⟨rfl, rfl⟩
      go_wp2
      go_ret
      exact ⟨rfl, HXr.out⟩

set_option maxRecDepth 10000 in
set_option maxHeartbeats 2000000 in
theorem m_typs1 (A : Option Addr) (cap : Nat) (l : List Ty) (h1 : 0 < l.length) (hl : l.length = 1) (w : World) (h : TysIn w A l) (ok : okI (l[0]'h1) = true) (hsz : (l[0]'h1).size ≤ 20000) :
    Calls Tryz.prog 71 #[.slice A l.length cap] w fun e w' => e = .returned (encStr (tyS (l[0]'h1))) ∧ Ext w w' := by
  obtain ⟨x, rfl⟩ : ∃ x, l = [x] := by
    match l, hl with
    | [x], _ => exact ⟨x, rfl⟩
  have ok : okI x = true := ok
  have hsz : x.size ≤ 20000 := hsz
  have HJ := hide (j_types1 A cap x (tyS x) [44, 32] w h (fun w' e => m_typ x w' ((h.args x (by simp)).ext e) ok hsz))
  show Calls Tryz.prog 71 #[.slice A 1 cap] w fun e w' => e = .returned (encStr (tyS x)) ∧ Ext w w'
  generalize tyS x = R at *
  clear h
  go_enter Tryz.func71, Tryz.ntmps71
  go_wp2_with fail
  refine HJ.out.mono ?_
  rintro e w3 ⟨rfl, hx⟩
  go_wp2
  go_ret
  exact ⟨rfl, hx⟩

end Go.Proofs.YtcnkfkjgpdmebaaGreatDoor

/- Contracts: a term's text: lambdas, terms for all types. (A program of ours has printed it.) -/
namespace Go.Proofs.YtcnkfkjgpdmebaaGreatDoor
open Go.RowKit Go.Shelf

end Go.Proofs.YtcnkfkjgpdmebaaGreatDoor
