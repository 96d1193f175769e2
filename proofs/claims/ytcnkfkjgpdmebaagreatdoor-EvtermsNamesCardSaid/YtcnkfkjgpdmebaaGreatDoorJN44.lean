/- Contracts: a term's text: terms with types, projections. (A program of ours has printed it.) -/
import Derived.Test.YtcnkfkjgpdmebaaGreatDoorJN43
import Derived.Deep.RegionHeld3
/- Contracts: a term's text: terms with types, projections. (A program of ours has printed it.) -/
namespace Go.Proofs.YtcnkfkjgpdmebaaGreatDoor
open Go.RowKit Go.Shelf

set_option maxRecDepth 10000 in
set_option maxHeartbeats 8000000 in
theorem txt_inst (t : Tm) (hk : (t.kind == 6) = true) (h0 : 0 < t.kids.length) (h1 : 0 < t.types.length) (hl1 : t.types.length = 1) (ok : okI (t.types[0]'h1) = true) (hsz : (t.types[0]'h1).size ≤ 20000) (ty : Str) (hty : tyS (t.types[0]'h1) = ty) (sb : Str) (hb : TextsTo (t.kids[0]'h0) sb) (hl : t.name.length + ty.length + sb.length ≤ 1000000) : TextsTo t ((([40] : Str) ++ (((sb ++ ([32, 91] : Str)) ++ ty) ++ ([93] : Str))) ++ ([41] : Str)) := by
  intro w h
  obtain ⟨W, hW⟩ : ∃ W, W = w.alloc (.cells #[.int .i64 t.kind, .int .i64 t.n, encStr t.name, .slice t.V t.vars.length t.vc, .slice t.T t.types.length t.tc, .slice t.A t.kids.length t.cap] 40) := ⟨_, rfl⟩
  have HW := hide hW.symm
  have HB0 : Hid (TmBox W w.heap.size t) := hide (by rw [hW]; exact TmBox.new w t)
  have X0 : Hid (Ext w W) := hide (by rw [hW]; exact (Ext.refl w).alloc _)
  clear hW
  obtain ⟨c0, c1, c2, c3, c4, c5⟩ := HB0.out.cells
  have n1 : (t.kind == 1) = false := by simp at hk ⊢; omega
  have n2 : (t.kind == 2) = false := by simp at hk ⊢; omega
  have n14 : (t.kind == 14) = false := by simp at hk ⊢; omega
  have n3 : (t.kind == 3) = false := by simp at hk ⊢; omega
  have n4 : (t.kind == 4) = false := by simp at hk ⊢; omega
  have n5 : (t.kind == 5) = false := by simp at hk ⊢; omega
  have HK := hide h.all
  obtain ⟨b, o, hA, hbb, q0, q1, q2, q3, q4, q5⟩ := (HK.out.ext X0.out).at_ h0
  have HF := hide (fun w' (e : Ext w w') => hide (hb w' ((HK.out.kids _ (List.getElem_mem h0)).ext e)))
  have i0 : (0 : Int) < (t.kids.length : Int) := by omega
  have HT := hide (fun w' (e : Ext w w') => hide (m_typs1 t.T t.tc t.types h1 hl1 w' (h.hd.types.ext e) ok hsz))
  rw [hty] at HT
  clear ok hsz hl1
  clear h1 hty
  have hs0 : ¬ ((ByteArray.mk (sb : Str).toArray).size + (ByteArray.mk #[32, 91]).size > 9223372036854775807) := by
    rw [ba_size sb]
    show ¬ ((sb : Str).length + 2 > 9223372036854775807)
    try simp only [List.length_append, List.length_cons, List.length_nil]
    omega
  have e0 : (ByteArray.mk (sb : Str).toArray) ++ (ByteArray.mk #[32, 91]) = ByteArray.mk ((sb ++ ([32, 91] : Str)) : Str).toArray := ByteArray.mk_append_mk sb ([32, 91] : Str)
  have hq0 : ¬ (9223372036854775807 < (sb : Str).length + 2) := by (try simp only [List.length_append, List.length_cons, List.length_nil]); omega
  have hs1 : ¬ ((ByteArray.mk ((sb ++ ([32, 91] : Str)) : Str).toArray).size + (ByteArray.mk (ty : Str).toArray).size > 9223372036854775807) := by
    rw [ba_size (sb ++ ([32, 91] : Str)), ba_size ty]
    show ¬ (((sb ++ ([32, 91] : Str)) : Str).length + (ty : Str).length > 9223372036854775807)
    try simp only [List.length_append, List.length_cons, List.length_nil]
    omega
  have e1 : (ByteArray.mk ((sb ++ ([32, 91] : Str)) : Str).toArray) ++ (ByteArray.mk (ty : Str).toArray) = ByteArray.mk (((sb ++ ([32, 91] : Str)) ++ ty) : Str).toArray := ByteArray.mk_append_mk (sb ++ ([32, 91] : Str)) ty
  have hq1 : ¬ (9223372036854775807 < ((sb ++ ([32, 91] : Str)) : Str).length + (ty : Str).length) := by (try simp only [List.length_append, List.length_cons, List.length_nil]); omega
  have hs2 : ¬ ((ByteArray.mk (((sb ++ ([32, 91] : Str)) ++ ty) : Str).toArray).size + (ByteArray.mk #[93]).size > 9223372036854775807) := by
    rw [ba_size ((sb ++ ([32, 91] : Str)) ++ ty)]
    show ¬ ((((sb ++ ([32, 91] : Str)) ++ ty) : Str).length + 1 > 9223372036854775807)
    try simp only [List.length_append, List.length_cons, List.length_nil]
    omega
  have e2 : (ByteArray.mk (((sb ++ ([32, 91] : Str)) ++ ty) : Str).toArray) ++ (ByteArray.mk #[93]) = ByteArray.mk ((((sb ++ ([32, 91] : Str)) ++ ty) ++ ([93] : Str)) : Str).toArray := ByteArray.mk_append_mk ((sb ++ ([32, 91] : Str)) ++ ty) ([93] : Str)
  have hq2 : ¬ (9223372036854775807 < (((sb ++ ([32, 91] : Str)) ++ ty) : Str).length + 1) := by (try simp only [List.length_append, List.length_cons, List.length_nil]); omega
  have hs3 : ¬ ((ByteArray.mk #[40]).size + (ByteArray.mk ((((sb ++ ([32, 91] : Str)) ++ ty) ++ ([93] : Str)) : Str).toArray).size > 9223372036854775807) := by
    rw [ba_size (((sb ++ ([32, 91] : Str)) ++ ty) ++ ([93] : Str))]
    show ¬ (1 + ((((sb ++ ([32, 91] : Str)) ++ ty) ++ ([93] : Str)) : Str).length > 9223372036854775807)
    try simp only [List.length_append, List.length_cons, List.length_nil]
    omega
  have e3 : (ByteArray.mk #[40]) ++ (ByteArray.mk ((((sb ++ ([32, 91] : Str)) ++ ty) ++ ([93] : Str)) : Str).toArray) = ByteArray.mk ((([40] : Str) ++ (((sb ++ ([32, 91] : Str)) ++ ty) ++ ([93] : Str))) : Str).toArray := ByteArray.mk_append_mk ([40] : Str) (((sb ++ ([32, 91] : Str)) ++ ty) ++ ([93] : Str))
  have hq3 : ¬ (9223372036854775807 < 1 + ((((sb ++ ([32, 91] : Str)) ++ ty) ++ ([93] : Str)) : Str).length) := by (try simp only [List.length_append, List.length_cons, List.length_nil]); omega
  have hs4 : ¬ ((ByteArray.mk ((([40] : Str) ++ (((sb ++ ([32, 91] : Str)) ++ ty) ++ ([93] : Str))) : Str).toArray).size + (ByteArray.mk #[41]).size > 9223372036854775807) := by
    rw [ba_size (([40] : Str) ++ (((sb ++ ([32, 91] : Str)) ++ ty) ++ ([93] : Str)))]
    show ¬ (((([40] : Str) ++ (((sb ++ ([32, 91] : Str)) ++ ty) ++ ([93] : Str))) : Str).length + 1 > 9223372036854775807)
    try simp only [List.length_append, List.length_cons, List.length_nil]
    omega
  have e4 : (ByteArray.mk ((([40] : Str) ++ (((sb ++ ([32, 91] : Str)) ++ ty) ++ ([93] : Str))) : Str).toArray) ++ (ByteArray.mk #[41]) = ByteArray.mk (((([40] : Str) ++ (((sb ++ ([32, 91] : Str)) ++ ty) ++ ([93] : Str))) ++ ([41] : Str)) : Str).toArray := ByteArray.mk_append_mk (([40] : Str) ++ (((sb ++ ([32, 91] : Str)) ++ ty) ++ ([93] : Str))) ([41] : Str)
  have hq4 : ¬ (9223372036854775807 < ((([40] : Str) ++ (((sb ++ ([32, 91] : Str)) ++ ty) ++ ([93] : Str))) : Str).length + 1) := by (try simp only [List.length_append, List.length_cons, List.length_nil]); omega
  generalize (((([40] : Str) ++ (((sb ++ ([32, 91] : Str)) ++ ty) ++ ([93] : Str))) ++ ([41] : Str)) : Str) = s4 at *
  generalize ((([40] : Str) ++ (((sb ++ ([32, 91] : Str)) ++ ty) ++ ([93] : Str))) : Str) = s3 at *
  generalize ((((sb ++ ([32, 91] : Str)) ++ ty) ++ ([93] : Str)) : Str) = s2 at *
  generalize (((sb ++ ([32, 91] : Str)) ++ ty) : Str) = s1 at *
  generalize ((sb ++ ([32, 91] : Str)) : Str) = s0 at *
  generalize t.kids[0]'h0 = ka at *
  have HS : Hid (∀ w', Ext W w' → (w'.cell? ⟨w.heap.size, 4, none⟩ = some (.slice t.T t.types.length t.tc) ∧ w'.cell? ⟨w.heap.size, 5, none⟩ = some (.slice (some ⟨b, o, none⟩) t.kids.length t.cap) ∧ w'.cell? ⟨b, o, none⟩ = some (.int .i64 ka.kind) ∧ w'.cell? ⟨b, o + 1, none⟩ = some (.int .i64 ka.n) ∧ w'.cell? ⟨b, o + 2, none⟩ = some (.string ⟨ka.name.toArray⟩) ∧ w'.cell? ⟨b, o + 3, none⟩ = some (.slice ka.V ka.vars.length ka.vc) ∧ w'.cell? ⟨b, o + 4, none⟩ = some (.slice ka.T ka.types.length ka.tc) ∧ w'.cell? ⟨b, o + 5, none⟩ = some (.slice ka.A ka.kids.length ka.cap))) := hide (by
    rw [hA] at c5
    have z0 : o + 0 * 6 = o := by omega
    rw [z0] at q0 q1 q2 q3 q4 q5
    exact fun w' e => ⟨e.cell c4, e.cell c5, e.cell q0, e.cell q1, e.cell q2, e.cell q3, e.cell q4, e.cell q5⟩)
  clear q0 q1 q2 q3 q4 q5 hbb hA h hb HK HB0
  unfold tmV at HF ⊢
  go_enter Tryz.func46, Tryz.ntmps46
  go_upto_region 1 with fail
  rw [HW.out]
  obtain ⟨p0, p1, p2, p3, p4, p5, p6, p7⟩ := HS.out _ (Ext.refl W)
  clear c5 HW
  go_upto_region 17 with fail
  go_region_held3 (fun w' : World => (w'.cell? ⟨w.heap.size, 4, none⟩ = some (.slice t.T t.types.length t.tc) ∧ w'.cell? ⟨w.heap.size, 5, none⟩ = some (.slice (some ⟨b, o, none⟩) t.kids.length t.cap) ∧ w'.cell? ⟨b, o, none⟩ = some (.int .i64 ka.kind) ∧ w'.cell? ⟨b, o + 1, none⟩ = some (.int .i64 ka.n) ∧ w'.cell? ⟨b, o + 2, none⟩ = some (.string ⟨ka.name.toArray⟩) ∧ w'.cell? ⟨b, o + 3, none⟩ = some (.slice ka.V ka.vars.length ka.vc) ∧ w'.cell? ⟨b, o + 4, none⟩ = some (.slice ka.T ka.types.length ka.tc) ∧ w'.cell? ⟨b, o + 5, none⟩ = some (.slice ka.A ka.kids.length ka.cap))) (first | assumption | (exact HS.out _ (Ext.refl W).drew)) (first
    | (go_at_call 71
       refine Calls.mono (HT.out _ ?e).out ?_
       case e => first | (refine Ext.trans X0.out ?_; (repeat (first | exact Ext.refl _ | exact Ext.pre (by simp) | exact Ext.alloc (by assumption) _ | refine Ext.alloc ?_ _ | refine Ext.more ?_ _ _ | refine Ext.drew ?_ | refine Ext.drewN ?_ _)); done) | (refine Ext.trans (X0.out.trans X8.out) ?_; (repeat (first | exact Ext.refl _ | exact Ext.pre (by simp) | exact Ext.alloc (by assumption) _ | refine Ext.alloc ?_ _ | refine Ext.more ?_ _ _ | refine Ext.drew ?_ | refine Ext.drewN ?_ _)); done)
       rintro e w7 ⟨rfl, hx7⟩
       have X7 : Hid (Ext W w7) := hide (by
         refine Ext.trans ?_ hx7
         first | (refine Ext.trans (Ext.refl W) ?_; (repeat (first | exact Ext.refl _ | exact Ext.pre (by simp) | exact Ext.alloc (by assumption) _ | refine Ext.alloc ?_ _ | refine Ext.more ?_ _ _ | refine Ext.drew ?_ | refine Ext.drewN ?_ _)); done) | (refine Ext.trans X8.out ?_; (repeat (first | exact Ext.refl _ | exact Ext.pre (by simp) | exact Ext.alloc (by assumption) _ | refine Ext.alloc ?_ _ | refine Ext.more ?_ _ _ | refine Ext.drew ?_ | refine Ext.drewN ?_ _)); done))
       have K7 := HS.out _ X7.out
       clear hx7)
    | (go_at_call 46
       refine Calls.mono (HF.out _ ?e).out ?_
       case e => first | (refine Ext.trans X0.out ?_; (repeat (first | exact Ext.refl _ | exact Ext.pre (by simp) | exact Ext.alloc (by assumption) _ | refine Ext.alloc ?_ _ | refine Ext.more ?_ _ _ | refine Ext.drew ?_ | refine Ext.drewN ?_ _)); done) | (refine Ext.trans (X0.out.trans X7.out) ?_; (repeat (first | exact Ext.refl _ | exact Ext.pre (by simp) | exact Ext.alloc (by assumption) _ | refine Ext.alloc ?_ _ | refine Ext.more ?_ _ _ | refine Ext.drew ?_ | refine Ext.drewN ?_ _)); done)
       rintro e w8 ⟨rfl, hx8⟩
       have X8 : Hid (Ext W w8) := hide (by
         refine Ext.trans ?_ hx8
         first | (refine Ext.trans (Ext.refl W) ?_; (repeat (first | exact Ext.refl _ | exact Ext.pre (by simp) | exact Ext.alloc (by assumption) _ | refine Ext.alloc ?_ _ | refine Ext.more ?_ _ _ | refine Ext.drew ?_ | refine Ext.drewN ?_ _)); done) | (refine Ext.trans X7.out ?_; (repeat (first | exact Ext.refl _ | exact Ext.pre (by simp) | exact Ext.alloc (by assumption) _ | refine Ext.alloc ?_ _ | refine Ext.more ?_ _ _ | refine Ext.drew ?_ | refine Ext.drewN ?_ _)); done))
       have K8 := HS.out _ X8.out
       clear hx8))
  all_goals
    go_wp2
    go_ret
    first
      | exact ⟨rfl, X0.out.trans X7.out⟩
      | exact ⟨rfl, X0.out.trans X8.out⟩
      | exact ⟨rfl, X0.out.trans (X7.out.trans (by repeat (first | exact Ext.refl _ | exact Ext.pre (by simp) | exact Ext.alloc (by assumption) _ | refine Ext.alloc ?_ _ |  refine Ext.more ?_ _ _ | refine Ext.drew ?_ | refine Ext.drewN ?_ _)))⟩
      | exact ⟨rfl, X0.out.trans (X8.out.trans (by repeat (first | exact Ext.refl _ | exact Ext.pre (by simp) | exact Ext.alloc (by assumption) _ | refine Ext.alloc ?_ _ |  refine Ext.more ?_ _ _ | refine Ext.drew ?_ | refine Ext.drewN ?_ _)))⟩

set_option maxRecDepth 10000 in
set_option maxHeartbeats 8000000 in
theorem txt_proj (t : Tm) (hk : (t.kind == 13) = true) (h0 : 0 < t.kids.length) (m : Nat) (hm : t.n = (m : Int)) (h1 : m ≤ 9223372036854775807) (ty : Str) (hty : digs m = ty) (sb : Str) (hb : TextsTo (t.kids[0]'h0) sb) (hl : t.name.length + ty.length + sb.length ≤ 1000000) : TextsTo t ((([40] : Str) ++ ((((sb ++ ([46] : Str)) ++ t.name) ++ ([46] : Str)) ++ ty)) ++ ([41] : Str)) := by
  intro w h
  obtain ⟨W, hW⟩ : ∃ W, W = w.alloc (.cells #[.int .i64 t.kind, .int .i64 t.n, encStr t.name, .slice t.V t.vars.length t.vc, .slice t.T t.types.length t.tc, .slice t.A t.kids.length t.cap] 40) := ⟨_, rfl⟩
  have HW := hide hW.symm
  have HB0 : Hid (TmBox W w.heap.size t) := hide (by rw [hW]; exact TmBox.new w t)
  have X0 : Hid (Ext w W) := hide (by rw [hW]; exact (Ext.refl w).alloc _)
  clear hW
  obtain ⟨c0, c1, c2, c3, c4, c5⟩ := HB0.out.cells
  have n1 : (t.kind == 1) = false := by simp at hk ⊢; omega
  have n2 : (t.kind == 2) = false := by simp at hk ⊢; omega
  have n14 : (t.kind == 14) = false := by simp at hk ⊢; omega
  have n3 : (t.kind == 3) = false := by simp at hk ⊢; omega
  have n4 : (t.kind == 4) = false := by simp at hk ⊢; omega
  have n5 : (t.kind == 5) = false := by simp at hk ⊢; omega
  have n6 : (t.kind == 6) = false := by simp at hk ⊢; omega
  have n7 : (t.kind == 7) = false := by simp at hk ⊢; omega
  have n8 : (t.kind == 8) = false := by simp at hk ⊢; omega
  have n10 : (t.kind == 10) = false := by simp at hk ⊢; omega
  have n12 : (t.kind == 12) = false := by simp at hk ⊢; omega
  have HK := hide h.all
  obtain ⟨b, o, hA, hbb, q0, q1, q2, q3, q4, q5⟩ := (HK.out.ext X0.out).at_ h0
  have HF := hide (fun w' (e : Ext w w') => hide (hb w' ((HK.out.kids _ (List.getElem_mem h0)).ext e)))
  have i0 : (0 : Int) < (t.kids.length : Int) := by omega
  have HT := hide (fun w' (_e : Ext w w') => hide (i_text m h1 w'))
  rw [hty, ← hm] at HT
  clear hm
  clear h1 hty
  have hs0 : ¬ ((ByteArray.mk (sb : Str).toArray).size + (ByteArray.mk #[46]).size > 9223372036854775807) := by
    rw [ba_size sb]
    show ¬ ((sb : Str).length + 1 > 9223372036854775807)
    try simp only [List.length_append, List.length_cons, List.length_nil]
    omega
  have e0 : (ByteArray.mk (sb : Str).toArray) ++ (ByteArray.mk #[46]) = ByteArray.mk ((sb ++ ([46] : Str)) : Str).toArray := ByteArray.mk_append_mk sb ([46] : Str)
  have hq0 : ¬ (9223372036854775807 < (sb : Str).length + 1) := by (try simp only [List.length_append, List.length_cons, List.length_nil]); omega
  have hs1 : ¬ ((ByteArray.mk ((sb ++ ([46] : Str)) : Str).toArray).size + (ByteArray.mk (t.name : Str).toArray).size > 9223372036854775807) := by
    rw [ba_size (sb ++ ([46] : Str)), ba_size t.name]
    show ¬ (((sb ++ ([46] : Str)) : Str).length + (t.name : Str).length > 9223372036854775807)
    try simp only [List.length_append, List.length_cons, List.length_nil]
    omega
  have e1 : (ByteArray.mk ((sb ++ ([46] : Str)) : Str).toArray) ++ (ByteArray.mk (t.name : Str).toArray) = ByteArray.mk (((sb ++ ([46] : Str)) ++ t.name) : Str).toArray := ByteArray.mk_append_mk (sb ++ ([46] : Str)) t.name
  have hq1 : ¬ (9223372036854775807 < ((sb ++ ([46] : Str)) : Str).length + (t.name : Str).length) := by (try simp only [List.length_append, List.length_cons, List.length_nil]); omega
  have hs2 : ¬ ((ByteArray.mk (((sb ++ ([46] : Str)) ++ t.name) : Str).toArray).size + (ByteArray.mk #[46]).size > 9223372036854775807) := by
    rw [ba_size ((sb ++ ([46] : Str)) ++ t.name)]
    show ¬ ((((sb ++ ([46] : Str)) ++ t.name) : Str).length + 1 > 9223372036854775807)
    try simp only [List.length_append, List.length_cons, List.length_nil]
    omega
  have e2 : (ByteArray.mk (((sb ++ ([46] : Str)) ++ t.name) : Str).toArray) ++ (ByteArray.mk #[46]) = ByteArray.mk ((((sb ++ ([46] : Str)) ++ t.name) ++ ([46] : Str)) : Str).toArray := ByteArray.mk_append_mk ((sb ++ ([46] : Str)) ++ t.name) ([46] : Str)
  have hq2 : ¬ (9223372036854775807 < (((sb ++ ([46] : Str)) ++ t.name) : Str).length + 1) := by (try simp only [List.length_append, List.length_cons, List.length_nil]); omega
  have hs3 : ¬ ((ByteArray.mk ((((sb ++ ([46] : Str)) ++ t.name) ++ ([46] : Str)) : Str).toArray).size + (ByteArray.mk (ty : Str).toArray).size > 9223372036854775807) := by
    rw [ba_size (((sb ++ ([46] : Str)) ++ t.name) ++ ([46] : Str)), ba_size ty]
    show ¬ (((((sb ++ ([46] : Str)) ++ t.name) ++ ([46] : Str)) : Str).length + (ty : Str).length > 9223372036854775807)
    try simp only [List.length_append, List.length_cons, List.length_nil]
    omega
  have e3 : (ByteArray.mk ((((sb ++ ([46] : Str)) ++ t.name) ++ ([46] : Str)) : Str).toArray) ++ (ByteArray.mk (ty : Str).toArray) = ByteArray.mk (((((sb ++ ([46] : Str)) ++ t.name) ++ ([46] : Str)) ++ ty) : Str).toArray := ByteArray.mk_append_mk (((sb ++ ([46] : Str)) ++ t.name) ++ ([46] : Str)) ty
  have hq3 : ¬ (9223372036854775807 < ((((sb ++ ([46] : Str)) ++ t.name) ++ ([46] : Str)) : Str).length + (ty : Str).length) := by (try simp only [List.length_append, List.length_cons, List.length_nil]); omega
  have hs4 : ¬ ((ByteArray.mk #[40]).size + (ByteArray.mk (((((sb ++ ([46] : Str)) ++ t.name) ++ ([46] : Str)) ++ ty) : Str).toArray).size > 9223372036854775807) := by
    rw [ba_size ((((sb ++ ([46] : Str)) ++ t.name) ++ ([46] : Str)) ++ ty)]
    show ¬ (1 + (((((sb ++ ([46] : Str)) ++ t.name) ++ ([46] : Str)) ++ ty) : Str).length > 9223372036854775807)
    try simp only [List.length_append, List.length_cons, List.length_nil]
    omega
  have e4 : (ByteArray.mk #[40]) ++ (ByteArray.mk (((((sb ++ ([46] : Str)) ++ t.name) ++ ([46] : Str)) ++ ty) : Str).toArray) = ByteArray.mk ((([40] : Str) ++ ((((sb ++ ([46] : Str)) ++ t.name) ++ ([46] : Str)) ++ ty)) : Str).toArray := ByteArray.mk_append_mk ([40] : Str) ((((sb ++ ([46] : Str)) ++ t.name) ++ ([46] : Str)) ++ ty)
  have hq4 : ¬ (9223372036854775807 < 1 + (((((sb ++ ([46] : Str)) ++ t.name) ++ ([46] : Str)) ++ ty) : Str).length) := by (try simp only [List.length_append, List.length_cons, List.length_nil]); omega
  have hs5 : ¬ ((ByteArray.mk ((([40] : Str) ++ ((((sb ++ ([46] : Str)) ++ t.name) ++ ([46] : Str)) ++ ty)) : Str).toArray).size + (ByteArray.mk #[41]).size > 9223372036854775807) := by
    rw [ba_size (([40] : Str) ++ ((((sb ++ ([46] : Str)) ++ t.name) ++ ([46] : Str)) ++ ty))]
    show ¬ (((([40] : Str) ++ ((((sb ++ ([46] : Str)) ++ t.name) ++ ([46] : Str)) ++ ty)) : Str).length + 1 > 9223372036854775807)
    try simp only [List.length_append, List.length_cons, List.length_nil]
    omega
  have e5 : (ByteArray.mk ((([40] : Str) ++ ((((sb ++ ([46] : Str)) ++ t.name) ++ ([46] : Str)) ++ ty)) : Str).toArray) ++ (ByteArray.mk #[41]) = ByteArray.mk (((([40] : Str) ++ ((((sb ++ ([46] : Str)) ++ t.name) ++ ([46] : Str)) ++ ty)) ++ ([41] : Str)) : Str).toArray := ByteArray.mk_append_mk (([40] : Str) ++ ((((sb ++ ([46] : Str)) ++ t.name) ++ ([46] : Str)) ++ ty)) ([41] : Str)
  have hq5 : ¬ (9223372036854775807 < ((([40] : Str) ++ ((((sb ++ ([46] : Str)) ++ t.name) ++ ([46] : Str)) ++ ty)) : Str).length + 1) := by (try simp only [List.length_append, List.length_cons, List.length_nil]); omega
  generalize (((([40] : Str) ++ ((((sb ++ ([46] : Str)) ++ t.name) ++ ([46] : Str)) ++ ty)) ++ ([41] : Str)) : Str) = s5 at *
  generalize ((([40] : Str) ++ ((((sb ++ ([46] : Str)) ++ t.name) ++ ([46] : Str)) ++ ty)) : Str) = s4 at *
  generalize (((((sb ++ ([46] : Str)) ++ t.name) ++ ([46] : Str)) ++ ty) : Str) = s3 at *
  generalize ((((sb ++ ([46] : Str)) ++ t.name) ++ ([46] : Str)) : Str) = s2 at *
  generalize (((sb ++ ([46] : Str)) ++ t.name) : Str) = s1 at *
  generalize ((sb ++ ([46] : Str)) : Str) = s0 at *
  generalize t.kids[0]'h0 = ka at *
  have HS : Hid (∀ w', Ext W w' → (w'.cell? ⟨w.heap.size, 2, none⟩ = some (.string ⟨t.name.toArray⟩) ∧ w'.cell? ⟨w.heap.size, 1, none⟩ = some (.int .i64 t.n) ∧ w'.cell? ⟨w.heap.size, 5, none⟩ = some (.slice (some ⟨b, o, none⟩) t.kids.length t.cap) ∧ w'.cell? ⟨b, o, none⟩ = some (.int .i64 ka.kind) ∧ w'.cell? ⟨b, o + 1, none⟩ = some (.int .i64 ka.n) ∧ w'.cell? ⟨b, o + 2, none⟩ = some (.string ⟨ka.name.toArray⟩) ∧ w'.cell? ⟨b, o + 3, none⟩ = some (.slice ka.V ka.vars.length ka.vc) ∧ w'.cell? ⟨b, o + 4, none⟩ = some (.slice ka.T ka.types.length ka.tc) ∧ w'.cell? ⟨b, o + 5, none⟩ = some (.slice ka.A ka.kids.length ka.cap))) := hide (by
    rw [hA] at c5
    have z0 : o + 0 * 6 = o := by omega
    rw [z0] at q0 q1 q2 q3 q4 q5
    exact fun w' e => ⟨e.cell c2, e.cell c1, e.cell c5, e.cell q0, e.cell q1, e.cell q2, e.cell q3, e.cell q4, e.cell q5⟩)
  clear q0 q1 q2 q3 q4 q5 hbb hA h hb HK HB0
  unfold tmV at HF ⊢
  go_enter Tryz.func46, Tryz.ntmps46
  go_upto_region 1 with fail
  rw [HW.out]
  obtain ⟨p0, p1, p2, p3, p4, p5, p6, p7, p8⟩ := HS.out _ (Ext.refl W)
  clear c5 HW
  go_upto_region 29 with fail
  go_region_held3 (fun w' : World => (w'.cell? ⟨w.heap.size, 2, none⟩ = some (.string ⟨t.name.toArray⟩) ∧ w'.cell? ⟨w.heap.size, 1, none⟩ = some (.int .i64 t.n) ∧ w'.cell? ⟨w.heap.size, 5, none⟩ = some (.slice (some ⟨b, o, none⟩) t.kids.length t.cap) ∧ w'.cell? ⟨b, o, none⟩ = some (.int .i64 ka.kind) ∧ w'.cell? ⟨b, o + 1, none⟩ = some (.int .i64 ka.n) ∧ w'.cell? ⟨b, o + 2, none⟩ = some (.string ⟨ka.name.toArray⟩) ∧ w'.cell? ⟨b, o + 3, none⟩ = some (.slice ka.V ka.vars.length ka.vc) ∧ w'.cell? ⟨b, o + 4, none⟩ = some (.slice ka.T ka.types.length ka.tc) ∧ w'.cell? ⟨b, o + 5, none⟩ = some (.slice ka.A ka.kids.length ka.cap))) (first | assumption | (exact HS.out _ (Ext.refl W).drew)) (first
    | (go_at_call 39
       refine Calls.mono (HT.out _ ?e).out ?_
       case e => first | (refine Ext.trans X0.out ?_; (repeat (first | exact Ext.refl _ | exact Ext.pre (by simp) | exact Ext.alloc (by assumption) _ | refine Ext.alloc ?_ _ | refine Ext.more ?_ _ _ | refine Ext.drew ?_ | refine Ext.drewN ?_ _)); done) | (refine Ext.trans (X0.out.trans X8.out) ?_; (repeat (first | exact Ext.refl _ | exact Ext.pre (by simp) | exact Ext.alloc (by assumption) _ | refine Ext.alloc ?_ _ | refine Ext.more ?_ _ _ | refine Ext.drew ?_ | refine Ext.drewN ?_ _)); done)
       rintro e w7 ⟨rfl, hx7⟩
       have X7 : Hid (Ext W w7) := hide (by
         refine Ext.trans ?_ hx7
         first | (refine Ext.trans (Ext.refl W) ?_; (repeat (first | exact Ext.refl _ | exact Ext.pre (by simp) | exact Ext.alloc (by assumption) _ | refine Ext.alloc ?_ _ | refine Ext.more ?_ _ _ | refine Ext.drew ?_ | refine Ext.drewN ?_ _)); done) | (refine Ext.trans X8.out ?_; (repeat (first | exact Ext.refl _ | exact Ext.pre (by simp) | exact Ext.alloc (by assumption) _ | refine Ext.alloc ?_ _ | refine Ext.more ?_ _ _ | refine Ext.drew ?_ | refine Ext.drewN ?_ _)); done))
       have K7 := HS.out _ X7.out
       clear hx7)
    | (go_at_call 46
       refine Calls.mono (HF.out _ ?e).out ?_
       case e => first | (refine Ext.trans X0.out ?_; (repeat (first | exact Ext.refl _ | exact Ext.pre (by simp) | exact Ext.alloc (by assumption) _ | refine Ext.alloc ?_ _ | refine Ext.more ?_ _ _ | refine Ext.drew ?_ | refine Ext.drewN ?_ _)); done) | (refine Ext.trans (X0.out.trans X7.out) ?_; (repeat (first | exact Ext.refl _ | exact Ext.pre (by simp) | exact Ext.alloc (by assumption) _ | refine Ext.alloc ?_ _ | refine Ext.more ?_ _ _ | refine Ext.drew ?_ | refine Ext.drewN ?_ _)); done)
       rintro e w8 ⟨rfl, hx8⟩
       have X8 : Hid (Ext W w8) := hide (by
         refine Ext.trans ?_ hx8
         first | (refine Ext.trans (Ext.refl W) ?_; (repeat (first | exact Ext.refl _ | exact Ext.pre (by simp) | exact Ext.alloc (by assumption) _ | refine Ext.alloc ?_ _ | refine Ext.more ?_ _ _ | refine Ext.drew ?_ | refine Ext.drewN ?_ _)); done) | (refine Ext.trans X7.out ?_; (repeat (first | exact Ext.refl _ | exact Ext.pre (by simp) | exact Ext.alloc (by assumption) _ | refine Ext.alloc ?_ _ | refine Ext.more ?_ _ _ | refine Ext.drew ?_ | refine Ext.drewN ?_ _)); done))
       have K8 := HS.out _ X8.out
       clear hx8))
  all_goals
    go_wp2
    go_ret
    first
      | exact ⟨rfl, X0.out.trans X7.out⟩
      | exact ⟨rfl, X0.out.trans X8.out⟩
      | exact ⟨rfl, X0.out.trans (X7.out.trans (by repeat (first | exact Ext.refl _ | exact Ext.pre (by simp) | exact Ext.alloc (by assumption) _ | refine Ext.alloc ?_ _ |  refine Ext.more ?_ _ _ | refine Ext.drew ?_ | refine Ext.drewN ?_ _)))⟩
      | exact ⟨rfl, X0.out.trans (X8.out.trans (by repeat (first | exact Ext.refl _ | exact Ext.pre (by simp) | exact Ext.alloc (by assumption) _ | refine Ext.alloc ?_ _ |  refine Ext.more ?_ _ _ | refine Ext.drew ?_ | refine Ext.drewN ?_ _)))⟩

end Go.Proofs.YtcnkfkjgpdmebaaGreatDoor

/- Terms by their pures: what the examples lean on. -/
namespace Go.Proofs.YtcnkfkjgpdmebaaGreatDoor
open Go.RowKit

theorem one_of {α β : Type} {f : α → β} {l : List α} {y : β} (h : l.map f = [y]) : ∃ x, l = [x] ∧ f x = y := by
  match l, h with
  | [x], h => exact ⟨x, rfl, by simpa using h⟩
theorem two_of {α β : Type} {f : α → β} {l : List α} {y z : β} (h : l.map f = [y, z]) : ∃ a b, l = [a, b] ∧ f a = y ∧ f b = z := by
  match l, h with
  | [a, b], h => exact ⟨a, b, rfl, by simpa using h⟩
theorem nil_of {α β : Type} {f : α → β} {l : List α} (h : l.map f = []) : l = [] := by simpa using h
theorem tm_of {u : Tm} {k n : Int} {s : Str} {vs : List Int} {ts : List Ty.Pure} {l : List Tm.Pure} (h : u.pure = .mk k n s vs ts l) :
    ∃ V vc T tc ty A cap ks, u = .mk k n s V vc vs T tc ty A cap ks ∧ ty.map Ty.pure = ts ∧ ks.map Tm.pure = l := by
  obtain ⟨k', n', s', V, vc, vs', T, tc, ty, A, cap, ks⟩ := u
  rw [Tm.pure_eq] at h
  injection h with h1 h2 h3 h4 h5 h6
  have h1 : k' = k := h1
  have h2 : n' = n := h2
  have h3 : s' = s := h3
  have h4 : vs' = vs := h4
  subst h1 h2 h3 h4
  exact ⟨V, vc, T, tc, ty, A, cap, ks, rfl, h5, h6⟩
theorem ty_of {u : Ty} {s : Str} {v : Int} (h : u.pure = .mk s v []) : ∃ A c, u = .mk s v A c [] := by
  obtain ⟨s', v', A, c, l⟩ := u
  rw [Ty.pure_eq] at h
  injection h with h1 h2 h3
  have h1 : s' = s := h1
  have h2 : v' = v := h2
  have h3 : l.map Ty.pure = [] := h3
  subst h1 h2
  have := nil_of h3
  subst this
  exact ⟨A, c, rfl⟩
section
variable (B : Option Addr) (bc : Nat)
def tyA (v : Int) : Ty := .mk [] v B bc []
theorem tyA_legal (v : Int) : legalD (tyA B bc v) = true := by
  have hc : classS [] = [] := by rfl
  unfold legalD
  rw [Ty.size_eq, Ty.depth_eq, shapeD_eq]
  simp [tyA, Ty.args, Ty.con, headOk]
theorem tyS_tyA0 : tyS (tyA B bc 0) = [97] := by
  unfold tyS polyS
  rw [if_pos (tyA_legal B bc 0), if_pos rfl, textT_else (by rintro ⟨h, -⟩; cases h)]
  show (if ([] : Str) = [] then varS 0 else []) ++ restT [] = _
  rw [if_pos rfl]
  rfl
end
theorem exV_of {t : Tm} {s : Str} (h : t.pure = .mk 1 0 s [] [] []) : ∃ V vc T tc A cap, t = .mk 1 0 s V vc [] T tc [] A cap [] := by
  obtain ⟨V, vc, T, tc, ty, A, cap, ks, rfl, h1, h2⟩ := tm_of h
  cases nil_of h1
  cases nil_of h2
  exact ⟨V, vc, T, tc, A, cap, rfl⟩
theorem exV_size {t : Tm} {s : Str} (h : t.pure = .mk 1 0 s [] [] []) : t.size = 1 ∧ t.depth = 1 ∧ t.types = [] := by
  obtain ⟨V, vc, T, tc, A, cap, rfl⟩ := exV_of h
  refine ⟨?_, ?_, rfl⟩
  · rw [Tm.size_eq]; rfl
  · rw [Tm.depth_eq]; rfl
theorem exV_tb {t : Tm} {s : Str} (h : t.pure = .mk 1 0 s [] [] []) (hs : (s == []) = false) : t.tb.term = true := by
  obtain ⟨V, vc, T, tc, A, cap, rfl⟩ := exV_of h
  rw [tb_eq]
  have : fitsM (.mk 1 0 s V vc [] T tc [] A cap []) = true := by
    unfold fitsM
    show (fitsOf 1 0 (!(s == [])) 0 0 0 && true) = true
    rw [hs]
    rfl
  rw [this]
  rfl
theorem okI_leaf {s : Str} {v : Int} {B : Option Addr} {bc : Nat} (h0 : -9223372036854775808 ≤ v) (h1 : v ≤ 9223372036854775807) (hs : s.length ≤ 140737488351232) : okI (.mk s v B bc []) = true := okI_mk h0 h1 hs (by simp)
theorem leaf_size {s : Str} {v : Int} {B : Option Addr} {bc : Nat} : (Ty.mk s v B bc []).size = 1 := by rw [Ty.size_eq]; rfl

end Go.Proofs.YtcnkfkjgpdmebaaGreatDoor

/- Chapter 40's example: plain. -/
namespace Go.Proofs.YtcnkfkjgpdmebaaGreatDoor
open Go.RowKit

def clE (b0 : Nat) : List KlD := [⟨[69, 113], none, 0, [], none, 0, []⟩, ⟨[79, 114, 100], some ⟨b0, 0, none⟩, 1, [[69, 113]], none, 0, []⟩]
def inE (b2 : Nat) : List InD := [⟨[69, 113], [76], 1, some ⟨b2, 0, none⟩, 1, [⟨[69, 113], Ty.zero⟩]⟩]
def enE (b0 b1 b2 b3 : Nat) : EnD := ⟨none, 0, [], some ⟨b1, 0, none⟩, 2, clE b0, some ⟨b3, 0, none⟩, 1, inE b2⟩
def pdE : List Pd := [⟨[69, 113], Ty.zero⟩, ⟨[79, 114, 100], Ty.zero⟩]
def gvE (n : Int) : Pf := .mk 1 n none 0 [] none 0 []
def spE (b6 : Nat) : Pf := .mk 2 0 none 0 [] (some ⟨b6, 0, none⟩) 1 [gvE 1]
def pE (b5 b6 b7 : Nat) : Pf := .mk 3 0 (some ⟨b5, 0, none⟩) 1 [Ty.zero] (some ⟨b7, 0, none⟩) 1 [spE b6]

theorem zeroE_legal : legalT Ty.zero = true := legal_var 0 none 0
theorem zeroE_pure : Ty.zero.pure = .mk [] 0 [] := by rw [Ty.pure_eq]; rfl
theorem lE_legal (A : Option Addr) (c : Nat) : legalT (.mk [76] 0 A c [Ty.zero]) = true := by
  unfold legalT
  rw [shapeT_eq, Ty.size_eq, Ty.depth_eq]
  have h1 : Ty.zero.size = 1 := by rw [Ty.size_eq]; rfl
  have h2 : Ty.zero.depth = 1 := by rw [Ty.depth_eq]; rfl
  have h3 : shapeT Ty.zero = true := (legal_parts zeroE_legal).2.2
  simp only [Ty.args, Ty.con, Ty.var, List.map_cons, List.map_nil, h1, h2, List.all_cons, List.all_nil, h3]
  decide
theorem prvE_1 (b0 b2 : Nat) : prv (clE b0) (inE b2) pdE (gvE 1) = some ⟨[79, 114, 100], Ty.zero⟩ := by
  rw [prv_eq]
  have h : prv0 (clE b0) (inE b2) pdE (gvE 1) ((gvE 1).kids.map (prv (clE b0) (inE b2) pdE)) = some ⟨[79, 114, 100], Ty.zero⟩ := rfl
  rw [h, Option.filter_some, if_pos]
  show (conB [79, 114, 100] && legalT Ty.zero) = true
  rw [zeroE_legal]
  rfl
theorem prvE_s (b0 b2 b6 : Nat) : prv (clE b0) (inE b2) pdE (spE b6) = some ⟨[69, 113], Ty.zero⟩ := by
  rw [prv_eq]
  have h : prv0 (clE b0) (inE b2) pdE (spE b6) [some ⟨[79, 114, 100], Ty.zero⟩] = some ⟨[69, 113], Ty.zero⟩ := rfl
  rw [show (spE b6).kids.map (prv (clE b0) (inE b2) pdE) = [some ⟨[79, 114, 100], Ty.zero⟩] from by show [prv _ _ _ (gvE 1)] = _; rw [prvE_1]]
  rw [h, Option.filter_some, if_pos]
  show (conB [69, 113] && legalT Ty.zero) = true
  rw [zeroE_legal]
  rfl
theorem inE_ok (b2 : Nat) : instB ⟨[69, 113], [76], 1, some ⟨b2, 0, none⟩, 1, [⟨[69, 113], Ty.zero⟩]⟩ = true := by
  have h : instB ⟨[69, 113], [76], 1, some ⟨0, 0, none⟩, 1, [⟨[69, 113], Ty.zero⟩]⟩ = true := by decide +kernel
  exact h
theorem prvE_p (b0 b2 b5 b6 b7 : Nat) : prv (clE b0) (inE b2) pdE (pE b5 b6 b7) = some ⟨[69, 113], .mk [76] 0 (some ⟨b5, 0, none⟩) 1 [Ty.zero]⟩ := by
  rw [prv_eq]
  rw [show (pE b5 b6 b7).kids.map (prv (clE b0) (inE b2) pdE) = [some ⟨[69, 113], Ty.zero⟩] from by show [prv _ _ _ (spE b6)] = _; rw [prvE_s]]
  have h : prv0 (clE b0) (inE b2) pdE (pE b5 b6 b7) [some ⟨[69, 113], Ty.zero⟩] = some ⟨[69, 113], .mk [76] 0 (some ⟨b5, 0, none⟩) 1 [Ty.zero]⟩ := by
    show instR (inE b2) (pE b5 b6 b7) [some ⟨[69, 113], Ty.zero⟩] = _
    unfold instR
    rw [show atZ (inE b2) (pE b5 b6 b7).n = some ⟨[69, 113], [76], 1, some ⟨b2, 0, none⟩, 1, [⟨[69, 113], Ty.zero⟩]⟩ from rfl, Option.bind_some, if_pos]
    · rfl
    · rw [Bool.and_eq_true]
      constructor
      · unfold instOkB
        rw [inE_ok]
        show (true && decide ((1 : Int) = 1) && decide (1 = 1) && [Ty.zero].all legalT) = true
        simp [zeroE_legal]
      · unfold wantsB
        show ([(⟨[69, 113], Ty.zero⟩, some ⟨[69, 113], Ty.zero⟩)] : List (Pd × Option Pd)).all _ = true
        simp only [List.all_cons, List.all_nil, Bool.and_true]
        show (([69, 113] : Str) == [69, 113] && sameB Ty.zero Ty.zero) = true
        rw [sameB_refl]
        rfl
  rw [h, Option.filter_some, if_pos]
  show (conB [69, 113] && legalT _) = true
  rw [lE_legal]
  rfl
/-- The term that is told. -/
def tE : Tm.Pure := .mk 4 0 [] [] [] [.mk 6 0 [] [] [.mk [] 0 []] [.mk 1 0 [64, 69, 113, 64, 76] [] [] []], .mk 13 0 [79, 114, 100] [] [] [.mk 1 0 [35, 54] [] [] []]]
theorem dg6 : digs 6 = [54] := by kernel_rfl
theorem namesE (f : Int) (h0 : 0 ≤ f) (h1 : f ≤ 1000) : namesT 2 f = [numT f, numT (f + 1)] := by
  unfold namesT
  rw [if_neg (by omega)]
  show [numT (f + ((0 : Nat) : Int)), numT (f + ((1 : Nat) : Int))] = _
  simp
theorem numE_pure (n : Nat) : (numT (n : Int)).pure = .mk 1 0 (([35] : Str) ++ digs n) [] [] [] := by rw [Tm.pure_eq]; rfl
theorem evE_p (b0 b2 b5 b6 b7 : Nat) : evP (clE b0) (inE b2) pdE ((namesT 2 5).map Tm.pure) (pE b5 b6 b7) = tE := by
  have h1 : evP (clE b0) (inE b2) pdE ((namesT 2 5).map Tm.pure) (gvE 1) = .mk 1 0 [35, 54] [] [] [] := by
    rw [namesE 5 (by decide) (by decide), ev_given (given := [numT 5, numT (5 + 1)]) rfl (n := 1) rfl (by decide)]
    show (numT ((6 : Nat) : Int)).pure = _
    rw [numE_pure, dg6]
    rfl
  have h2 : evP (clE b0) (inE b2) pdE ((namesT 2 5).map Tm.pure) (spE b6) = .mk 13 0 [79, 114, 100] [] [] [.mk 1 0 [35, 54] [] [] []] := by
    rw [ev_super rfl rfl (prvE_1 b0 b2), h1]
    rfl
  rw [ev_inst (x := ⟨[69, 113], [76], 1, some ⟨b2, 0, none⟩, 1, [⟨[69, 113], Ty.zero⟩]⟩) rfl rfl]
  show ([evP (clE b0) (inE b2) pdE ((namesT 2 5).map Tm.pure) (spE b6)]).foldl appP (if [Ty.zero.pure] = [] then _ else .mk 6 0 [] [] [Ty.zero.pure] [.mk 1 0 (nameS [69, 113] [76]) [] [] []]) = _
  rw [h2, if_neg (by simp), zeroE_pure]
  rfl
theorem tE_of {t : Tm} (h : t.pure = tE) : ∃ V vc T tc A cap V1 vc1 T1 tc1 B bc A1 cap1 x V2 vc2 T2 tc2 A2 cap2 y, t = .mk 4 0 [] V vc [] T tc [] A cap [.mk 6 0 [] V1 vc1 [] T1 tc1 [.mk [] 0 B bc []] A1 cap1 [x], .mk 13 0 [79, 114, 100] V2 vc2 [] T2 tc2 [] A2 cap2 [y]] ∧
    x.pure = .mk 1 0 [64, 69, 113, 64, 76] [] [] [] ∧ y.pure = .mk 1 0 [35, 54] [] [] [] := by
  obtain ⟨V, vc, T, tc, ty, A, cap, ks, rfl, h1, h2⟩ := tm_of h
  cases nil_of h1
  obtain ⟨a, b, rfl, ha, hb⟩ := two_of h2
  obtain ⟨V1, vc1, T1, tc1, ty1, A1, cap1, ks1, rfl, k1, k2⟩ := tm_of ha
  obtain ⟨V2, vc2, T2, tc2, ty2, A2, cap2, ks2, rfl, l1, l2⟩ := tm_of hb
  obtain ⟨z, rfl, hz⟩ := one_of k1
  obtain ⟨B, bc, rfl⟩ := ty_of hz
  obtain ⟨x, rfl, hx⟩ := one_of k2
  cases nil_of l1
  obtain ⟨y, rfl, hy⟩ := one_of l2
  exact ⟨_, _, _, _, _, _, _, _, _, _, _, _, _, _, x, _, _, _, _, _, _, y, rfl, hx, hy⟩
theorem tE_facts {t : Tm} (h : t.pure = tE) : FewM t ∧ t.size ≤ 100000 ∧ legalM t = true ∧ TextsTo t [40, 40, 64, 69, 113, 64, 76, 32, 91, 97, 93, 41, 32, 40, 35, 54, 46, 79, 114, 100, 46, 48, 41, 41] := by
  obtain ⟨V, vc, T, tc, A, cap, V1, vc1, T1, tc1, B, bc, A1, cap1, x, V2, vc2, T2, tc2, A2, cap2, y, rfl, hx, hy⟩ := tE_of h
  obtain ⟨Vx, vcx, Tx, tcx, Ax, capx, rfl⟩ := exV_of hx
  obtain ⟨Vy, vcy, Tq, tcq, Ay, capy, rfl⟩ := exV_of hy
  have fv : ∀ s V vc T tc A cap, FewM (.mk 1 0 s V vc [] T tc [] A cap []) := fun s V vc T tc A cap => .mk (by show 0 ≤ 10000; omega) (fun y hy => by cases hy) (by show 0 ≤ 1000000; omega) (by show 0 ≤ 10000; omega) (fun y hy => by cases hy)
  have hz : (Ty.mk [] 0 B bc []).size = 1 := leaf_size
  have f1 : FewM (.mk 6 0 [] V1 vc1 [] T1 tc1 [.mk [] 0 B bc []] A1 cap1 [.mk 1 0 [64, 69, 113, 64, 76] Vx vcx [] Tx tcx [] Ax capx []]) := .mk (by show 1 ≤ 10000; omega) (all1F (by rw [hz]; omega)) (by show 1 ≤ 1000000; omega) (by show 0 ≤ 10000; omega) (all1F (fv _ _ _ _ _ _ _))
  have f2 : FewM (.mk 13 0 [79, 114, 100] V2 vc2 [] T2 tc2 [] A2 cap2 [.mk 1 0 [35, 54] Vy vcy [] Tq tcq [] Ay capy []]) := .mk (by show 0 ≤ 10000; omega) (fun y hy => by cases hy) (by show 1 ≤ 1000000; omega) (by show 0 ≤ 10000; omega) (all1F (fv _ _ _ _ _ _ _))
  refine ⟨?_, ?_, ?_, ?_⟩
  · refine .mk (by show 0 ≤ 10000; omega) (fun y hy => by cases hy) (by show 2 ≤ 1000000; omega) (by show 0 ≤ 10000; omega) (fun k hk => ?_)
    rcases List.mem_cons.1 hk with rfl | hk
    · exact f1
    · rw [List.mem_singleton] at hk; subst hk; exact f2
  · have h5 : (Tm.mk 4 0 [] V vc [] T tc [] A cap [.mk 6 0 [] V1 vc1 [] T1 tc1 [.mk [] 0 B bc []] A1 cap1 [.mk 1 0 [64, 69, 113, 64, 76] Vx vcx [] Tx tcx [] Ax capx []], .mk 13 0 [79, 114, 100] V2 vc2 [] T2 tc2 [] A2 cap2 [.mk 1 0 [35, 54] Vy vcy [] Tq tcq [] Ay capy []]]).size = 5 := by kernel_rfl
    rw [h5]; omega
  · kernel_rfl
  · have k1 := txt_var (.mk 1 0 [64, 69, 113, 64, 76] Vx vcx [] Tx tcx [] Ax capx []) rfl
    have k2 := txt_var (.mk 1 0 [35, 54] Vy vcy [] Tq tcq [] Ay capy []) rfl
    have k3 := txt_inst (.mk 6 0 [] V1 vc1 [] T1 tc1 [.mk [] 0 B bc []] A1 cap1 [.mk 1 0 [64, 69, 113, 64, 76] Vx vcx [] Tx tcx [] Ax capx []]) rfl (by show 0 < 1; decide) (by show 0 < 1; decide) rfl (okI_leaf (by decide) (by decide) (by decide)) (by show (Ty.mk [] 0 B bc []).size ≤ 20000; rw [hz]; decide) [97] (tyS_tyA0 B bc) _ k1 (by show 0 + 1 + 5 ≤ 1000000; decide)
    have k4 := txt_proj (.mk 13 0 [79, 114, 100] V2 vc2 [] T2 tc2 [] A2 cap2 [.mk 1 0 [35, 54] Vy vcy [] Tq tcq [] Ay capy []]) rfl (by show 0 < 1; decide) 0 rfl (by decide) [48] (by kernel_rfl) _ k2 (by show 3 + 1 + 2 ≤ 1000000; decide)
    exact txt_app (.mk 4 0 [] V vc [] T tc [] A cap [.mk 6 0 [] V1 vc1 [] T1 tc1 [.mk [] 0 B bc []] A1 cap1 [.mk 1 0 [64, 69, 113, 64, 76] Vx vcx [] Tx tcx [] Ax capx []], .mk 13 0 [79, 114, 100] V2 vc2 [] T2 tc2 [] A2 cap2 [.mk 1 0 [35, 54] Vy vcy [] Tq tcq [] Ay capy []]]) rfl (by show 0 < 2; decide) (by show 1 < 2; decide) _ _ k3 k4 (by show 11 + 10 ≤ 1000000; decide)

/-! ### What follows from what -/
theorem soundE_ok (b0 b2 : Nat) : soundE (clE b0) (inE b2) = true := by
  unfold soundE
  rw [Bool.and_eq_true]
  refine ⟨by kernel_rfl, ?_⟩
  show (instB _ && true) = true
  rw [inE_ok]
  rfl
theorem pdE_ok : pdE.all pdB = true := by
  show (pdB ⟨[69, 113], Ty.zero⟩ && (pdB ⟨[79, 114, 100], Ty.zero⟩ && true)) = true
  unfold pdB
  rw [zeroE_legal]
  rfl
theorem byE_eq (b0 b2 : Nat) : byE (clE b0) (inE b2) pdE ⟨[69, 113], Ty.zero⟩ = .ok (.mk 1 0 [] []) := by
  have h1 : pdB ⟨[69, 113], Ty.zero⟩ = true := by unfold pdB; rw [zeroE_legal]; rfl
  have h2 : supQ (clE b0) pdE [69, 113] Ty.zero.pure = some (0, []) := by
    unfold supQ pdE supFrom
    rw [hitS_same, if_pos (sameB_refl _)]
    have : pathL ((clE b0).map toCls) [69, 113] [69, 113] = some [] := by kernel_rfl
    simp only [this]
  unfold byE
  rw [h1, pdE_ok, soundE_ok, if_neg (by decide)]
  rw [show (5000 : Nat) = 4999 + 1 from rfl]
  unfold srch
  simp only [h2]
  rfl
theorem byE_x (b0 b2 : Nat) : byE (clE b0) (inE b2) pdE ⟨[88], Ty.zero⟩ = .error 16 := by
  have h1 : pdB ⟨[88], Ty.zero⟩ = true := by unfold pdB; rw [zeroE_legal]; rfl
  have h2 : supQ (clE b0) pdE [88] Ty.zero.pure = none := by
    unfold supQ pdE supFrom supFrom supFrom
    rw [hitS_same, if_pos (sameB_refl _), hitS_same, if_pos (sameB_refl _)]
    have h3 : pathL ((clE b0).map toCls) [69, 113] [88] = none := by kernel_rfl
    have h4 : pathL ((clE b0).map toCls) [79, 114, 100] [88] = none := by kernel_rfl
    simp only [h3, h4]
  have h5 : byQ (inE b2) [88] Ty.zero.pure = none := by
    rw [byQ_none]
    kernel_rfl
  unfold byE
  rw [h1, pdE_ok, soundE_ok, if_neg (by decide)]
  rw [show (5000 : Nat) = 4999 + 1 from rfl]
  unfold srch
  simp only [h2, h5]

end Go.Proofs.YtcnkfkjgpdmebaaGreatDoor

/- Contracts: the types of what is known of predicates, the program's and the reference's. (A program of ours has printed this.) -/
namespace Go.Proofs.YtcnkfkjgpdmebaaGreatDoor
open Go.RowKit

set_option maxRecDepth 10000 in
set_option maxHeartbeats 4000000 in
theorem e_types (P : Option Addr) (pc : Nat) (preds : List Pd) (w : World) (h : PdsIn w P preds) (hl : preds.length ≤ 1000000) (hcl : ∀ p ∈ preds, p.cls.length ≤ 1000000000000000000) :
    Calls Tryz.prog 13 #[.slice P preds.length pc] w fun e w' => (∃ A c ds, e = .returned (.slice A (List.length ds) c) ∧ ds.length ≤ c ∧ c ≤ 9223372036854775807 ∧ TysIn w' A ds ∧ ds.map Ty.pure = preds.map fun p => dictP p.cls p.ty.pure) ∧ Ext w w' := by
  obtain ⟨i1, hj, hy0, hy1, hy2⟩ := info_parts ty_info3
  have H := hide h
  have Hcl := hide hcl
  clear h hcl
  go_enter Tryz.func13, Tryz.ntmps13
  go_wp2
  go_loopw [3, 8] (fun u i wr => ∃ (k : Nat) (ds : List Ty), k ≤ preds.length ∧ i = .int .i64 k ∧ Hid (Ext w wr) ∧ Hid (wr.ownsRow w.heap.size 53 3 u ds.length (ds.flatMap tyC.f)) ∧ Hid (DsOk w w wr u.ownBlock (preds.take k) ds)) (fun _ i _ => preds.length - (intOf i).toNat)
  case atStart => exact ⟨0, [], Nat.zero_le _, rfl, hide (Ext.refl _), hide (World.ownsRow_nil _ _ _ _), hide (DsOk.nil _ _ _ _)⟩
  case round =>
    obtain ⟨k, ds, hk, rfl, HX, HO, HD⟩ := hrel
    have hdl : ds.length ≤ preds.length := by have := HD.out.len; rw [List.length_take] at this; omega
    by_cases hlt : k < preds.length
    · have hlt' : (k : Int) < (preds.length : Int) := by omega
      have hk0 : (0 : Int) ≤ (k : Int) := by omega
      obtain ⟨b, o, hA, hb, q0, q1, q2, q3⟩ := (H.out.ext HX.out).at_ hlt
      have hm := List.getElem_mem hlt
      have HC := hide (fun w' (e : Ext w w') => hide (f_dict (preds[k]'hlt).cls (preds[k]'hlt).ty w' ((H.out.all _ hm).ty.ext e) (Hcl.out _ hm)))
      have Hpt := hide (H.out.all _ hm).ty
      have Htk : Hid (preds.take (k + 1) = preds.take k ++ [preds[k]'hlt]) := hide (List.take_succ_eq_append_getElem hlt)
      generalize preds[k]'hlt = x at *
      obtain ⟨A6, c6, rfl, -, -, -, -⟩ := RowOf.own tyC (l := ds) HO.out
      unfold tyV at HC
      have hszB := HX.out.size
      subst hA
      clear hm
      go_wp2_with fail
      refine (HC.out _ (HX.out.trans ((Ext.refl _).alloc _))).out.mono ?_
      rintro e w5 ⟨⟨g, rfl, hd, hgs⟩, hx5⟩
      have X5 := hide (((Ext.refl wr).alloc (.cells #[encStr x.cls, encStr x.ty.con, .int .i64 x.ty.var, .slice x.ty.A x.ty.args.length x.ty.cap] 55)).trans hx5)
      have O5 := hide (own_extB HO.out X5.out)
      have hgs' : wr.heap.size ≤ g := by (first | (simp at hgs; omega) | exact hgs)
      have Hd := hide hd
      have hs5 := (HX.out.trans X5.out).size
      obtain ⟨D, hD⟩ : ∃ D, D = dictT x.cls x.ty g := ⟨_, rfl⟩
      rw [← hD]
      have HDe := hide hD
      clear hx5 hd hgs hD
      go_wp2_with (at_builtin; refine wpList_append_row _ rfl _ _ 31 rfl w.heap.size 53 i1 _ 3 48 Tryz.underlying31 hj hy0 hy1 hy2 rfl (by decide) (.slice A6 ds.length c6) ds.length (ds.flatMap tyC.f) rfl (O5.out.alloc _) _ 1 1 [encStr D.con, .int .i64 D.var, .slice D.A D.args.length D.cap] rfl ?c2 ?c3 ?c4 ?c5 ?c6 ?_)
      case c2 => exact Row.ty3 _ _ _ (at_newB _ _ _ (by simp))
      case c3 => first | exact ⟨rfl, rfl, rfl⟩ | (intro y hy; simp at hy; rcases hy with rfl | rfl | rfl <;> rfl)
      case c4 => unfold maxLen; omega
      case c5 => omega
      case c6 => simp; omega
      intro v4 w4 hown4 hg4 hat4
      have X4 := hide (Ext.app ((HX.out.trans X5.out).alloc _) hg4 (O5.out.alloc _) (Nat.le_refl _))
      have O4 : Hid (w4.ownsRow w.heap.size 53 3 v4 (ds ++ [D]).length ((ds ++ [D]).flatMap tyC.f)) := hide (by rw [flat_snoc, List.length_append]; exact hown4)
      have D4 : Hid (DsOk w w w4 v4.ownBlock (preds.take (k + 1)) (ds ++ [D])) := hide (by
        rw [Htk.out, HDe.out]
        refine HD.out.snoc (w' := w5.alloc (.cells #[encStr D.con, .int .i64 D.var, .slice D.A D.args.length D.cap] 53)) (X5.out.alloc _) (Hd.out.ext ((Ext.refl _).alloc _)) hgs' Hpt.out (Nat.le_refl _) hszB (fun c e => HO.out.lt c e) hg4 ?_
        rcases hat4 with e | e
        · exact .inl e
        · exact .inr (fun c hc => by rw [e] at hc; injection hc with hc; simp at hc ⊢; omega))
      clear hown4 hg4 hat4
      go_wp2
      go_roundw
      case rel => exact ⟨k + 1, ds ++ [D], hlt, by go_num, X4, O4, D4⟩
      case measure => simp [intOf]; omega
    · have hge : ¬ (k : Int) < (preds.length : Int) := by omega
      have HD2 : Hid (DsOk w w wr u3.ownBlock preds ds) := hide (by have := HD.out; rwa [List.take_of_length_le (by omega)] at this)
      obtain ⟨A6, c6, rfl, d1, d2, d3, -⟩ := RowOf.own tyC (l := ds) HO.out
      have HT : Hid (TysIn wr A6 ds) := hide ⟨d3, HD2.out.ty⟩
      clear HD HO d3
      go_wp2
      go_ret
      exact ⟨⟨_, _, ds, rfl, d1, d2, HT.out, HD2.out.is⟩, HX.out⟩

end Go.Proofs.YtcnkfkjgpdmebaaGreatDoor

/- Contract: a term's text. -/
namespace Go.Proofs.YtcnkfkjgpdmebaaGreatDoor
open Go.RowKit Go.Shelf

set_option maxRecDepth 10000 in
set_option maxHeartbeats 2000000 in
theorem m_text (t : Tm) (s : Str) (hT : TextsTo t s) (hL : legalM t = true) (hf : FewM t) (hsz : t.size ≤ 100000) (w : World) (h : TmIn w t) : Calls Tryz.prog 26 #[tmV t] w fun e w' => e = .returned (encStr s) ∧ Ext w w' := by
  have HB0 := hide (TmBox.new w t)
  have X0 : Hid (Ext w (w.alloc (.cells #[.int .i64 t.kind, .int .i64 t.n, encStr t.name, .slice t.V t.vars.length t.vc, .slice t.T t.types.length t.tc, .slice t.A t.kids.length t.cap] 40))) := hide ((Ext.refl w).alloc _)
  obtain ⟨c0, c1, c2, c3, c4, c5⟩ := HB0.out.cells
  have HLg := hide (fun w' (e : Ext w w') => hide (m_legal t w' (h.ext e) hf hsz))
  rw [hL] at HLg
  have HTx := hide (fun w' (e : Ext w w') => hide (hT w' (h.ext e)))
  clear h hf hT hL
  unfold tmV at *
  go_enter Tryz.func26, Tryz.ntmps26
  go_wp2_with fail
  refine (HLg.out _ X0.out).out.mono ?_
  rintro e w2 ⟨rfl, hx⟩
  have X2 := hide (X0.out.trans hx)
  obtain ⟨c0, c1, c2, c3, c4, c5⟩ := (HB0.out.ext hx).cells
  clear hx
  go_wp2_with fail
  refine (HTx.out _ X2.out).out.mono ?_
  rintro e w3 ⟨rfl, hx⟩
  go_wp2
  go_ret
  exact ⟨rfl, X2.out.trans hx⟩

end Go.Proofs.YtcnkfkjgpdmebaaGreatDoor
