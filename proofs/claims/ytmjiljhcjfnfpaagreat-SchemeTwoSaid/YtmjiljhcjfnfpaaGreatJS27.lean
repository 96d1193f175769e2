/- Contracts: a term's text. (A program of ours has printed a part.) -/
import Derived.Test.YtmjiljhcjfnfpaaGreatJS26
import Derived.Deep.RegionHeld3
/- Contracts: a term's text. (A program of ours has printed a part.) -/
namespace Go.Proofs.YtmjiljhcjfnfpaaGreat
open Go.RowKit

theorem isb_ext {B b : Nat} {bs : List Value} {w w' : World} (h : Lib.IsBuilder 109 5 B b bs w) (e : Ext w w') : Lib.IsBuilder 109 5 B b bs w' := by
  rcases h with ⟨hB, v, hbk, hown, hne⟩ | ⟨hB, v, hbk, hown, hne⟩
  · exact .inl ⟨hB, v, (e.heap (lt_of_obj hbk)).trans hbk, own_extB hown e, hne⟩
  · exact .inr ⟨hB, v, (e.heap (lt_of_obj hbk)).trans hbk, own_extB hown e, hne⟩
/-- A function's type has two args, all the way down. -/
noncomputable def arr2B : Ty → Bool := Ty.allB fun t => !(t.con == [45, 62]) || decide (t.args.length = 2)
theorem arr2B_eq (t : Ty) : arr2B t = ((!(t.con == [45, 62]) || decide (t.args.length = 2)) && t.args.all arr2B) := allB_eq _ t
theorem arr2B_arg {t k : Ty} (h : arr2B t = true) (hk : k ∈ t.args) : arr2B k = true := by
  rw [arr2B_eq, Bool.and_eq_true, List.all_eq_true] at h
  exact h.2 k hk
theorem arr2B_len {t : Ty} (h : arr2B t = true) (hc : t.con = [45, 62]) : t.args.length = 2 := by
  rw [arr2B_eq, Bool.and_eq_true, hc] at h
  simpa using h.1
/-- A head's text. -/
theorem t_nameA (t : Ty) (w : World) (ok : okI t = true) : Calls Tryz.prog 73 #[headV t] w fun e w' => e = .returned (encStr (headT t)) ∧ Ext w w' := by
  obtain ⟨s, v, A, cap, l⟩ := t
  have hv := And.intro (okI_lo ok) (okI_hi ok)
  cases s with
  | nil => exact t_name v l.length hv.1 hv.2 w
  | cons c s =>
    have X0 : Hid (Ext w (w.alloc (.cells #[encStr (c :: s), .int .i64 v, .int .i64 l.length] 78))) := hide ((Ext.refl w).alloc _)
    obtain ⟨c0, c1, c2⟩ := hbox (w.alloc (.cells #[encStr (c :: s), .int .i64 v, .int .i64 l.length] 78)) w.heap.size (c :: s) v l.length (at_newB _ _ _ rfl)
    have g1 : ((c :: s : Str) == []) = false := rfl
    have g2 : ((c :: s : Str) != []) = true := rfl
    have hh : headT (Ty.mk (c :: s) v A cap l) = (c :: s : Str) := by unfold headT; rw [if_neg (by simp [Ty.con])]; rfl
    rw [hh]
    unfold headV
    simp only [Ty.con, Ty.var, Ty.args]
    generalize (c :: s : Str) = n at *
    go_enter Tryz.func73, Tryz.ntmps73
    go_wp2
    go_ret
    exact ⟨rfl, X0.out⟩
theorem headT_ne {t : Ty} : headT t ≠ [] := by
  unfold headT
  split
  · exact varS_ne _
  · assumption

set_option maxRecDepth 10000 in
set_option maxHeartbeats 2000000 in
theorem t_closedOf (t : Ty) (hl : (textT t).length ≤ 3000000000000000000) (HT0 : ∀ w, TyIn w t → Calls Tryz.prog 45 #[tyV t] w fun e w' => e = .returned (encStr (textT t)) ∧ Ext w w') (b : Bool) (w : World) (h : TyIn w t) :
    Calls Tryz.prog 71 #[tyV t, .bool b] w fun e w' => e = .returned (encStr (brack b (textT t))) ∧ Ext w w' := by
  have X0 : Hid (Ext w (w.alloc (.cells #[encStr t.con, .int .i64 t.var, .slice t.A t.args.length t.cap] 25))) := hide ((Ext.refl w).alloc _)
  have HT := hide (HT0 _ (h.ext X0.out))
  have HL := hide hl
  clear HT0 h hl
  unfold tyV at *
  generalize textT t = s at *
  cases b
  · go_enter Tryz.func71, Tryz.ntmps71
    go_wp2_with fail
    refine HT.out.mono ?_
    rintro e w2 ⟨rfl, hx⟩
    go_wp2
    go_ret
    exact ⟨rfl, X0.out.trans hx⟩
  · have h1 : ¬ ((⟨#[40]⟩ : ByteArray).size + (⟨s.toArray⟩ : ByteArray).size > 9223372036854775807) := by have := HL.out; rw [ba_size s]; show ¬ (1 + s.length > _); omega
    have e1 : (ByteArray.mk #[40] ++ ByteArray.mk s.toArray) = ByteArray.mk ([40] ++ s : Str).toArray := ByteArray.mk_append_mk [40] s
    have h2 : ¬ ((⟨([40] ++ s : Str).toArray⟩ : ByteArray).size + (⟨#[41]⟩ : ByteArray).size > 9223372036854775807) := by
      have := HL.out
      rw [ba_size ([40] ++ s)]
      show ¬ (([40] ++ s).length + 1 > _)
      rw [List.length_append]
      simp only [List.length_cons, List.length_nil]
      omega
    have e2 : (ByteArray.mk ([40] ++ s : Str).toArray ++ ByteArray.mk #[41]) = ByteArray.mk ([40] ++ s ++ [41] : Str).toArray := ByteArray.mk_append_mk ([40] ++ s) [41]
    have hb : brack true s = [40] ++ s ++ [41] := rfl
    rw [hb]
    generalize ([40] ++ s ++ [41] : Str) = s2 at *
    generalize ([40] ++ s : Str) = s1 at *
    go_enter Tryz.func71, Tryz.ntmps71
    go_wp2_with fail
    refine HT.out.mono ?_
    rintro e w2 ⟨rfl, hx⟩
    go_wp2
    go_ret
    exact ⟨rfl, X0.out.trans hx⟩

/-- What a term's text asks for. -/
def TextC (t : Ty) : Prop := ∀ (w : World), TyIn w t → Calls Tryz.prog 45 #[tyV t] w fun e w' => e = .returned (encStr (textT t)) ∧ Ext w w'

set_option maxRecDepth 10000 in
set_option maxHeartbeats 4000000 in
theorem t_text_fun (t : Ty) (hf1 : t.con = [45, 62]) (hf2 : t.args.length = 2) (ok : okI t = true) (hsz : t.size ≤ 20000) (ih : ∀ k ∈ t.args, TextC k) : TextC t := by
  intro w h
  have hle := h.le
  have hmx := h.max
  have IH := hide ih
  have Hk := hide h.all
  have HB0 := hide (TBox.new w t)
  have X0 : Hid (Ext w (w.alloc (.cells #[encStr t.con, .int .i64 t.var, .slice t.A t.args.length t.cap] 25))) := hide ((Ext.refl w).alloc _)
  have HCl := hide (fun (k : Ty) (hk : k ∈ t.args) (b : Bool) (w' : World) (e : Ext w w') => hide (t_closedOf k (textT_few (okI_arg ok hk) (by have := Ty.size_arg hk; omega)) (fun v hv => ih k hk v hv) b w' ((h.all.args k hk).ext e)))
  have HTl := hide (fun (k : Ty) (hk : k ∈ t.args) (w' : World) (e : Ext w w') => hide (ih k hk w' ((h.all.args k hk).ext e)))
  have HL := hide (textT_few ok hsz)
  have c0 := HB0.out.c0
  have c1 := HB0.out.c1
  have c2 := HB0.out.c2
  have h0 : 0 < t.args.length := by omega
  have h1 : 1 < t.args.length := by omega
  have HE := hide (textT_fun hf1 h0 h1 hf2)
  have g1 : (t.con == [45, 62]) = true := by rw [hf1]; rfl
  have i0 : (0 : Int) < (t.args.length : Int) := by omega
  have i1 : (1 : Int) < (t.args.length : Int) := by omega
  obtain ⟨b, o, hA, hb, q0, q1, q2⟩ := (Hk.out.ext X0.out).at_ h0
  obtain ⟨b', o', hA', hb', r0, r1, r2⟩ := (Hk.out.ext X0.out).at_ h1
  have hbo : (⟨b', o', none⟩ : Addr) = ⟨b, o, none⟩ := Option.some.inj (hA'.symm.trans hA)
  cases hbo
  clear hA' hb'
  have HA := hide (HCl.out _ (List.getElem_mem h0) (decide ((t.args[0]'h0).con = [45, 62])))
  have HB2 := hide (HTl.out _ (List.getElem_mem h1))
  have LA := hide (textT_few (okI_arg ok (List.getElem_mem h0)) (by have := Ty.size_arg (List.getElem_mem h0); omega))
  have LT : Hid ((brack (decide ((t.args[0]'h0).con = [45, 62])) (textT (t.args[0]'h0)) ++ ([32, 45, 62, 32] : Str) ++ textT (t.args[1]'h1)).length ≤ 3000000000000000000) := hide (by rw [← HE.out]; exact HL.out)
  rw [HE.out]
  clear HE HCl HTl HL LA ih ok hsz IH Hk
  clear h
  have hdec : decide ((t.args[0]'h0).con = [45, 62]) = ((t.args[0]'h0).con == [45, 62]) := by rw [Bool.eq_iff_iff]; simp
  rw [hdec] at HA LT ⊢
  clear hdec
  obtain ⟨bb, hbb⟩ : ∃ bb, bb = ((t.args[0]'h0).con == [45, 62]) := ⟨_, rfl⟩
  rw [← hbb] at HA LT ⊢
  unfold tyV at HA HB2 ⊢
  rw [hA] at c2 ⊢
  generalize textT (t.args[0]'h0) = ta at *
  generalize textT (t.args[1]'h1) = tb at *
  generalize t.args[0]'h0 = ka at *
  generalize t.args[1]'h1 = kb at *
  generalize brack bb ta = sa at *
  have hs1 : ¬ ((⟨sa.toArray⟩ : ByteArray).size + (⟨#[32, 45, 62, 32]⟩ : ByteArray).size > 9223372036854775807) := by
    have := LT.out
    rw [ba_size sa]
    show ¬ (sa.length + 4 > _)
    simp only [List.length_append, List.length_cons, List.length_nil] at this
    omega
  have e1 : (ByteArray.mk sa.toArray ++ ByteArray.mk #[32, 45, 62, 32]) = ByteArray.mk (sa ++ ([32, 45, 62, 32] : Str) : Str).toArray := ByteArray.mk_append_mk sa ([32, 45, 62, 32] : Str)
  have hs2 : ¬ ((⟨(sa ++ ([32, 45, 62, 32] : Str) : Str).toArray⟩ : ByteArray).size + (⟨tb.toArray⟩ : ByteArray).size > 9223372036854775807) := by
    have := LT.out
    rw [ba_size (sa ++ ([32, 45, 62, 32] : Str)), ba_size tb]
    simp only [List.length_append, List.length_cons, List.length_nil] at this ⊢
    omega
  have e2 : (ByteArray.mk (sa ++ ([32, 45, 62, 32] : Str) : Str).toArray ++ ByteArray.mk tb.toArray) = ByteArray.mk (sa ++ ([32, 45, 62, 32] : Str) ++ tb : Str).toArray := ByteArray.mk_append_mk (sa ++ ([32, 45, 62, 32] : Str)) tb
  have hq1 : ¬ (9223372036854775807 < sa.length + 4) := by rw [ba_size sa] at hs1; exact hs1
  have hq2 : ¬ (9223372036854775807 < (sa ++ ([32, 45, 62, 32] : Str)).length + tb.length) := by rw [ba_size (sa ++ ([32, 45, 62, 32] : Str)), ba_size tb] at hs2; exact hs2
  clear LT
  generalize (sa ++ ([32, 45, 62, 32] : Str) ++ tb : Str) = s2 at *
  generalize (sa ++ ([32, 45, 62, 32] : Str) : Str) = s1 at *
  clear HB0
  have HS : Hid (∀ w', Ext (w.alloc (.cells #[encStr t.con, .int .i64 t.var, .slice (some ⟨b, o, none⟩) t.args.length t.cap] 25)) w' → (w'.cell? ⟨w.heap.size, 2, none⟩ = some (.slice (some ⟨b, o, none⟩) t.args.length t.cap) ∧ w'.cell? ⟨b, o, none⟩ = some (.string ⟨ka.con.toArray⟩) ∧ w'.cell? ⟨b, o + 1, none⟩ = some (.int .i64 ka.var) ∧ w'.cell? ⟨b, o + 2, none⟩ = some (.slice ka.A ka.args.length ka.cap) ∧ w'.cell? ⟨b, o + 3, none⟩ = some (.string ⟨kb.con.toArray⟩) ∧ w'.cell? ⟨b, o + 3 + 1, none⟩ = some (.int .i64 kb.var) ∧ w'.cell? ⟨b, o + 3 + 2, none⟩ = some (.slice kb.A kb.args.length kb.cap))) := hide (by
    rw [hA] at q0 q1 q2 r0 r1 r2
    exact fun w' e => ⟨e.cell c2, e.cell q0, e.cell q1, e.cell q2, e.cell r0, e.cell r1, e.cell r2⟩)
  rw [hA] at c0 c1 X0
  clear q0 q1 q2 r0 r1 r2 c1 hb h1 hle hmx hf1 hA i0 i1 h0
  generalize t.args.length = n at *
  subst hf2
  go_enter Tryz.func45, Tryz.ntmps45
  go_wp2
  generalize (w.alloc (.cells #[encStr t.con, .int .i64 t.var, .slice (some ⟨b, o, none⟩) 2 t.cap] 25)) = w0 at *
  obtain ⟨p0, p1, p2, p3, p4, p5, p6⟩ := HS.out _ (Ext.refl w0)
  clear c0 c2
  go_region_held3 (fun w' : World => (w'.cell? ⟨w.heap.size, 2, none⟩ = some (.slice (some ⟨b, o, none⟩) 2 t.cap) ∧ w'.cell? ⟨b, o, none⟩ = some (.string ⟨ka.con.toArray⟩) ∧ w'.cell? ⟨b, o + 1, none⟩ = some (.int .i64 ka.var) ∧ w'.cell? ⟨b, o + 2, none⟩ = some (.slice ka.A ka.args.length ka.cap) ∧ w'.cell? ⟨b, o + 3, none⟩ = some (.string ⟨kb.con.toArray⟩) ∧ w'.cell? ⟨b, o + 3 + 1, none⟩ = some (.int .i64 kb.var) ∧ w'.cell? ⟨b, o + 3 + 2, none⟩ = some (.slice kb.A kb.args.length kb.cap))) (first | assumption | (exact HS.out _ (Ext.refl w0).drew)) (first
    | (go_at_call 71
       rw [← hbb]
       refine Calls.mono (HA.out _ ?e).out ?_
       case e => first | (refine Ext.trans X0.out ?_; (repeat (first | exact Ext.refl _ | exact Ext.pre (by simp) | exact Ext.alloc (by assumption) _ | refine Ext.alloc ?_ _ | refine Ext.more ?_ _ _ | refine Ext.drew ?_ | refine Ext.drewN ?_ _)); done) | (refine Ext.trans (X0.out.trans X8.out) ?_; (repeat (first | exact Ext.refl _ | exact Ext.pre (by simp) | exact Ext.alloc (by assumption) _ | refine Ext.alloc ?_ _ | refine Ext.more ?_ _ _ | refine Ext.drew ?_ | refine Ext.drewN ?_ _)); done)
       rintro e w7 ⟨rfl, hx7⟩
       have X7 : Hid (Ext w0 w7) := hide (by
         refine Ext.trans ?_ hx7
         first | (refine Ext.trans (Ext.refl w0) ?_; (repeat (first | exact Ext.refl _ | exact Ext.pre (by simp) | exact Ext.alloc (by assumption) _ | refine Ext.alloc ?_ _ | refine Ext.more ?_ _ _ | refine Ext.drew ?_ | refine Ext.drewN ?_ _)); done) | (refine Ext.trans X8.out ?_; (repeat (first | exact Ext.refl _ | exact Ext.pre (by simp) | exact Ext.alloc (by assumption) _ | refine Ext.alloc ?_ _ | refine Ext.more ?_ _ _ | refine Ext.drew ?_ | refine Ext.drewN ?_ _)); done))
       have K7 := HS.out _ X7.out
       clear hx7)
    | (go_at_call 45
       refine Calls.mono (HB2.out _ ?e).out ?_
       case e => first | (refine Ext.trans X0.out ?_; (repeat (first | exact Ext.refl _ | exact Ext.pre (by simp) | exact Ext.alloc (by assumption) _ | refine Ext.alloc ?_ _ | refine Ext.more ?_ _ _ | refine Ext.drew ?_ | refine Ext.drewN ?_ _)); done) | (refine Ext.trans (X0.out.trans X7.out) ?_; (repeat (first | exact Ext.refl _ | exact Ext.pre (by simp) | exact Ext.alloc (by assumption) _ | refine Ext.alloc ?_ _ | refine Ext.more ?_ _ _ | refine Ext.drew ?_ | refine Ext.drewN ?_ _)); done)
       rintro e w8 ⟨rfl, hx8⟩
       have X8 : Hid (Ext w0 w8) := hide (by
         refine Ext.trans ?_ hx8
         first | (refine Ext.trans (Ext.refl w0) ?_; (repeat (first | exact Ext.refl _ | exact Ext.pre (by simp) | exact Ext.alloc (by assumption) _ | refine Ext.alloc ?_ _ | refine Ext.more ?_ _ _ | refine Ext.drew ?_ | refine Ext.drewN ?_ _)); done) | (refine Ext.trans X7.out ?_; (repeat (first | exact Ext.refl _ | exact Ext.pre (by simp) | exact Ext.alloc (by assumption) _ | refine Ext.alloc ?_ _ | refine Ext.more ?_ _ _ | refine Ext.drew ?_ | refine Ext.drewN ?_ _)); done))
       have K8 := HS.out _ X8.out
       clear hx8))
  all_goals
    go_wp2
    go_ret
    first
      | exact ⟨rfl, X0.out.trans X7.out⟩
      | exact ⟨rfl, X0.out.trans X8.out⟩
      | exact ⟨rfl, X0.out.trans (X7.out.trans (by repeat (first | exact Ext.refl _ | exact Ext.pre (by simp) | exact Ext.alloc (by assumption) _ | refine Ext.alloc ?_ _ |  refine Ext.more ?_ _ _ | refine Ext.drew ?_ | refine Ext.drewN ?_ _)))⟩
      | exact ⟨rfl, X0.out.trans (X8.out.trans (by repeat (first | exact Ext.refl _ | exact Ext.pre (by simp) | exact Ext.alloc (by assumption) _ | refine Ext.alloc ?_ _ |  refine Ext.more ?_ _ _ | refine Ext.drew ?_ | refine Ext.drewN ?_ _)))⟩

set_option maxRecDepth 10000 in
set_option maxHeartbeats 8000000 in
theorem t_text_con (t : Ty) (hf : t.con ≠ [45, 62]) (ok : okI t = true) (hsz : t.size ≤ 20000) (hlen : (textT t).length ≤ 100000000000000) (ih : ∀ k ∈ t.args, TextC k) : TextC t := by
  intro w h
  obtain ⟨W, hW⟩ : ∃ W, W = (w.alloc (.cells #[encStr t.con, .int .i64 t.var, .slice t.A t.args.length t.cap] 25)).alloc (.cells #[.pointer none, .slice none 0 0] 109) := ⟨_, rfl⟩
  have X0 : Hid (Ext w W) := hide (by rw [hW]; exact ((Ext.refl w).alloc _).alloc _)
  have hsW : W.heap.size = w.heap.size + 2 := by rw [hW]; simp
  have XB : Hid (TBox W w.heap.size t) := hide (by rw [hW]; exact (TBox.new w t).ext ((Ext.refl _).alloc _))
  have BB : Hid (W.heap[w.heap.size + 1]? = some (.cells #[.pointer none, .slice none 0 0] 109 (0, 0))) := hide (by rw [hW]; exact at_newB _ _ _ (by simp))
  have hle := h.le
  have hmx := h.max
  have H := hide h
  have HO := hide (fun w' => t_of t w')
  have HN := hide (fun w' => t_nameA t w' ok)
  have HCl := hide (fun (k : Ty) (hk : k ∈ t.args) (b : Bool) (w' : World) (hh : TyIn w' k) => hide (t_closedOf k (textT_few (okI_arg ok hk) (by have := Ty.size_arg hk; omega)) (fun v hv => ih k hk v hv) b w' hh))
  have HE2 : Hid (textT t = headT t ++ restT t.args) := hide (textT_else (fun hh => hf hh.1))
  have HLr : Hid (∀ k, (headT t ++ restT (t.args.take k)).length ≤ 100000000000000) := hide (fun k => by
    have h1 := HE2.out
    have h2 : restT t.args = restT (t.args.take k) ++ restT (t.args.drop k) := by unfold restT; rw [← List.flatten_append, ← List.map_append, List.take_append_drop]
    have h3 : (textT t).length = (headT t).length + ((restT (t.args.take k)).length + (restT (t.args.drop k)).length) := by rw [h1, h2, List.length_append, List.length_append]
    rw [List.length_append]
    omega)
  have HNe := hide (headT_ne (t := t))
  have g1 : (t.con == [45, 62]) = false := by simpa using hf
  have b0 := (TBox.new w t).c0
  have c0 := XB.out.c0
  have c1 := XB.out.c1
  have c2 := XB.out.c2
  obtain ⟨R, hR⟩ : ∃ R, R = headT t ++ restT t.args := ⟨_, rfl⟩
  rw [HE2.out, ← hR]
  have HR := hide hR
  clear hR
  unfold headV at HO HN
  unfold tyV at HO ⊢
  clear h ok hsz ih hf
  go_enter Tryz.func45, Tryz.ntmps45
  go_wp2_with fail
  rw [← hW]
  clear b0 hW
  refine (HO.out _).mono ?_
  rintro e w2 ⟨rfl, hx2⟩
  have X2 := hide hx2
  clear hx2
  go_wp2_with fail
  refine (HN.out _).mono ?_
  rintro e w3 ⟨rfl, hx3⟩
  have X3 := hide (X2.out.trans hx3)
  have IB : Lib.IsBuilder 109 5 (w.heap.size + 1) (w.heap.size + 1) [] w3 := .inl ⟨Nat.le_refl _, _, (X3.out.heap (by omega)).trans BB.out, World.ownsRow_nil _ _ _ _, fun e => by cases e⟩
  have hs3 := X3.out.size
  have hl0 := HLr.out 0
  have HW := hide (b_write (w.heap.size + 1) (w.heap.size + 1) [] ⟨(headT t).toArray⟩ w3 IB (by rw [List.take_zero] at hl0; have : (headT t ++ restT []).length ≤ 100000000000000 := hl0; rw [List.length_append] at this; rw [ba_size]; show 0 + (headT t).length ≤ _; omega) (by omega))
  clear IB hx3
  go_wp2_with fail
  refine HW.out.mono ?_
  rintro e w4 ⟨rfl, hb4, hx4⟩
  rw [List.nil_append, Lib.strCells_eq] at hb4
  have HB4 : Hid (Lib.IsBuilder 109 5 (w.heap.size + 1) (w.heap.size + 1) (Lib.byteCells (headT t)) w4) := hide (.inr hb4)
  have X4 : Hid (Below (w.heap.size + 1) w3 w4) := hide hx4
  have XB4 : Hid (TBox w4 w.heap.size t) := hide ((hx4.block _ (by omega)).trans (XB.out.ext X3.out))
  have hs4 : w3.heap.size ≤ w4.heap.size := hx4.size
  have HA4 : Hid (Below w.heap.size w w4) := hide ((X0.out.trans X3.out).below.trans (hx4.mono (by omega)))
  clear hb4 hx4 c0 c1 c2
  have c2 := XB4.out.c2
  go_wp2
  clear c2
  go_loopw [34] (fun i wr => ∃ k : Nat, k ≤ t.args.length ∧ i = .int .i64 k ∧ Hid (Below w.heap.size w wr) ∧ Hid (Lib.IsBuilder 109 5 (w.heap.size + 1) (w.heap.size + 1) (Lib.byteCells (headT t ++ restT (t.args.take k))) wr)) (fun i _ => t.args.length - (intOf i).toNat)
  case atStart => exact ⟨0, Nat.zero_le _, rfl, HA4, by simpa [restT] using HB4⟩
  case round =>
    obtain ⟨k, hk, rfl, HX, HB⟩ := hrel
    have hbl : w.heap.size + 1 < wr.heap.size := by
      rcases HB.out with ⟨-, v, hbk, -⟩ | ⟨-, v, hbk, -⟩ <;> exact lt_of_obj hbk
    by_cases hlt : k < t.args.length
    · have hlt' : (k : Int) < (t.args.length : Int) := by omega
      have hk0 : (0 : Int) ≤ (k : Int) := by omega
      obtain ⟨b, o, hA, hb, q0, q1, q2⟩ := (H.out.all.old HX.out).at_ hlt
      have hcm := List.getElem_mem hlt
      have hxa := (H.out.all.args _ hcm).old HX.out
      have HC := hide (HCl.out _ hcm (decide (0 < (t.args[k]'hlt).args.length)) (wr.alloc (.cells #[encStr (t.args[k]'hlt).con, .int .i64 (t.args[k]'hlt).var, .slice (t.args[k]'hlt).A (t.args[k]'hlt).args.length (t.args[k]'hlt).cap] 25)) (hxa.ext ((Ext.refl _).alloc _)))
      have hcat : headT t ++ restT (t.args.take (k + 1)) = (headT t ++ restT (t.args.take k)) ++ (([32] : Str) ++ brack (decide (0 < (t.args[k]'hlt).args.length)) (textT (t.args[k]'hlt))) := by rw [restT_take _ hlt, List.append_assoc]
      have hlr := HLr.out (k + 1)
      rw [hcat] at hlr
      have HCat := hide hcat
      clear hcm hxa hcat
      generalize brack (decide (0 < (t.args[k]'hlt).args.length)) (textT (t.args[k]'hlt)) = sa at *
      have hdec : decide ((t.args[k]'hlt).args.length > 0) = decide (0 < (t.args[k]'hlt).args.length) := rfl
      generalize t.args[k]'hlt = x at *
      generalize headT t ++ restT (t.args.take k) = s0 at *
      have hls : s0.length + (1 + sa.length) ≤ 100000000000000 := by simp only [List.length_append, List.length_cons, List.length_nil] at hlr; omega
      clear hlr
      have h1 : ¬ ((⟨#[32]⟩ : ByteArray).size + (⟨sa.toArray⟩ : ByteArray).size > 9223372036854775807) := by rw [ba_size sa]; show ¬ (1 + sa.length > _); omega
      have e1 : (ByteArray.mk #[32] ++ ByteArray.mk sa.toArray) = ByteArray.mk ([32] ++ sa : Str).toArray := ByteArray.mk_append_mk [32] sa
      have hq1 : ¬ (9223372036854775807 < 1 + sa.length) := by omega
      rw [hA]
      clear hA
      unfold tyV at HC
      go_wp2_with fail
      refine HC.out.mono ?_
      rintro e y ⟨rfl, hxy⟩
      have Xy := hide (((Ext.refl wr).alloc (.cells #[encStr x.con, .int .i64 x.var, .slice x.A x.args.length x.cap] 25)).trans hxy)
      have HBy := hide (isb_ext HB.out Xy.out)
      have hsy := Xy.out.size
      have HWr := hide (b_write (w.heap.size + 1) (w.heap.size + 1) (Lib.byteCells s0) ⟨([32] ++ sa : Str).toArray⟩ y HBy.out (by rw [ba_size]; simp only [Lib.byteCells, List.length_map, List.length_append, List.length_cons, List.length_nil]; omega) (by omega))
      clear hxy
      go_wp2_with fail
      refine HWr.out.mono ?_
      rintro e z ⟨rfl, hbz, hxz⟩
      have HBz : Hid (Lib.IsBuilder 109 5 (w.heap.size + 1) (w.heap.size + 1) (Lib.byteCells (headT t ++ restT (t.args.take (k + 1)))) z) := hide (.inr (by
        rw [HCat.out]
        rw [Lib.strCells_eq] at hbz
        have : Lib.byteCells (s0 ++ ([32] ++ sa)) = Lib.byteCells s0 ++ Lib.byteCells ([32] ++ sa) := by simp [Lib.byteCells]
        rw [this]
        exact hbz))
      have HXz : Hid (Below w.heap.size w z) := hide (HX.out.trans ((Xy.out.below.mono (by have := HX.out.size; omega)).trans (hxz.mono (by omega))))
      clear hbz hxz
      go_wp2
      go_roundw
      case rel => exact ⟨k + 1, hlt, by go_num, HXz, HBz⟩
      case measure => simp [intOf]; omega
    · have hge : ¬ (k : Int) < (t.args.length : Int) := by omega
      have HB2 : Hid (Lib.IsBuilder 109 5 (w.heap.size + 1) (w.heap.size + 1) (Lib.byteCells (headT t ++ restT t.args)) wr) := hide (by have := HB.out; rwa [List.take_of_length_le (by omega)] at this)
      have hne : headT t ++ restT t.args ≠ [] := fun e => HNe.out (List.append_eq_nil_iff.1 e).1
      have HS := hide (b_string (w.heap.size + 1) (w.heap.size + 1) (headT t ++ restT t.args) wr HB2.out hne)
      rw [← HR.out] at HS
      clear HB HB2 hne
      go_wp2_with fail
      refine HS.out.mono ?_
      rintro e w5 ⟨rfl, hx5⟩
      go_wp2
      go_ret
      exact ⟨rfl, Ext.of_below (HX.out.trans (hx5.mono (by omega))) (Nat.le_refl _)⟩

set_option maxRecDepth 10000 in
set_option maxHeartbeats 2000000 in
theorem t_Text (t : Ty) (w : World) (h : TyIn w t) (hl : legalT t = true) (hT : TextC t) : Calls Tryz.prog 18 #[tyV t] w fun e w' => e = .returned (encStr (textT t)) ∧ Ext w w' := by
  have X0 : Hid (Ext w (w.alloc (.cells #[encStr t.con, .int .i64 t.var, .slice t.A t.args.length t.cap] 25))) := hide ((Ext.refl w).alloc _)
  have HB := hide (TBox.new w t)
  have c0 := HB.out.c0
  have c1 := HB.out.c1
  have c2 := HB.out.c2
  have HL := hide (t_legalU t _ (h.ext X0.out))
  have HT := hide (fun w' (e : Ext w w') => hide (hT w' (h.ext e)))
  have HB2 := hide (fun w' (e : Ext (w.alloc (.cells #[encStr t.con, .int .i64 t.var, .slice t.A t.args.length t.cap] 25)) w') => And.intro (HB.out.ext e).c0 (And.intro (HB.out.ext e).c1 (HB.out.ext e).c2))
  rw [hl] at HL
  clear h hT
  unfold tyV at *
  generalize textT t = s at *
  go_enter Tryz.func18, Tryz.ntmps18
  go_wp2_with fail
  refine HL.out.mono ?_
  rintro e w2 ⟨rfl, hx⟩
  have X2 := hide (X0.out.trans hx)
  obtain ⟨d0, d1, d2⟩ := HB2.out _ hx
  clear hx c0 c1 c2
  go_wp2_with fail
  refine (HT.out _ X2.out).out.mono ?_
  rintro e w3 ⟨rfl, hx3⟩
  go_wp2
  go_ret
  exact ⟨rfl, X2.out.trans hx3⟩

end Go.Proofs.YtmjiljhcjfnfpaaGreat

/- Contract: the term of a text, at the texts of chapter 21's example. (A program of ours has printed this.) -/
namespace Go.Proofs.YtmjiljhcjfnfpaaGreat
open Go.RowKit Go.Shelf Go.Lib

theorem ext_r3 {w W : World} {b : Nat} (x : Ext w W) (h : w.heap.size ≤ b) (v0 v1 v2 : Value) : Ext w (((W.setCell ⟨b, 0, none⟩ v0).setCell ⟨b, 1, none⟩ v1).setCell ⟨b, 2, none⟩ v2) := ((x.setCell h _).setCell h _).setCell h _
/-- A variable; a function of two types. -/
def lfT (v : Int) (A : Option Addr) (c : Nat) : Ty := .mk [] v A c []
def fnT (a b : Ty) (A : Option Addr) (c : Nat) : Ty := .mk [45, 62] 0 A c [a, b]
theorem lf_text (v : Int) (A : Option Addr) (c : Nat) : textT (lfT v A c) = varS v := by
  rw [textT_else (by unfold lfT; intro h; cases h.1)]
  show varS v ++ ([] : Str) = varS v
  rw [List.append_nil]
theorem lf_size (v : Int) (A : Option Addr) (c : Nat) : (lfT v A c).size = 1 := by rw [Ty.size_eq]; rfl
theorem lf_ok {v : Int} (h0 : -9223372036854775808 ≤ v) (h1 : v ≤ 9223372036854775807) (A : Option Addr) (c : Nat) : okI (lfT v A c) = true := okI_mk h0 h1 (by decide) (by simp)
theorem lf_C {v : Int} (h0 : -9223372036854775808 ≤ v) (h1 : v ≤ 9223372036854775807) (hl : (varS v).length ≤ 1000) (A : Option Addr) (c : Nat) : TextC (lfT v A c) :=
  t_text_con _ (show ([] : Str) ≠ [45, 62] by decide) (lf_ok h0 h1 A c) (by rw [lf_size]; decide) (by rw [lf_text]; omega) (by intro k hk; cases hk)
theorem lf_in (w : World) (v : Int) (A : Option Addr) (c : Nat) (hc : c ≤ 9223372036854775807) : TyIn w (lfT v A c) := TyIn.mk (Nat.zero_le _) hc (Nat.zero_le _) (RowOf.nil _ _ _) (by intro k hk; cases hk)
theorem fn_text (a b : Ty) (A : Option Addr) (c : Nat) (ha : a.con ≠ [45, 62]) : textT (fnT a b A c) = textT a ++ [32, 45, 62, 32] ++ textT b := by
  rw [textT_fun (t := fnT a b A c) rfl (show 0 < ([a, b] : List Ty).length by simp) (show 1 < ([a, b] : List Ty).length by simp) rfl]
  show brack (decide (a.con = [45, 62])) (textT a) ++ _ ++ textT b = _
  rw [decide_eq_false ha]
  rfl
theorem fn_size (a b : Ty) (A : Option Addr) (c : Nat) : (fnT a b A c).size = a.size + b.size + 1 := by
  rw [Ty.size_eq]
  show (([a, b].map Ty.size).sum + 1) = _
  simp
theorem fn_C (a b : Ty) (A : Option Addr) (c : Nat) (ha : TextC a) (hb : TextC b) (oka : okI a = true) (okb : okI b = true) (hs : a.size + b.size ≤ 100) : TextC (fnT a b A c) :=
  t_text_fun _ rfl rfl (okI_mk (by decide) (by decide) (by decide) (by intro k hk; simp at hk; rcases hk with rfl | rfl <;> assumption)) (by rw [fn_size]; omega) (by intro k hk; simp [fnT, Ty.args] at hk; rcases hk with rfl | rfl <;> assumption)
theorem fn_in {w : World} {g : Nat} {a b : Ty} (hg : w.heap[g]? = some (.cells #[encStr a.con, .int .i64 a.var, .slice a.A a.args.length a.cap, encStr b.con, .int .i64 b.var, .slice b.A b.args.length b.cap] 25 (0, 0))) (ha : TyIn w a) (hb : TyIn w b) : TyIn w (fnT a b (some ⟨g, 0, none⟩) 2) :=
  TyIn.mk (Nat.le_refl _) (show (2 : Nat) ≤ 9223372036854775807 by decide) (show ([45, 62] : Str).length ≤ 9223372036854775807 by decide) (RowOf.block tyC [a, b] hg) (by intro k hk; have hk : k ∈ [a, b] := hk; simp at hk; rcases hk with rfl | rfl <;> assumption)

set_option maxRecDepth 10000 in
set_option maxHeartbeats 4000000 in
theorem t_read_h (w : World) : Calls Tryz.prog 43 #[encStr [104]] w fun e w' => e = .returned (.tuple #[.agg #[.string ⟨#[]⟩, .int .i64 7, .slice none 0 0], .int .i64 0]) ∧ Ext w w' := by
  obtain ⟨W, hW⟩ : ∃ W, W = (w.alloc (.cells #[.string ⟨#[]⟩, .int .i64 0, .slice none 0 0] 25)).alloc (.cells #[.string ⟨#[104]⟩, .int .i64 0, .bool false] 101) := ⟨_, rfl⟩
  have HW := hide hW.symm
  have X0 : Hid (Ext w W) := hide (by rw [hW]; exact ((Ext.refl _).alloc _).alloc _)
  have Z0 : Hid (W.heap[w.heap.size]? = some (.cells #[.string ⟨#[]⟩, .int .i64 0, .slice none 0 0] 25 (0, 0))) := hide (by rw [hW]; exact (((Ext.refl _).alloc _).heap (by simp)).trans (at_newB _ _ _ rfl))
  have R0 : Hid (RdAt W (w.heap.size + 1) [104] 0 false) := hide (by rw [hW]; exact at_newB _ _ _ (by simp))
  have HT := hide (t_term_h (w.heap.size + 1) 0 W R0.out (by decide) (by decide))
  clear hW
  unfold encStr at *
  go_enter Tryz.func43, Tryz.ntmps43
  go_upto_region 2 with fail
  rw [HW.out]
  clear HW
  go_wp2_with fail
  refine HT.out.mono ?_
  rintro e w2 ⟨rfl, hr, hg⟩
  have R2 := hide hr
  have X2 := hide (X0.out.grown hg (fun j e => by injection e with e; omega))
  have Z2 := hide ((hg.block _ (lt_of_obj Z0.out) (fun e => by injection e with e; omega)).trans Z0.out)
  clear hr hg HT
  go_upto_region 3 with fail
  refine wp_named ?_
  intro W3 hW3
  have X3 : Hid (Ext w2 W3) := hide (by rw [hW3]; exact (Ext.refl _).alloc _)
  have BT : Hid (W3.heap[w2.heap.size]? = some (.cells #[.string ⟨#[]⟩, .int .i64 7, .slice none 0 0] 25 (0, 0))) := hide (by rw [hW3]; exact at_newB _ _ _ rfl)
  have R3 := hide (R2.out.ext X3.out)
  have Z3 := hide ((X3.out.heap (lt_of_obj Z2.out)).trans Z2.out)
  clear hW3
  have HTx := hide (t_Text (lfT 7 none 0) W3 (lf_in _ 7 none 0 (by decide)) (by kernel_rfl) (lf_C (by decide) (by decide) (of_decide_eq_true (by kernel_rfl)) none 0))
  rw [show textT (lfT 7 none 0) = [104] from (by rw [lf_text]; kernel_rfl)] at HTx
  obtain ⟨c0, c1, c2, f0, f1, f2⟩ := R3.out.cells
  have lb := R3.out.lt
  unfold encStr at c0
  have k0 := bytes_block BT.out 0
  have k1 := bytes_block BT.out 1
  have k2 := bytes_block BT.out 2
  simp only [List.getElem?_toArray, List.getElem?_cons_zero, List.getElem?_cons_succ] at k0 k1 k2
  have lk := lt_of_obj BT.out
  go_wp2_with fail
  refine HTx.out.mono ?_
  rintro e w4 ⟨rfl, hx⟩
  have X4 := hide hx
  have BT4 := hide ((hx.heap (lt_of_obj BT.out)).trans BT.out)
  have Z4 := hide ((hx.heap (lt_of_obj Z3.out)).trans Z3.out)
  clear hx HTx c0 c1 c2 f0 f1 f2 lb k0 k1 k2 lk
  have k0 := bytes_block BT4.out 0
  have k1 := bytes_block BT4.out 1
  have k2 := bytes_block BT4.out 2
  have y0 := bytes_block Z4.out 0
  have y1 := bytes_block Z4.out 1
  have y2 := bytes_block Z4.out 2
  simp only [List.getElem?_toArray, List.getElem?_cons_zero, List.getElem?_cons_succ] at k0 k1 k2 y0 y1 y2
  have lk := lt_of_obj BT4.out
  have z0 := free_block Z4.out 0
  have z1 := free_block Z4.out 1
  have z2 := free_block Z4.out 2
  have ly := lt_of_obj Z4.out
  have XF := hide (fun v0 v1 v2 => ext_r3 (b := w.heap.size) (X2.out.trans (X3.out.trans X4.out)) (Nat.le_refl _) v0 v1 v2)
  unfold encStr
  go_wp2
  refine bodyPost_ret (v := .tuple #[.agg #[.string ⟨#[]⟩, .int .i64 7, .slice none 0 0], .int .i64 0]) ?_ rfl ⟨rfl, XF.out _ _ _⟩
  simp [results, Tryz.f43, go_sem, y0, y1, y2]

set_option maxRecDepth 10000 in
set_option maxHeartbeats 4000000 in
theorem l_read_h (w : World) : Calls Tryz.prog 17 #[encStr [104]] w fun e w' => e = .returned (.agg #[.string ⟨#[]⟩, .int .i64 7, .slice none 0 0]) ∧ Ext w w' := by
  obtain ⟨W, hW⟩ : ∃ W, W = w.alloc (.cells #[.string ⟨#[]⟩, .int .i64 0, .slice none 0 0] 25) := ⟨_, rfl⟩
  have HW := hide hW.symm
  have X0 : Hid (Ext w W) := hide (by rw [hW]; exact (Ext.refl _).alloc _)
  have Z0 : Hid (W.heap[w.heap.size]? = some (.cells #[.string ⟨#[]⟩, .int .i64 0, .slice none 0 0] 25 (0, 0))) := hide (by rw [hW]; exact at_newB _ _ _ rfl)
  have HT := hide (t_read_h W)
  clear hW
  unfold encStr at *
  go_enter Tryz.func17, Tryz.ntmps17
  go_upto_region 1 with fail
  rw [HW.out]
  clear HW
  go_wp2_with fail
  refine HT.out.mono ?_
  rintro e w2 ⟨rfl, hx⟩
  have X2 := hide (X0.out.trans hx)
  have Z2 := hide ((hx.heap (lt_of_obj Z0.out)).trans Z0.out)
  clear hx HT
  go_upto_region 2 with fail
  refine wp_named ?_
  intro W3 hW3
  have X3 : Hid (Ext w2 W3) := hide (by rw [hW3]; exact (Ext.refl _).alloc _)
  have BT : Hid (W3.heap[w2.heap.size]? = some (.cells #[.string ⟨#[]⟩, .int .i64 7, .slice none 0 0] 25 (0, 0))) := hide (by rw [hW3]; exact at_newB _ _ _ rfl)
  have Z3 := hide ((X3.out.heap (lt_of_obj Z2.out)).trans Z2.out)
  clear hW3
  have k0 := bytes_block BT.out 0
  have k1 := bytes_block BT.out 1
  have k2 := bytes_block BT.out 2
  have y0 := bytes_block Z3.out 0
  have y1 := bytes_block Z3.out 1
  have y2 := bytes_block Z3.out 2
  simp only [List.getElem?_toArray, List.getElem?_cons_zero, List.getElem?_cons_succ] at k0 k1 k2 y0 y1 y2
  have lk := lt_of_obj BT.out
  have z0 := free_block Z3.out 0
  have z1 := free_block Z3.out 1
  have z2 := free_block Z3.out 2
  have ly := lt_of_obj Z3.out
  have XF := hide (fun v0 v1 v2 => ext_r3 (b := w.heap.size) (X2.out.trans X3.out) (Nat.le_refl _) v0 v1 v2)
  go_wp2
  refine bodyPost_ret (v := .agg #[.string ⟨#[]⟩, .int .i64 7, .slice none 0 0]) ?_ rfl ⟨rfl, XF.out _ _ _⟩
  simp [results, Tryz.f17, go_sem, y0, y1, y2]

set_option maxRecDepth 10000 in
set_option maxHeartbeats 4000000 in
theorem t_read_hf (w : World) : Calls Tryz.prog 43 #[encStr [104, 32, 45, 62, 32, 102]] w fun e w' => (∃ g, e = .returned (.tuple #[.agg #[.string ⟨#[45, 62]⟩, .int .i64 0, .slice (some ⟨g, 0, none⟩) 2 2], .int .i64 0]) ∧ w.heap.size ≤ g ∧ w'.heap[g]? = some (.cells #[.string ⟨#[]⟩, .int .i64 7, .slice none 0 0, .string ⟨#[]⟩, .int .i64 5, .slice none 0 0] 25 (0, 0))) ∧ Ext w w' := by
  obtain ⟨W, hW⟩ : ∃ W, W = (w.alloc (.cells #[.string ⟨#[]⟩, .int .i64 0, .slice none 0 0] 25)).alloc (.cells #[.string ⟨#[104, 32, 45, 62, 32, 102]⟩, .int .i64 0, .bool false] 101) := ⟨_, rfl⟩
  have HW := hide hW.symm
  have X0 : Hid (Ext w W) := hide (by rw [hW]; exact ((Ext.refl _).alloc _).alloc _)
  have Z0 : Hid (W.heap[w.heap.size]? = some (.cells #[.string ⟨#[]⟩, .int .i64 0, .slice none 0 0] 25 (0, 0))) := hide (by rw [hW]; exact (((Ext.refl _).alloc _).heap (by simp)).trans (at_newB _ _ _ rfl))
  have R0 : Hid (RdAt W (w.heap.size + 1) [104, 32, 45, 62, 32, 102] 0 false) := hide (by rw [hW]; exact at_newB _ _ _ (by simp))
  have HT := hide (t_term_hf (w.heap.size + 1) 0 W R0.out (by decide) (by decide))
  clear hW
  unfold encStr at *
  go_enter Tryz.func43, Tryz.ntmps43
  go_upto_region 2 with fail
  rw [HW.out]
  clear HW
  go_wp2_with fail
  refine HT.out.mono ?_
  rintro e w2 ⟨⟨g, rfl, hgw, hgc⟩, hr, hg⟩
  have R2 := hide hr
  have X2 := hide (X0.out.grown hg (fun j e => by injection e with e; omega))
  have Z2 := hide ((hg.block _ (lt_of_obj Z0.out) (fun e => by injection e with e; omega)).trans Z0.out)
  have HGc := hide hgc
  clear hr hg HT
  go_upto_region 3 with fail
  refine wp_named ?_
  intro W3 hW3
  have X3 : Hid (Ext w2 W3) := hide (by rw [hW3]; exact (Ext.refl _).alloc _)
  have BT : Hid (W3.heap[w2.heap.size]? = some (.cells #[.string ⟨#[45, 62]⟩, .int .i64 0, .slice (some ⟨g, 0, none⟩) 2 2] 25 (0, 0))) := hide (by rw [hW3]; exact at_newB _ _ _ rfl)
  have R3 := hide (R2.out.ext X3.out)
  have Z3 := hide ((X3.out.heap (lt_of_obj Z2.out)).trans Z2.out)
  clear hW3
  have HG3 := hide ((X3.out.heap (lt_of_obj HGc.out)).trans HGc.out)
  have hgn := lt_of_obj HGc.out
  have HTx := hide (t_Text (fnT (lfT 7 none 0) (lfT 5 none 0) (some ⟨g, 0, none⟩) 2) W3 (fn_in HG3.out (lf_in _ 7 none 0 (by decide)) (lf_in _ 5 none 0 (by decide))) (by kernel_rfl) (fn_C _ _ _ _ (lf_C (by decide) (by decide) (of_decide_eq_true (by kernel_rfl)) none 0) (lf_C (by decide) (by decide) (of_decide_eq_true (by kernel_rfl)) none 0) (lf_ok (by decide) (by decide) none 0) (lf_ok (by decide) (by decide) none 0) (by rw [lf_size, lf_size]; decide)))
  rw [show textT (fnT (lfT 7 none 0) (lfT 5 none 0) (some ⟨g, 0, none⟩) 2) = [104, 32, 45, 62, 32, 102] from (by rw [fn_text (lfT 7 none 0) (lfT 5 none 0) _ _ (show ([] : Str) ≠ [45, 62] by decide), lf_text, lf_text]; kernel_rfl)] at HTx
  obtain ⟨c0, c1, c2, f0, f1, f2⟩ := R3.out.cells
  have lb := R3.out.lt
  unfold encStr at c0
  have k0 := bytes_block BT.out 0
  have k1 := bytes_block BT.out 1
  have k2 := bytes_block BT.out 2
  simp only [List.getElem?_toArray, List.getElem?_cons_zero, List.getElem?_cons_succ] at k0 k1 k2
  have lk := lt_of_obj BT.out
  go_wp2_with fail
  refine HTx.out.mono ?_
  rintro e w4 ⟨rfl, hx⟩
  have X4 := hide hx
  have BT4 := hide ((hx.heap (lt_of_obj BT.out)).trans BT.out)
  have Z4 := hide ((hx.heap (lt_of_obj Z3.out)).trans Z3.out)
  clear hx HTx c0 c1 c2 f0 f1 f2 lb k0 k1 k2 lk
  have k0 := bytes_block BT4.out 0
  have k1 := bytes_block BT4.out 1
  have k2 := bytes_block BT4.out 2
  have y0 := bytes_block Z4.out 0
  have y1 := bytes_block Z4.out 1
  have y2 := bytes_block Z4.out 2
  simp only [List.getElem?_toArray, List.getElem?_cons_zero, List.getElem?_cons_succ] at k0 k1 k2 y0 y1 y2
  have lk := lt_of_obj BT4.out
  have z0 := free_block Z4.out 0
  have z1 := free_block Z4.out 1
  have z2 := free_block Z4.out 2
  have ly := lt_of_obj Z4.out
  have XF := hide (fun v0 v1 v2 => ext_r3 (b := w.heap.size) (X2.out.trans (X3.out.trans X4.out)) (Nat.le_refl _) v0 v1 v2)
  unfold encStr
  go_wp2
  refine bodyPost_ret (v := .tuple #[.agg #[.string ⟨#[45, 62]⟩, .int .i64 0, .slice (some ⟨g, 0, none⟩) 2 2], .int .i64 0]) ?_ rfl ⟨⟨g, rfl, Nat.le_trans X0.out.size hgw, (Below.heap_setCell _ _ _ _ (show g ≠ w.heap.size by have := X0.out.size; have := lt_of_obj Z0.out; omega)).trans ((Below.heap_setCell _ _ _ _ (show g ≠ w.heap.size by have := lt_of_obj Z0.out; omega)).trans ((Below.heap_setCell _ _ _ _ (show g ≠ w.heap.size by have := lt_of_obj Z0.out; omega)).trans ((X4.out.heap (lt_of_obj HG3.out)).trans HG3.out)))⟩, XF.out _ _ _⟩
  simp [results, Tryz.f43, go_sem, y0, y1, y2]

set_option maxRecDepth 10000 in
set_option maxHeartbeats 4000000 in
theorem l_read_hf (w : World) : Calls Tryz.prog 17 #[encStr [104, 32, 45, 62, 32, 102]] w fun e w' => (∃ g, e = .returned (.agg #[.string ⟨#[45, 62]⟩, .int .i64 0, .slice (some ⟨g, 0, none⟩) 2 2]) ∧ w.heap.size ≤ g ∧ w'.heap[g]? = some (.cells #[.string ⟨#[]⟩, .int .i64 7, .slice none 0 0, .string ⟨#[]⟩, .int .i64 5, .slice none 0 0] 25 (0, 0))) ∧ Ext w w' := by
  obtain ⟨W, hW⟩ : ∃ W, W = w.alloc (.cells #[.string ⟨#[]⟩, .int .i64 0, .slice none 0 0] 25) := ⟨_, rfl⟩
  have HW := hide hW.symm
  have X0 : Hid (Ext w W) := hide (by rw [hW]; exact (Ext.refl _).alloc _)
  have Z0 : Hid (W.heap[w.heap.size]? = some (.cells #[.string ⟨#[]⟩, .int .i64 0, .slice none 0 0] 25 (0, 0))) := hide (by rw [hW]; exact at_newB _ _ _ rfl)
  have HT := hide (t_read_hf W)
  clear hW
  unfold encStr at *
  go_enter Tryz.func17, Tryz.ntmps17
  go_upto_region 1 with fail
  rw [HW.out]
  clear HW
  go_wp2_with fail
  refine HT.out.mono ?_
  rintro e w2 ⟨⟨g, rfl, hgw, hgc⟩, hx⟩
  have X2 := hide (X0.out.trans hx)
  have Z2 := hide ((hx.heap (lt_of_obj Z0.out)).trans Z0.out)
  have HGc := hide hgc
  clear hx HT
  go_upto_region 2 with fail
  refine wp_named ?_
  intro W3 hW3
  have X3 : Hid (Ext w2 W3) := hide (by rw [hW3]; exact (Ext.refl _).alloc _)
  have BT : Hid (W3.heap[w2.heap.size]? = some (.cells #[.string ⟨#[45, 62]⟩, .int .i64 0, .slice (some ⟨g, 0, none⟩) 2 2] 25 (0, 0))) := hide (by rw [hW3]; exact at_newB _ _ _ rfl)
  have Z3 := hide ((X3.out.heap (lt_of_obj Z2.out)).trans Z2.out)
  clear hW3
  have HG3 := hide ((X3.out.heap (lt_of_obj HGc.out)).trans HGc.out)
  have k0 := bytes_block BT.out 0
  have k1 := bytes_block BT.out 1
  have k2 := bytes_block BT.out 2
  have y0 := bytes_block Z3.out 0
  have y1 := bytes_block Z3.out 1
  have y2 := bytes_block Z3.out 2
  simp only [List.getElem?_toArray, List.getElem?_cons_zero, List.getElem?_cons_succ] at k0 k1 k2 y0 y1 y2
  have lk := lt_of_obj BT.out
  have z0 := free_block Z3.out 0
  have z1 := free_block Z3.out 1
  have z2 := free_block Z3.out 2
  have ly := lt_of_obj Z3.out
  have XF := hide (fun v0 v1 v2 => ext_r3 (b := w.heap.size) (X2.out.trans X3.out) (Nat.le_refl _) v0 v1 v2)
  go_wp2
  refine bodyPost_ret (v := .agg #[.string ⟨#[45, 62]⟩, .int .i64 0, .slice (some ⟨g, 0, none⟩) 2 2]) ?_ rfl ⟨⟨g, rfl, Nat.le_trans X0.out.size hgw, (Below.heap_setCell _ _ _ _ (show g ≠ w.heap.size by have := lt_of_obj Z0.out; omega)).trans ((Below.heap_setCell _ _ _ _ (show g ≠ w.heap.size by have := lt_of_obj Z0.out; omega)).trans ((Below.heap_setCell _ _ _ _ (show g ≠ w.heap.size by have := lt_of_obj Z0.out; omega)).trans HG3.out))⟩, XF.out _ _ _⟩
  simp [results, Tryz.f17, go_sem, y0, y1, y2]

end Go.Proofs.YtmjiljhcjfnfpaaGreat
