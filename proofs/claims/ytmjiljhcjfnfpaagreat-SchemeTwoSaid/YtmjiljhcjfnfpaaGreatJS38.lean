/- Contract of the reference of chapter 21: each of some predicates is one of others, for some types (rest). -/
import Derived.Test.YtmjiljhcjfnfpaaGreatJS37
import Derived.BigQuiet
import Derived.Deep.RegionHeld3
/- Contract of the reference of chapter 21: each of some predicates is one of others, for some types (rest). -/
namespace Go.Proofs.YtmjiljhcjfnfpaaGreat
open Go.RowKit

def RestCo (O : Option Addr) (oc : Nat) (of l : List Pd) : Prop := ∀ (L A : Option Addr) (cap la c N : Nat) (m : Bnd) (w : World), PdsIn w L l → l.length ≤ cap → cap ≤ 9223372036854775807 → PdsIn w O of → (∀ r ∈ of, legalT r.ty = true) → PrB w A la c m N → N + psz l ≤ 100000 →
  Calls Tryz.prog 33 #[.slice A la c, .slice L l.length cap, .slice O of.length oc] w fun e w' => e = .returned (.bool (allM l of m)) ∧ Ext w w'

set_option maxRecDepth 10000 in
set_option maxHeartbeats 8000000 in
theorem r_rest_cons (O : Option Addr) (oc : Nat) (of : List Pd) (hof : of.length ≤ 1000000000) (q : Pd) (l : List Pd) (ih : RestCo O oc of l) : RestCo O oc of (q :: l) := by
  intro L A cap la c N m w hL hle hcap hO hlg hm hn
  have HL := hide hL
  have HOf := hide hO
  have HM := hide hm
  have hpz : psz (q :: l) = q.ty.size + psz l := by unfold psz; simp
  have HOn := hide (fun (r : Pd) (hr : TyIn w r.ty) (hl : legalT r.ty = true) w' (e : Ext w w') => hide (r_on19 q.ty r.ty A la c N m w' ((hL.all q (by simp)).ty.ext e) (hr.ext e) hl (hm.ext e) (by omega)))
  have HOa := hide (fun r hr => And.intro (hO.all r hr).ty (hlg r hr))
  have hcut := hL.cut1 (cap := cap) (by simp) hle
  have HC := hide hcut
  have hll : l.length + 1 ≤ cap := hle
  have HIH := hide (fun B A' la' c' m2 w' (e : Ext w w') (hA : PdsIn w B l) (hb : PrB w' A' la' c' m2 (N + q.ty.size)) => hide (ih B A' (cap - 1) la' c' (N + q.ty.size) m2 w' (hA.ext e) (by omega) (by omega) (hO.ext e) hlg hb (by omega)))
  obtain ⟨bl, ol, rfl, hbl, q0, q1, q2, q3⟩ := hL.at_ (i := 0) (by simp)
  simp only [List.getElem_cons_zero, Nat.zero_mul, Nat.add_zero] at q0 q1 q2 q3
  have HSq := hide (fun w' (e : Ext w w') => And.intro (e.cell q0) (And.intro (e.cell q1) (And.intro (e.cell q2) (e.cell q3))))
  obtain ⟨R, hR⟩ : ∃ R, R = allM (q :: l) of m := ⟨_, rfl⟩
  have HR : Hid (R = of.any fun r => (r.cls == q.cls) && (match onT q.ty r.ty m with | some m' => allM l of m' | none => false)) := hide hR
  rw [← hR]
  have hne : ¬ ((l.length : Int) + 1 = 0) := by omega
  have hne2 : ((l.length : Int) + 1 == 0) = false := by simpa using hne
  have h01 : (0 : Int) < (l.length : Int) + 1 := by omega
  clear hL hO hm hlg hn hpz ih hcut hR
  simp only [List.length_cons]
  obtain ⟨f, hf⟩ : ∃ f : Pd → Bool, f = fun r => (r.cls == q.cls) && (match onT q.ty r.ty m with | some m' => allM l of m' | none => false) := ⟨_, rfl⟩
  have HF := hide hf
  rw [← hf] at HR
  clear hf
  go_enter Tryz.func33, Tryz.ntmps33
  go_wp2
  go_loopw [7] (fun i wr => ∃ k : Nat, k ≤ of.length ∧ i = .int .i64 k ∧ Hid (R = (of.drop k).any f) ∧ Hid (Ext w wr)) (fun i _ => of.length - (intOf i).toNat)
  case atStart => exact ⟨0, Nat.zero_le _, rfl, hide (by rw [List.drop_zero]; exact HR.out), hide (Ext.refl w)⟩
  case round =>
    obtain ⟨k, hk, rfl, HRk, HX⟩ := hrel
    by_cases hlt : k < of.length
    · have hlt1 : (k : Int) < (of.length : Int) := by omega
      have hk0 : (0 : Int) ≤ (k : Int) := by omega
      obtain ⟨bo, oo, rfl, hbo, r0, r1, r2, r3⟩ := (HOf.out.ext HX.out).at_ hlt
      have HRs : Hid (R = (f (of[k]'hlt) || (of.drop (k + 1)).any f)) := hide (by rw [HRk.out, List.drop_eq_getElem_cons hlt, List.any_cons])
      have HTy := hide (HOa.out _ (List.getElem_mem hlt))
      generalize of[k]'hlt = y at *
      have HSr := hide (fun w' (e : Ext wr w') => And.intro (e.cell r0) (And.intro (e.cell r1) (And.intro (e.cell r2) (e.cell r3))))
      obtain ⟨s0, s1, s2, s3⟩ := HSq.out _ HX.out
      have hblW : bl < wr.heap.size := by have := HX.out.size; omega
      have Hf := hide (congrFun HF.out y)
      cases hcl : (y.cls == q.cls)
      · have hfy : f y = false := by rw [Hf.out, hcl]; rfl
        have hcn : (y.cls != q.cls) = true := by rw [bne, hcl]; rfl
        have HRn : Hid (R = (of.drop (k + 1)).any f) := hide (by rw [HRs.out, hfy]; rfl)
        clear HRs HRk Hf hfy
        go_upto_region 6 with fail
        go_quiet (fail)
        go_wp2
        go_roundw
        case rel => exact ⟨k + 1, hlt, by go_num, HRn, hide (HX.out.drewN nq)⟩
        case measure => simp [intOf]; omega
      · have hcn : (y.cls != q.cls) = false := by rw [bne, hcl]; rfl
        have HCa := hide (fun w' (e : Ext w w') => (HOn.out y HTy.out.1 HTy.out.2 w' e))
        have HRs2 : Hid (R = ((match onT q.ty y.ty m with | some m' => allM l of m' | none => false) || (of.drop (k + 1)).any f)) := hide (by rw [HRs.out, Hf.out, hcl]; rfl)
        clear HRs HRk Hf
        unfold tyV at HCa
        go_upto_region 6 with fail
        go_quiet (fail)
        have XW2 := hide (HX.out.drewN nq)
        obtain ⟨k0, k1, k2, k3⟩ := HSr.out _ ((Ext.refl wr).drewN nq)
        have lk : bo < (wr.drewN nq).heap.size := by have := ((Ext.refl wr).drewN nq).size; omega
        clear s0 s1 s2 s3 hblW r0 r1 r2 r3 hbo HSr
        generalize wr.drewN nq = W2 at *
        obtain ⟨s0, s1, s2, s3⟩ := HSq.out _ XW2.out
        have hblW : bl < W2.heap.size := by have := XW2.out.size; omega
        have HSS := hide (fun w' (e : Ext W2 w') => And.intro (e.cell k0) (And.intro (e.cell k1) (And.intro (e.cell k2) (And.intro (e.cell k3) (And.intro (e.cell s0) (And.intro (e.cell s1) (And.intro (e.cell s2) (e.cell s3))))))))
        go_upto_region 7 with fail
        go_region_held3 (fun w' => w'.cell? ⟨bo, oo + k * 4, none⟩ = some (encStr y.cls) ∧ w'.cell? ⟨bo, oo + k * 4 + 1, none⟩ = some (encStr y.ty.con) ∧ w'.cell? ⟨bo, oo + k * 4 + 2, none⟩ = some (.int .i64 y.ty.var) ∧ w'.cell? ⟨bo, oo + k * 4 + 3, none⟩ = some (.slice y.ty.A y.ty.args.length y.ty.cap) ∧ w'.cell? ⟨bl, ol, none⟩ = some (encStr q.cls) ∧ w'.cell? ⟨bl, ol + 1, none⟩ = some (encStr q.ty.con) ∧ w'.cell? ⟨bl, ol + 2, none⟩ = some (.int .i64 q.ty.var) ∧ w'.cell? ⟨bl, ol + 3, none⟩ = some (.slice q.ty.A q.ty.args.length q.ty.cap)) (first | with_reducible assumption | go_keep) (first
          | (go_at_call 32
             refine Calls.mono (HCa.out _ (XW2.out.trans (by repeat (first | exact Ext.refl _ | exact Ext.pre (by simp) | exact Ext.alloc (by assumption) _ | refine Ext.alloc ?_ _ |  refine Ext.more ?_ _ _ | refine Ext.drew ?_ | refine Ext.drewN ?_ _)))).out ?_
             rintro e z ⟨⟨A', l', c', n', rfl, hok⟩, hxy⟩
             have kS := HSS.out z (by refine Ext.trans ?_ hxy; exact (by repeat (first | exact Ext.refl _ | exact Ext.pre (by simp) | exact Ext.alloc (by assumption) _ | refine Ext.alloc ?_ _ |  refine Ext.more ?_ _ _ | refine Ext.drew ?_ | refine Ext.drewN ?_ _)))
             have XZ : Hid (Ext w z) := hide (XW2.out.trans (by refine Ext.trans ?_ hxy; exact (by repeat (first | exact Ext.refl _ | exact Ext.pre (by simp) | exact Ext.alloc (by assumption) _ | refine Ext.alloc ?_ _ |  refine Ext.more ?_ _ _ | refine Ext.drew ?_ | refine Ext.drewN ?_ _))))))
        all_goals
          clear kS
          generalize onT q.ty y.ty m = O1 at *
          cases O1 with
          | none =>
            obtain rfl := hok.no rfl
            have HRn : Hid (R = (of.drop (k + 1)).any f) := HRs2
            clear HRs2 hok
            go_wp2
            go_roundw
            case rel => exact ⟨k + 1, hlt, by go_num, HRn, XZ⟩
            case measure => simp [intOf]; omega
          | some m2 =>
            obtain ⟨rfl, hB2⟩ := hok.yes m2 rfl
            have HB2 := hide hB2
            have HR2 : Hid (R = (allM l of m2 || (of.drop (k + 1)).any f)) := HRs2
            clear hok hB2 HRs2
            by_cases hc1 : cap = 1
            · have hcA := HC.out
              rw [if_pos hc1] at hcA
              have HCall := hide (HIH.out _ A' l' c' m2 z XZ.out hcA HB2.out)
              have hl0 : l.length = 0 := by omega
              rw [hl0, hc1] at HCall
              have h01' : (1 : Int) ≤ (l.length : Int) + 1 := by omega
              generalize allM l of m2 = B at *
              clear hcA
              go_wp2_with fail
              refine HCall.out.mono ?_
              rintro e z2 ⟨rfl, hx⟩
              have XZ2 := hide (XZ.out.trans hx)
              clear hx HCall hc1 hl0
              cases B
              · have HRn : Hid (R = (of.drop (k + 1)).any f) := HR2
                clear HR2
                go_wp2
                go_roundw
                case rel => exact ⟨k + 1, hlt, by go_num, HRn, XZ2⟩
                case measure => simp [intOf]; omega
              · have hT : R = true := HR2.out
                clear HR2 HR
                subst hT
                go_wp2
                go_ret
                exact ⟨rfl, XZ2.out⟩
            · have hcA : PdsIn w (some ⟨bl, ol + 4, none⟩) l := by
                have := HC.out
                rw [if_neg hc1] at this
                exact this
              have HCall := hide (HIH.out _ A' l' c' m2 z XZ.out hcA HB2.out)
              have h01' : (1 : Int) ≤ (l.length : Int) + 1 := by omega
              have hcp : 1 ≤ cap := by omega
              generalize allM l of m2 = B at *
              clear hcA
              go_wp2_with fail
              refine HCall.out.mono ?_
              rintro e z2 ⟨rfl, hx⟩
              have XZ2 := hide (XZ.out.trans hx)
              clear hx HCall hc1
              cases B
              · have HRn : Hid (R = (of.drop (k + 1)).any f) := HR2
                clear HR2
                go_wp2
                go_roundw
                case rel => exact ⟨k + 1, hlt, by go_num, HRn, XZ2⟩
                case measure => simp [intOf]; omega
              · have hT : R = true := HR2.out
                clear HR2 HR
                subst hT
                go_wp2
                go_ret
                exact ⟨rfl, XZ2.out⟩
    · have hge : ¬ (k : Int) < (of.length : Int) := by omega
      have hF : R = false := by rw [HRk.out, List.drop_eq_nil_of_le (by omega)]; rfl
      clear HRk HR
      subst hF
      go_wp2
      go_ret
      exact ⟨rfl, HX.out⟩
theorem r_rest_nil (O : Option Addr) (oc : Nat) (of : List Pd) : RestCo O oc of [] := by
  intro L A cap la c N m w hL hle hcap hO hlg hm hn
  clear hL hO hlg hm hn
  simp only [List.length_nil]
  go_enter Tryz.func33, Tryz.ntmps33
  go_wp2
  go_ret
  exact ⟨rfl, Ext.refl _⟩
/-- Each of some predicates is one of others: the reference. -/
theorem r_rest21 (O : Option Addr) (oc : Nat) (of : List Pd) (hof : of.length ≤ 1000000000) : ∀ l, RestCo O oc of l
  | [] => r_rest_nil O oc of
  | q :: l => r_rest_cons O oc of hof q l (r_rest21 O oc of hof l)

end Go.Proofs.YtmjiljhcjfnfpaaGreat

/- Contract: a variable's type, of the reference. -/
namespace Go.Proofs.YtmjiljhcjfnfpaaGreat
open Go.RowKit

theorem r_V16 (v : Int) (w : World) : Calls Tryz.prog 31 #[.int .i64 v] w fun e w' => e = .returned (tyV (.mk [] v none 0 [])) ∧ Ext w w' := by
  go_enter Tryz.func31, Tryz.ntmps31
  go_wp2
  refine bodyPost_ret (v := tyV (.mk [] v none 0 [])) ?_ rfl ⟨rfl, (by repeat (first | exact Ext.refl _ | exact Ext.pre (by simp) | exact Ext.alloc (by assumption) _ | refine Ext.alloc ?_ _ |  refine Ext.more ?_ _ _ | refine Ext.drew ?_ | refine Ext.drewN ?_ _))⟩
  simp [results, Tryz.f31, tyV, Ty.con, Ty.var, Ty.A, Ty.args, Ty.cap, go_sem]

end Go.Proofs.YtmjiljhcjfnfpaaGreat

/- Contract of the reference of chapter 21: one scheme is above another one. -/
namespace Go.Proofs.YtmjiljhcjfnfpaaGreat
open Go.RowKit

theorem PrB.set {w' : World} {s : List Pr} {m : Bnd} {N i c' : Nat} {A' : Option Addr} {x : Int} {t : Ty} (hr : RiseP s) (hB : RowB s m) (hN : s.length ≤ N) (hno : putAt (vsP s) (tsP s) x = Option.none) (hi : LbP s x i) (h1 : PrsIn w' A' (insP s i x t)) (h2 : (insP s i x t).length ≤ c') (h3 : c' ≤ 9223372036854775807) : PrB w' A' (insP s i x t).length c' (fun v => if v = x then some t.pure else m v) (N + 1) := by
  have hna : hasAt s x i = false := by
    rw [← Bool.not_eq_true, hasAt_iff hr hi, hno]; simp
  refine ⟨_, rfl, h1, h2, h3, insP_rise hr hi hna, fun y => ?_, by rw [insP_len hi.le]; omega⟩
  rw [insP_at hr hi hna y]
  by_cases e : y = x
  · simp only [e, if_true, Option.map_some]
  · simp only [e, if_false]; exact hB y
/-- The first of some variables have themselves. -/
noncomputable def selfM (F : List Int) : Bnd := fun v => if v ∈ F then some (.mk [] v []) else none
theorem selfM_nil : selfM [] = fun _ => none := by funext v; unfold selfM; simp
theorem selfM_add {F : List Int} {x : Int} {k : Nat} (hk : F.take (k + 1) = F.take k ++ [x]) : (fun v => if v = x then some (Ty.pure (.mk [] x none 0 [])) else selfM (F.take k) v) = selfM (F.take (k + 1)) := by
  funext v
  unfold selfM
  rw [hk]
  by_cases e : v = x
  · subst e
    simp only [if_true, List.mem_append, List.mem_singleton, or_true]
    rw [Ty.pure_eq]
    rfl
  · simp only [e, if_false, List.mem_append, List.mem_singleton, or_false]
theorem frS_nodup (s : Sc) : (frS s).Nodup := by
  unfold frS
  exact List.Pairwise.filter _ (sVars_nodup _ _)

set_option maxRecDepth 10000 in
set_option maxHeartbeats 8000000 in
theorem r_above21 (a b : Sc) (w : World) (ha : ScIn w a) (hb : ScIn w b) (hla : a.preds.length ≤ 40000) (hlb : b.preds.length ≤ 40000) (hza : a.ty.size + psz a.preds ≤ 20000) (hzb : b.ty.size + psz b.preds ≤ 20000) :
    Calls Tryz.prog 11 #[scV a, scV b] w fun e w' => e = .returned (.bool (abvB a b)) ∧ Ext w w' := by
  obtain ⟨W, hW⟩ : ∃ W, W = (w.alloc (.cells #[.int .i64 a.n, .slice a.A a.preds.length a.cap, encStr a.ty.con, .int .i64 a.ty.var, .slice a.ty.A a.ty.args.length a.ty.cap] 27)).alloc (.cells #[.int .i64 b.n, .slice b.A b.preds.length b.cap, encStr b.ty.con, .int .i64 b.ty.var, .slice b.ty.A b.ty.args.length b.ty.cap] 27) := ⟨_, rfl⟩
  have HW := hide hW.symm
  have X0 : Hid (Ext w W) := hide (by rw [hW]; exact ((Ext.refl _).alloc _).alloc _)
  have B1 : Hid (ScBox W w.heap.size a) := hide (by rw [hW]; exact (ScBox.new w a).ext ((Ext.refl _).alloc _))
  have B2 : Hid (ScBox W (w.heap.size + 1) b) := hide (by rw [hW]; exact at_newB _ _ _ (by simp))
  have HV16 : Hid (∀ (v : Int) (w : World), Calls Tryz.prog 31 #[.int .i64 v] w fun e w' => e = .returned (.agg #[.string ⟨#[]⟩, .int .i64 v, .slice none 0 0]) ∧ Ext w w') := hide (fun v w => r_V16 v w)
  have HLa := hide (fun w' (e : Ext W w') => hide (r_legal21 a w' (ha.ext (X0.out.trans e)) hla (by omega)))
  have HLb := hide (fun w' (e : Ext W w') => hide (r_legal21 b w' (hb.ext (X0.out.trans e)) hlb (by omega)))
  have HFr := hide (fun w' (e : Ext W w') => hide (r_free21 a w' (ha.ext (X0.out.trans e)) hla (by omega)))
  have HOn := hide (fun (hlg : legalT b.ty = true) m A l c n w' (e : Ext W w') (hm : PrB w' A l c m n) (hn : n + a.ty.size ≤ 100000) => hide (r_on19 a.ty b.ty A l c n m w' (ha.ty.ext (X0.out.trans e)) (hb.ty.ext (X0.out.trans e)) hlg hm hn))
  have HAl := hide (fun (hlg : ∀ r ∈ b.preds, legalT r.ty = true) m A l c n w' (e : Ext W w') (hm : PrB w' A l c m n) (hn : n + psz a.preds ≤ 100000) => hide (r_rest21 b.A b.cap b.preds (by omega) a.preds a.A A a.cap l c n m w' (ha.row.ext (X0.out.trans e)) ha.le ha.max (hb.row.ext (X0.out.trans e)) hlg hm hn))
  have hFl : (frS a).length ≤ 20000 := by
    unfold frS
    exact Nat.le_trans (List.length_filter_le _ _) (Nat.le_trans (sVars_len _ _) hza)
  have HNd := hide (frS_nodup a)
  have HM0 : Hid (selfM (frS a) = m0S a) := hide rfl
  have HSb : Hid (scB b = true → legalT b.ty = true ∧ ∀ r ∈ b.preds, legalT r.ty = true) := hide (fun h => ⟨(scB_leg h).ty, fun r hr => pdB_ty ((scB_leg h).ps r hr)⟩)
  obtain ⟨R, hR⟩ : ∃ R, R = abvB a b := ⟨_, rfl⟩
  have HR : Hid (R = (scB a && scB b && lastB (onT a.ty b.ty (m0S a)) a.preds b.preds)) := hide hR
  rw [← hR]
  have hsz1 : a.ty.size ≤ 20000 := by omega
  have hsz2 : a.ty.size + psz a.preds ≤ 20000 := by omega
  clear hR hW ha hb hza hzb hla hlb
  obtain ⟨O1, hO1⟩ : ∃ O1, O1 = onT a.ty b.ty (m0S a) := ⟨_, rfl⟩
  rw [← hO1] at HR
  have HO1 := hide hO1
  clear hO1
  generalize m0S a = M0 at *
  generalize frS a = F at *
  unfold scV at *
  unfold tyV at HOn
  obtain ⟨c0, c1, c2, c3, c4⟩ := B1.out.cells
  have lc := B1.out.lt
  go_enter Tryz.func11, Tryz.ntmps11
  go_upto_region 1 with fail
  rw [HW.out]
  clear HW
  go_wp2_with fail
  refine (HLa.out _ (Ext.refl W)).out.mono ?_
  rintro e w1 ⟨rfl, hx⟩
  have X1 := hide hx
  clear hx c0 c1 c2 c3 c4 lc HLa
  cases hsa : scB a
  · have hF : R = false := by rw [HR.out, hsa]; rfl
    clear HR
    subst hF
    go_wp2
    go_ret
    exact ⟨rfl, X0.out.trans X1.out⟩
  obtain ⟨d0, d1, d2, d3, d4⟩ := (B2.out.ext X1.out).cells
  have ld := (B2.out.ext X1.out).lt
  go_wp2_with fail
  refine (HLb.out _ X1.out).out.mono ?_
  rintro e w2 ⟨rfl, hx⟩
  have X2 := hide (X1.out.trans hx)
  clear hx d0 d1 d2 d3 d4 ld HLb X1
  cases hsb : scB b
  · have hF : R = false := by rw [HR.out, hsa, hsb]; rfl
    clear HR
    subst hF
    go_wp2
    go_ret
    exact ⟨rfl, X0.out.trans X2.out⟩
  have HR2 : Hid (R = lastB O1 a.preds b.preds) := hide (by rw [HR.out, hsa, hsb]; rfl)
  have HSb2 := hide (HSb.out hsb)
  clear HR hsa hsb HSb
  obtain ⟨c0, c1, c2, c3, c4⟩ := (B1.out.ext X2.out).cells
  have lc := (B1.out.ext X2.out).lt
  go_wp2_with fail
  refine (HFr.out _ X2.out).out.mono ?_
  rintro e w4 ⟨⟨A4, k4, rfl, p1, p2, p3⟩, hx⟩
  have X4 := hide (X2.out.trans hx)
  have HI4 := hide p3
  clear hx p3 c0 c1 c2 c3 c4 lc HFr
  go_wp2
  go_loopw [5, 7] (fun s0 i wr => ∃ (k : Nat) (A : Option Addr) (l c : Nat), k ≤ F.length ∧ s0 = .slice A l c ∧ i = .int .i64 k ∧ Hid (PrB wr A l c (selfM (F.take k)) k) ∧ Hid (Ext w4 wr)) (fun _ i _ => F.length - (intOf i).toNat)
  case atStart => exact ⟨0, none, 0, 0, Nat.zero_le _, rfl, rfl, hide (by rw [List.take_zero, selfM_nil]; exact PrB.none _), hide (Ext.refl _)⟩
  case round =>
    obtain ⟨k, A, l, c, hk, rfl, rfl, HP, HX⟩ := hrel
    have HIr : Hid (Ints wr A4 F) := hide (RowOf.ext intC HI4.out HX.out)
    have XR : Hid (Ext W wr) := hide (X4.out.trans HX.out)
    by_cases hlt : k < F.length
    · have hlt' : (k : Int) < (F.length : Int) := by omega
      have hk0 : (0 : Int) ≤ (k : Int) := by omega
      obtain ⟨bi, oi, rfl, hbi, hci⟩ := Ints.at_ HIr.out hlt
      have Htk := hide (List.take_succ_eq_append_getElem hlt)
      have hnot : F[k]'hlt ∉ F.take k := by
        intro h
        obtain ⟨j, hj, e⟩ := List.mem_iff_getElem.1 h
        rw [List.getElem_take] at e
        rw [List.length_take] at hj
        have a1 := HNd.out.idxOf_getElem j (by omega)
        have a2 := HNd.out.idxOf_getElem k hlt
        rw [e] at a1
        omega
      generalize F[k]'hlt = x at *
      obtain ⟨s, rfl, hS, hle, hmx, hr, hB, hN⟩ := HP.out
      have hno : putAt (vsP s) (tsP s) x = none := by
        have h := hB x
        unfold selfM at h
        rw [if_neg hnot] at h
        cases hp : putAt (vsP s) (tsP s) x with
        | none => rfl
        | some u => rw [hp] at h; cases h
      have HSet := hide (fun w' (e : Ext wr w') => hide (r_set17 A c s x (.mk [] x none 0 []) w' (hS.ext e) hle hmx hr (TyIn.of (Nat.zero_le _) (by omega) (by decide) (RowOf.nil _ _ _) (by simp)) (by rw [Ty.size_eq]; show 0 + 1 ≤ 900000; omega) (legal_var _ _ _) (by omega) hno))
      have HNx : Hid (∀ (w' : World) i A' c', LbP s x i → PrsIn w' A' (insP s i x (.mk [] x none 0 [])) → (insP s i x (.mk [] x none 0 [])).length ≤ c' → c' ≤ 9223372036854775807 → PrB w' A' (insP s i x (.mk [] x none 0 [])).length c' (selfM (F.take (k + 1))) (k + 1)) := hide (fun w' i A' c' hi h1 h2 h3 => by
        have := PrB.set (w' := w') hr hB hN hno hi h1 h2 h3
        rwa [selfM_add Htk.out] at this)
      have HCi := hide (fun w' (e : Ext wr w') => e.cell hci)
      unfold tyV at HSet
      simp only [Ty.con, Ty.var, Ty.A, Ty.cap, Ty.args, List.length_nil, encStr] at HSet
      clear HP hS hr hB hno hnot Htk hN
      go_upto_region 8 with fail
      go_region_held3 (fun w' => w'.cell? ⟨bi, oi + k, none⟩ = some (.int .i64 x)) (first | with_reducible assumption | go_keep) (first
        | (go_at_call 31
           refine Calls.mono (HV16.out _ _) ?_
           rintro e y1 ⟨rfl, hx1⟩
           have Y1 : Hid (Ext wr y1) := hide (by refine Ext.trans ?_ hx1; exact (by repeat (first | exact Ext.refl _ | exact Ext.pre (by simp) | exact Ext.alloc (by assumption) _ | refine Ext.alloc ?_ _ |  refine Ext.more ?_ _ _ | refine Ext.drew ?_ | refine Ext.drewN ?_ _)))
           have kS := HCi.out _ Y1.out
           clear hx1)
        | (go_at_call 30
           with_reducible refine Calls.mono (HSet.out _ ?e).out ?_
           case e => (refine Ext.trans Y1.out ?_; (repeat (first | exact Ext.refl _ | exact Ext.pre (by simp) | exact Ext.alloc (by assumption) _ | refine Ext.alloc ?_ _ | refine Ext.more ?_ _ _ | refine Ext.drew ?_ | refine Ext.drewN ?_ _)); done)
           rintro e y2 ⟨⟨i, A', c', rfl, hlb, h1, h2, h3⟩, hx2⟩
           have Y2 : Hid (Ext wr y2) := hide (by refine Ext.trans ?_ hx2; (refine Ext.trans Y1.out ?_; (repeat (first | exact Ext.refl _ | exact Ext.pre (by simp) | exact Ext.alloc (by assumption) _ | refine Ext.alloc ?_ _ | refine Ext.more ?_ _ _ | refine Ext.drew ?_ | refine Ext.drewN ?_ _)); done))
           have HN := hide (HNx.out _ _ _ _ hlb h1 h2 h3)
           have kS := HCi.out _ Y2.out
           clear hx2 hlb h1 h2 h3))
      all_goals
        generalize (insP s i x (.mk [] x none 0 [])).length = L at *
        go_wp2
        go_roundw
        case rel => exact ⟨k + 1, A', L, c', hlt, rfl, by go_num, HN, hide (HX.out.trans Y2.out)⟩
        case measure => simp [intOf]; omega
    · have hge : ¬ (k : Int) < (F.length : Int) := by omega
      have hkF : k = F.length := by omega
      have HB : Hid (PrB wr A l c M0 k) := hide (by have := HP.out; rwa [hkF, List.take_length, HM0.out, ← hkF] at this)
      have HC := hide (HOn.out HSb2.out.1 M0 A l c k wr XR.out HB.out (by omega))
      rw [← HO1.out] at HC
      obtain ⟨c0, c1, c2, c3, c4⟩ := (B1.out.ext XR.out).cells
      have lc := (B1.out.ext XR.out).lt
      obtain ⟨d0, d1, d2, d3, d4⟩ := (B2.out.ext XR.out).cells
      have ld := (B2.out.ext XR.out).lt
      clear hkF
      go_wp2_with fail
      refine HC.out.mono ?_
      rintro e z ⟨⟨A', l', c', n', rfl, hok⟩, hx⟩
      have XZ := hide (XR.out.trans hx)
      clear hx c0 c1 c2 c3 c4 lc d0 d1 d2 d3 d4 ld HC
      cases O1 with
      | none =>
        obtain rfl := hok.no rfl
        have hF : R = false := HR2.out
        clear HR2 hok
        subst hF
        go_wp2
        go_ret
        exact ⟨rfl, X0.out.trans XZ.out⟩
      | some m2 =>
        obtain ⟨rfl, hB2⟩ := hok.yes m2 rfl
        have HCa := hide (HAl.out HSb2.out.2 m2 A' l' c' _ z XZ.out hB2 (by omega))
        have hR3 : R = allM a.preds b.preds m2 := HR2.out
        rw [← hR3] at HCa
        clear hok hB2 HR2 hR3
        obtain ⟨c0, c1, c2, c3, c4⟩ := (B1.out.ext XZ.out).cells
        have lc := (B1.out.ext XZ.out).lt
        obtain ⟨d0, d1, d2, d3, d4⟩ := (B2.out.ext XZ.out).cells
        have ld := (B2.out.ext XZ.out).lt
        go_wp2_with fail
        refine HCa.out.out.mono ?_
        rintro e z2 ⟨rfl, hx⟩
        have XZ2 := hide (XZ.out.trans hx)
        clear hx
        go_wp2
        go_ret
        exact ⟨rfl, X0.out.trans XZ2.out⟩

end Go.Proofs.YtmjiljhcjfnfpaaGreat

/- Contract: chapter 21's law of two schemes. (A program of ours has printed this.) -/
namespace Go.Proofs.YtmjiljhcjfnfpaaGreat
open Go.RowKit

set_option maxRecDepth 10000 in
set_option maxHeartbeats 8000000 in
theorem l_two21 (a b : Sc) (w : World) (ha : ScIn w a) (hb : ScIn w b) (hoka : okS a) (_hokb : okS b) :
    Calls Tryz.prog 3 #[scV a, scV b] w fun e w' => e = .returned (.bool true) ∧ Ext w w' := by
  obtain ⟨W, hW⟩ : ∃ W, W = (w.alloc (.cells #[.int .i64 a.n, .slice a.A a.preds.length a.cap, encStr a.ty.con, .int .i64 a.ty.var, .slice a.ty.A a.ty.args.length a.ty.cap] 27)).alloc (.cells #[.int .i64 b.n, .slice b.A b.preds.length b.cap, encStr b.ty.con, .int .i64 b.ty.var, .slice b.ty.A b.ty.args.length b.ty.cap] 27) := ⟨_, rfl⟩
  have HW := hide hW.symm
  have X0 : Hid (Ext w W) := hide (by rw [hW]; exact ((Ext.refl _).alloc _).alloc _)
  have B1 : Hid (ScBox W w.heap.size a) := hide (by rw [hW]; exact (ScBox.new w a).ext ((Ext.refl _).alloc _))
  have B2 : Hid (ScBox W (w.heap.size + 1) b) := hide (by rw [hW]; exact at_newB _ _ _ (by simp))
  have HFa := hide (l_few21 a W (ha.ext X0.out))
  have HFb := hide (fun w' (e : Ext W w') => l_few21 b w' (hb.ext (X0.out.trans e)))
  have HA := hide ha
  have HB := hide hb
  have Hoka := hide hoka
  obtain ⟨c0, c1, c2, c3, c4⟩ := B1.out.cells
  have lc := B1.out.lt
  clear hW ha hb hoka
  unfold scV at *
  go_enter Tryz.func3, Tryz.ntmps3
  go_upto_region 1 with fail
  rw [HW.out]
  clear HW
  go_wp2_with fail
  refine HFa.out.mono ?_
  rintro e w1 ⟨⟨r, rfl, hr⟩, hx⟩
  have X1 := hide hx
  clear hx HFa c0 c1 c2 c3 c4 lc
  rcases hr with rfl | ⟨rfl, hpa, -, hsa⟩
  · go_wp2_with fail
    refine (l_awake21 _).mono ?_
    rintro e v ⟨rfl, hz⟩
    go_wp2
    go_ret
    exact ⟨rfl, X0.out.trans (X1.out.trans hz)⟩
  obtain ⟨d0, d1, d2, d3, d4⟩ := (B2.out.ext X1.out).cells
  have ld := (B2.out.ext X1.out).lt
  go_wp2_with fail
  refine (HFb.out _ X1.out).mono ?_
  rintro e w2 ⟨⟨r, rfl, hr⟩, hx⟩
  have X2 := hide (X1.out.trans hx)
  clear hx HFb d0 d1 d2 d3 d4 ld X1
  rcases hr with rfl | ⟨rfl, hpb, -, hsb⟩
  · go_wp2_with fail
    refine (l_awake21 _).mono ?_
    rintro e v ⟨rfl, hz⟩
    go_wp2
    go_ret
    exact ⟨rfl, X0.out.trans (X2.out.trans hz)⟩
  have HSab := hide (fun w' (e : Ext W w') => hide (s_same a b w' (HA.out.ext (X0.out.trans e)) (HB.out.ext (X0.out.trans e)) (by omega) (by omega) (by omega) (by omega)))
  have HRab := hide (fun w' (e : Ext W w') => hide (r_same21 a b w' (HA.out.ext (X0.out.trans e)) (HB.out.ext (X0.out.trans e)) (by omega) (by omega) hsa hsb))
  have HAab := hide (fun w' (e : Ext W w') => hide (s_above a b w' (HA.out.ext (X0.out.trans e)) (HB.out.ext (X0.out.trans e)) (by omega) (by omega) (by omega) (by omega) Hoka.out))
  have HRAb := hide (fun w' (e : Ext W w') => hide (r_above21 a b w' (HA.out.ext (X0.out.trans e)) (HB.out.ext (X0.out.trans e)) (by omega) (by omega) hsa hsb))
  have HS := hide (fun w' (e : Ext W w') => (And.intro (B1.out.ext e).cells.1 (And.intro (B1.out.ext e).cells.2.1 (And.intro (B1.out.ext e).cells.2.2.1 (And.intro (B1.out.ext e).cells.2.2.2.1 (And.intro (B1.out.ext e).cells.2.2.2.2 (B2.out.ext e).cells))))))
  generalize sameS a b = M at *
  generalize abvB a b = U at *
  unfold scV at *
  obtain ⟨c0, c1, c2, c3, c4⟩ := (B1.out.ext X2.out).cells
  have lc := (B1.out.ext X2.out).lt
  obtain ⟨d0, d1, d2, d3, d4⟩ := (B2.out.ext X2.out).cells
  have ld := (B2.out.ext X2.out).lt
  go_upto_region 3 with fail
  go_region_held3 (fun w' => w'.cell? ⟨w.heap.size, 0, none⟩ = some (.int .i64 a.n) ∧ w'.cell? ⟨w.heap.size, 1, none⟩ = some (.slice a.A a.preds.length a.cap) ∧ w'.cell? ⟨w.heap.size, 2, none⟩ = some (encStr a.ty.con) ∧ w'.cell? ⟨w.heap.size, 3, none⟩ = some (.int .i64 a.ty.var) ∧ w'.cell? ⟨w.heap.size, 4, none⟩ = some (.slice a.ty.A a.ty.args.length a.ty.cap) ∧ w'.cell? ⟨w.heap.size + 1, 0, none⟩ = some (.int .i64 b.n) ∧ w'.cell? ⟨w.heap.size + 1, 1, none⟩ = some (.slice b.A b.preds.length b.cap) ∧ w'.cell? ⟨w.heap.size + 1, 2, none⟩ = some (encStr b.ty.con) ∧ w'.cell? ⟨w.heap.size + 1, 3, none⟩ = some (.int .i64 b.ty.var) ∧ w'.cell? ⟨w.heap.size + 1, 4, none⟩ = some (.slice b.ty.A b.ty.args.length b.ty.cap))
     (exact HS.out _ (by repeat (first | with_reducible exact Y5.out | with_reducible exact Y4.out | with_reducible exact Y3.out | with_reducible exact Y2.out | with_reducible exact Y1.out | with_reducible exact X2.out | with_reducible refine Ext.drew ?_)))
     (first
    | (go_at_call 8
       with_reducible refine Calls.mono (HSab.out _ ?e).out ?_
       case e => (refine Ext.trans X2.out ?_; (repeat (first | exact Ext.refl _ | exact Ext.pre (by simp) | exact Ext.alloc (by assumption) _ | refine Ext.alloc ?_ _ | refine Ext.more ?_ _ _ | refine Ext.drew ?_ | refine Ext.drewN ?_ _)); done)
       rintro e y1 ⟨rfl, hx1⟩
       have Y1 : Hid (Ext W y1) := hide (by refine Ext.trans ?_ hx1; (refine Ext.trans X2.out ?_; (repeat (first | exact Ext.refl _ | exact Ext.pre (by simp) | exact Ext.alloc (by assumption) _ | refine Ext.alloc ?_ _ | refine Ext.more ?_ _ _ | refine Ext.drew ?_ | refine Ext.drewN ?_ _)); done))
       clear hx1)
    | (go_at_call 9
       with_reducible refine Calls.mono (HRab.out _ ?e).out ?_
       case e => (refine Ext.trans Y1.out ?_; (repeat (first | exact Ext.refl _ | exact Ext.pre (by simp) | exact Ext.alloc (by assumption) _ | refine Ext.alloc ?_ _ | refine Ext.more ?_ _ _ | refine Ext.drew ?_ | refine Ext.drewN ?_ _)); done)
       rintro e y2 ⟨rfl, hx2⟩
       have Y2 : Hid (Ext W y2) := hide (by refine Ext.trans ?_ hx2; (refine Ext.trans Y1.out ?_; (repeat (first | exact Ext.refl _ | exact Ext.pre (by simp) | exact Ext.alloc (by assumption) _ | refine Ext.alloc ?_ _ | refine Ext.more ?_ _ _ | refine Ext.drew ?_ | refine Ext.drewN ?_ _)); done))
       clear hx2)
    | (go_at_call 10
       with_reducible refine Calls.mono (HAab.out _ ?e).out ?_
       case e => (refine Ext.trans Y2.out ?_; (repeat (first | exact Ext.refl _ | exact Ext.pre (by simp) | exact Ext.alloc (by assumption) _ | refine Ext.alloc ?_ _ | refine Ext.more ?_ _ _ | refine Ext.drew ?_ | refine Ext.drewN ?_ _)); done)
       rintro e y3 ⟨rfl, hx3⟩
       have Y3 : Hid (Ext W y3) := hide (by refine Ext.trans ?_ hx3; (refine Ext.trans Y2.out ?_; (repeat (first | exact Ext.refl _ | exact Ext.pre (by simp) | exact Ext.alloc (by assumption) _ | refine Ext.alloc ?_ _ | refine Ext.more ?_ _ _ | refine Ext.drew ?_ | refine Ext.drewN ?_ _)); done))
       clear hx3)
    | (go_at_call 11
       with_reducible refine Calls.mono (HRAb.out _ ?e).out ?_
       case e => (refine Ext.trans Y3.out ?_; (repeat (first | exact Ext.refl _ | exact Ext.pre (by simp) | exact Ext.alloc (by assumption) _ | refine Ext.alloc ?_ _ | refine Ext.more ?_ _ _ | refine Ext.drew ?_ | refine Ext.drewN ?_ _)); done)
       rintro e y4 ⟨rfl, hx4⟩
       have Y4 : Hid (Ext W y4) := hide (by refine Ext.trans ?_ hx4; (refine Ext.trans Y3.out ?_; (repeat (first | exact Ext.refl _ | exact Ext.pre (by simp) | exact Ext.alloc (by assumption) _ | refine Ext.alloc ?_ _ | refine Ext.more ?_ _ _ | refine Ext.drew ?_ | refine Ext.drewN ?_ _)); done))
       clear hx4)
    | (go_at_call 7
       refine Calls.mono (l_awake21 _) ?_
       rintro e y5 ⟨rfl, hx5⟩
       have Y5 : Hid (Ext W y5) := hide (by refine Ext.trans ?_ hx5; (refine Ext.trans Y4.out ?_; (repeat (first | exact Ext.refl _ | exact Ext.pre (by simp) | exact Ext.alloc (by assumption) _ | refine Ext.alloc ?_ _ | refine Ext.more ?_ _ _ | refine Ext.drew ?_ | refine Ext.drewN ?_ _)); done))
       clear hx5))
  all_goals (go_wp2_with fail; go_ret)
  all_goals exact ⟨by first | rfl | simp, X0.out.trans Y5.out⟩

end Go.Proofs.YtmjiljhcjfnfpaaGreat
