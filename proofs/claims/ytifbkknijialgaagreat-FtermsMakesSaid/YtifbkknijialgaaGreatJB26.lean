/- The values of chapter 31's example: plain facts. -/
import Derived.Test.YtifbkknijialgaaGreatJB25
import Derived.Deep.DeepCutAuto
/- The values of chapter 31's example: plain facts. -/
namespace Go.Proofs.YtifbkknijialgaaGreat
open Go.RowKit

theorem inv0 {t : Ty} {s : Str} {v : Int} (h : t.pure = .mk s v []) : ∃ A c, t = .mk s v A c [] := by
  cases t with
  | mk s' v' A c l =>
  rw [Ty.pure_eq] at h
  injection h with h1 h2 h3
  have h1' : s' = s := h1
  have h2' : v' = v := h2
  have h3' : l = [] := List.map_eq_nil_iff.1 h3
  subst h1' h2' h3'
  exact ⟨A, c, rfl⟩
theorem inv1 {t : Ty} {s : Str} {v : Int} {p : Ty.Pure} (h : t.pure = .mk s v [p]) : ∃ A c a, t = .mk s v A c [a] ∧ a.pure = p := by
  cases t with
  | mk s' v' A c l =>
  rw [Ty.pure_eq] at h
  injection h with h1 h2 h3
  have h1' : s' = s := h1
  have h2' : v' = v := h2
  have h3' : l.map Ty.pure = [p] := h3
  subst h1' h2'
  match l, h3' with
  | [a], h => simp at h; exact ⟨A, c, a, rfl, h⟩
theorem inv2 {t : Ty} {s : Str} {v : Int} {p q : Ty.Pure} (h : t.pure = .mk s v [p, q]) : ∃ A c a b, t = .mk s v A c [a, b] ∧ a.pure = p ∧ b.pure = q := by
  cases t with
  | mk s' v' A c l =>
  rw [Ty.pure_eq] at h
  injection h with h1 h2 h3
  have h1' : s' = s := h1
  have h2' : v' = v := h2
  have h3' : l.map Ty.pure = [p, q] := h3
  subst h1' h2'
  match l, h3' with
  | [a, b], h => simp at h; exact ⟨A, c, a, b, rfl, h.1, h.2⟩

/-- The scheme of the example. -/
def exSc (b : Nat) : Sc := ⟨1, some ⟨b, 0, none⟩, 1, [⟨[67], Ty.zero⟩], Ty.zero⟩
theorem zero_legal : legalT Ty.zero = true := by
  unfold legalT
  rw [zero_size, zero_depth, zero_shape]
  rfl
theorem ex_pd : pdB ⟨[67], Ty.zero⟩ = true := by
  unfold pdB
  rw [zero_legal]
  decide
theorem zero_vars : Ty.zero.vars = [0] := by rw [vars_eq]; rfl
theorem ex_scB (b : Nat) : scB (exSc b) = true := by
  unfold scB sVars pvars pvarsAll
  have h1 : legalT (exSc b).ty = true := zero_legal
  have h2 : (exSc b).preds.all pdB = true := by show ([⟨[67], Ty.zero⟩] : List Pd).all pdB = true; rw [List.all_cons, ex_pd]; rfl
  rw [h1, h2]
  show (true && true && decide ((0 : Int) ≤ 1) && decide ((1 : Int) ≤ 4096) && ([0] : List Nat).all fun i => (onceI ((([⟨[], Ty.zero⟩, ⟨[67], Ty.zero⟩] : List Pd).map fun p => onceI p.ty.vars).flatten)).any (· == (i : Int))) = true
  simp only [List.map_cons, List.map_nil, zero_vars]
  decide
theorem ex_vs (b : Nat) : ofVs (exSc b) = [0] := by unfold ofVs; rw [ex_scB]; rfl
theorem ex_ty (b : Nat) : ofTyP (exSc b) = .mk [45, 62] 0 [.mk [123, 67, 125] 0 [.mk [] 0 []], .mk [] 0 []] := by
  unfold ofTyP
  rw [ex_scB, if_pos rfl]
  show funPP [dictP [67] Ty.zero.pure] Ty.zero.pure = _
  rw [zero_pure]
  rfl

theorem putP_con {vars : List Int} {types : List Ty} {t : Ty} (h : t.con ≠ []) : putP vars types t = .mk t.con t.var (t.args.map (putP vars types)) := by rw [putP_eq, if_neg h]
/-- The type of the example, of a variable. -/
def exT (v : Int) (A : Option Addr) (c : Nat) (A1 : Option Addr) (c1 : Nat) (A2 : Option Addr) (c2 : Nat) (A3 : Option Addr) (c3 : Nat) : Ty :=
  .mk [45, 62] 0 A c [.mk [123, 67, 125] 0 A1 c1 [.mk [] v A2 c2 []], .mk [] v A3 c3 []]
theorem exT_of {t : Ty} {v : Int} (h : t.pure = .mk [45, 62] 0 [.mk [123, 67, 125] 0 [.mk [] v []], .mk [] v []]) : ∃ A c A1 c1 A2 c2 A3 c3, t = exT v A c A1 c1 A2 c2 A3 c3 := by
  obtain ⟨A, c, a, b, rfl, ha, hb⟩ := inv2 h
  obtain ⟨A1, c1, d, rfl, hd⟩ := inv1 ha
  obtain ⟨A2, c2, rfl⟩ := inv0 hd
  obtain ⟨A3, c3, rfl⟩ := inv0 hb
  exact ⟨A, c, A1, c1, A2, c2, A3, c3, rfl⟩
section
variable (v : Int) (A : Option Addr) (c : Nat) (A1 : Option Addr) (c1 : Nat) (A2 : Option Addr) (c2 : Nat) (A3 : Option Addr) (c3 : Nat)
theorem lf_size : (Ty.mk [] v A2 c2 []).size = 1 := by rw [Ty.size_eq]; rfl
theorem lf_depth : (Ty.mk [] v A2 c2 []).depth = 1 := by rw [Ty.depth_eq]; rfl
theorem lf_vars : (Ty.mk [] v A2 c2 []).vars = [v] := by rw [vars_eq]; rfl
theorem lf_shapeD : shapeD (Ty.mk [] v A2 c2 []) = true := by
  rw [shapeD_eq]
  show ((dictB (Ty.mk [] v A2 c2 []) || headOk [] v 0) && true) = true
  rw [show headOk [] v 0 = true from rfl]
  simp
theorem lf_text : textT (Ty.mk [] v A2 c2 []) = varS v := by
  rw [textT_else (by rintro ⟨h, -⟩; cases h)]
  show (if ([] : Str) = [] then varS v else []) ++ restT [] = _
  simp [restT]
theorem exT_size : (exT v A c A1 c1 A2 c2 A3 c3).size = 4 := by
  unfold exT
  rw [Ty.size_eq]
  show ([Ty.mk [123, 67, 125] 0 A1 c1 [.mk [] v A2 c2 []], .mk [] v A3 c3 []].map Ty.size).sum + 1 = 4
  rw [List.map_cons, List.map_cons, lf_size, Ty.size_eq]
  show (([Ty.mk [] v A2 c2 []].map Ty.size).sum + 1 + (1 + 0)) + 1 = 4
  rw [List.map_cons, lf_size]
  rfl
theorem exT_depth : (exT v A c A1 c1 A2 c2 A3 c3).depth = 3 := by
  unfold exT
  rw [Ty.depth_eq]
  show ([Ty.mk [123, 67, 125] 0 A1 c1 [.mk [] v A2 c2 []], .mk [] v A3 c3 []].map Ty.depth).foldr max 0 + 1 = 3
  rw [List.map_cons, List.map_cons, lf_depth, Ty.depth_eq]
  show (List.foldr max 0 [([Ty.mk [] v A2 c2 []].map Ty.depth).foldr max 0 + 1, 1]) + 1 = 3
  rw [List.map_cons, lf_depth]
  rfl
theorem exT_shape : shapeD (exT v A c A1 c1 A2 c2 A3 c3) = true := by
  unfold exT
  rw [shapeD_eq]
  show ((dictB _ || headOk [45, 62] 0 2) && [Ty.mk [123, 67, 125] 0 A1 c1 [.mk [] v A2 c2 []], .mk [] v A3 c3 []].all shapeD) = true
  rw [List.all_cons, List.all_cons, lf_shapeD, shapeD_eq]
  show ((dictB _ || headOk [45, 62] 0 2) && ((dictB (Ty.mk [123, 67, 125] 0 A1 c1 [.mk [] v A2 c2 []]) || headOk _ _ _) && [Ty.mk [] v A2 c2 []].all shapeD && (true && true))) = true
  rw [List.all_cons, lf_shapeD, show headOk [45, 62] 0 2 = true from rfl, show dictB (Ty.mk [123, 67, 125] 0 A1 c1 [.mk [] v A2 c2 []]) = true from by unfold dictB; show (!(classS [123, 67, 125] == []) && (1 == 1) && ((0 : Int) == 0)) = true; decide]
  simp
theorem exT_legal : legalD (exT v A c A1 c1 A2 c2 A3 c3) = true := by
  unfold legalD
  rw [exT_size, exT_depth, exT_shape]
  rfl
theorem exT_term : legalT (exT v A c A1 c1 A2 c2 A3 c3) = false := by
  unfold legalT
  have : shapeT (exT v A c A1 c1 A2 c2 A3 c3) = false := by
    unfold exT
    rw [shapeT_eq]
    show (headOk [45, 62] 0 2 && [Ty.mk [123, 67, 125] 0 A1 c1 [.mk [] v A2 c2 []], .mk [] v A3 c3 []].all shapeT) = false
    rw [List.all_cons, shapeT_eq]
    show (headOk [45, 62] 0 2 && (headOk [123, 67, 125] 0 1 && _ && _)) = false
    rw [show headOk [123, 67, 125] 0 1 = false from by decide]
    simp
  rw [this, Bool.and_false]
theorem exT_vars : (exT v A c A1 c1 A2 c2 A3 c3).vars = [v, v] := by
  unfold exT
  rw [vars_eq]
  show ([] : List Int) ++ ([Ty.mk [123, 67, 125] 0 A1 c1 [.mk [] v A2 c2 []], .mk [] v A3 c3 []].map Ty.vars).flatten = [v, v]
  rw [List.map_cons, List.map_cons, lf_vars, vars_eq]
  show ([] : List Int) ++ [([] : List Int) ++ ([Ty.mk [] v A2 c2 []].map Ty.vars).flatten, [v]].flatten = [v, v]
  rw [List.map_cons, lf_vars]
  rfl
theorem exT_text : textT (exT v A c A1 c1 A2 c2 A3 c3) = ([123, 67, 125, 32] : Str) ++ varS v ++ ([32, 45, 62, 32] : Str) ++ varS v := by
  unfold exT
  have hd : textT (Ty.mk [123, 67, 125] 0 A1 c1 [.mk [] v A2 c2 []]) = ([123, 67, 125, 32] : Str) ++ varS v := by
    rw [textT_else (by rintro ⟨h, -⟩; cases h)]
    show (if ([123, 67, 125] : Str) = [] then varS 0 else [123, 67, 125]) ++ restT [Ty.mk [] v A2 c2 []] = _
    unfold restT
    rw [List.map_cons, lf_text]
    simp [brack, Ty.args]
  rw [textT_fun rfl (by show 0 < 2; decide) (by show 1 < 2; decide) rfl]
  show brack (decide (([123, 67, 125] : Str) = [45, 62])) (textT (Ty.mk [123, 67, 125] 0 A1 c1 [.mk [] v A2 c2 []])) ++ ([32, 45, 62, 32] : Str) ++ textT (Ty.mk [] v A3 c3 []) = _
  rw [hd, lf_text]
  rfl
theorem exT_ok (h0 : -9223372036854775808 ≤ v) (h1 : v ≤ 9223372036854775807) : okI (exT v A c A1 c1 A2 c2 A3 c3) = true := by
  have hl : ∀ B k, okI (Ty.mk [] v B k []) = true := fun B k => okI_mk h0 h1 (by decide) (by simp)
  refine okI_mk (by decide) (by decide) (by decide) (fun k hk => ?_)
  simp at hk
  rcases hk with rfl | rfl
  · exact okI_mk (by decide) (by decide) (by decide) (fun k hk => by simp at hk; subst hk; exact hl _ _)
  · exact hl _ _
theorem exT_pure : (exT v A c A1 c1 A2 c2 A3 c3).pure = .mk [45, 62] 0 [.mk [123, 67, 125] 0 [.mk [] v []], .mk [] v []] := by
  unfold exT
  rw [Ty.pure_eq]
  show Ty.Pure.mk [45, 62] 0 ([Ty.mk [123, 67, 125] 0 A1 c1 [.mk [] v A2 c2 []], .mk [] v A3 c3 []].map Ty.pure) = _
  rw [List.map_cons, List.map_cons, Ty.pure_eq (.mk [] v A3 c3 []), Ty.pure_eq (.mk [123, 67, 125] 0 A1 c1 [.mk [] v A2 c2 []])]
  show Ty.Pure.mk [45, 62] 0 [Ty.Pure.mk [123, 67, 125] 0 ([Ty.mk [] v A2 c2 []].map Ty.pure), Ty.Pure.mk [] v []] = _
  rw [List.map_cons, Ty.pure_eq (.mk [] v A2 c2 [])]
  rfl
/-- Another variable in the place of its own. -/
theorem exT_put (x : Int) : putP [v] [varT x] (exT v A c A1 c1 A2 c2 A3 c3) = .mk [45, 62] 0 [.mk [123, 67, 125] 0 [.mk [] x []], .mk [] x []] := by
  have hl : ∀ B k, putP [v] [varT x] (Ty.mk [] v B k []) = .mk [] x [] := fun B k => by
    rw [putP_eq, if_pos (show (Ty.mk [] v B k []).con = [] from rfl)]
    have : putAt [v] [varT x] (Ty.mk [] v B k []).var = some (varT x) := by
      show putAt [v] [varT x] v = some (varT x)
      unfold putAt idxI
      simp
    rw [this]
    show (varT x).pure = _
    rw [Ty.pure_eq]
    rfl
  unfold exT
  rw [putP_con (show (Ty.mk [45, 62] 0 A c [Ty.mk [123, 67, 125] 0 A1 c1 [.mk [] v A2 c2 []], .mk [] v A3 c3 []]).con ≠ [] from by show ([45, 62] : Str) ≠ []; decide)]
  show Ty.Pure.mk [45, 62] 0 ([Ty.mk [123, 67, 125] 0 A1 c1 [.mk [] v A2 c2 []], .mk [] v A3 c3 []].map (putP [v] [varT x])) = _
  rw [List.map_cons, List.map_cons, hl, putP_con (show (Ty.mk [123, 67, 125] 0 A1 c1 [.mk [] v A2 c2 []]).con ≠ [] from by show ([123, 67, 125] : Str) ≠ []; decide)]
  show Ty.Pure.mk [45, 62] 0 [Ty.Pure.mk [123, 67, 125] 0 ([Ty.mk [] v A2 c2 []].map (putP [v] [varT x])), .mk [] x []] = _
  rw [List.map_cons, hl]
  rfl
end

end Go.Proofs.YtifbkknijialgaaGreat

/- Contract: chapter 31's example. -/
namespace Go.Proofs.YtifbkknijialgaaGreat
open Go.RowKit

theorem ex_text {p : Po} (hv : p.vars = [0]) (ht : p.ty.pure = .mk [45, 62] 0 [.mk [123, 67, 125] 0 [.mk [] 0 []], .mk [] 0 []]) :
    polyS p = [102, 111, 114, 97, 108, 108, 32, 97, 46, 32, 123, 67, 125, 32, 97, 32, 45, 62, 32, 97] := by
  obtain ⟨A, c, A1, c1, A2, c2, A3, c3, e⟩ := exT_of ht
  unfold polyS
  rw [e, exT_legal, hv, exT_text]
  rfl
theorem ex_free {p : Po} (hv : p.vars = []) (ht : p.ty.pure = .mk [45, 62] 0 [.mk [123, 67, 125] 0 [.mk [] 0 []], .mk [] 0 []]) : freeL p = [0] := by
  obtain ⟨A, c, A1, c1, A2, c2, A3, c3, e⟩ := exT_of ht
  unfold freeL
  rw [e, exT_vars, hv]
  rfl
theorem ex_none {p : Po} {v : Int} (hv : p.vars = [v]) (ht : p.ty.pure = .mk [45, 62] 0 [.mk [123, 67, 125] 0 [.mk [] v []], .mk [] v []]) : freeL p = [] := by
  obtain ⟨A, c, A1, c1, A2, c2, A3, c3, e⟩ := exT_of ht
  unfold freeL
  rw [e, exT_vars, hv]
  simp [onceI, onceGo]
theorem ex_alike {p q : Po} (hv : p.vars = [0]) (ht : p.ty.pure = .mk [45, 62] 0 [.mk [123, 67, 125] 0 [.mk [] 0 []], .mk [] 0 []]) (hv' : q.vars = [5]) (ht' : q.ty.pure = .mk [45, 62] 0 [.mk [123, 67, 125] 0 [.mk [] 5 []], .mk [] 5 []]) : alikeP p q = true := by
  unfold alikeP
  rw [ex_none hv ht, ex_none hv' ht', hv, hv', ht]
  obtain ⟨A, c, A1, c1, A2, c2, A3, c3, e⟩ := exT_of ht'
  rw [e, show ([0] : List Int).map varT = [varT 0] from rfl, exT_put]
  have : eqP (.mk [45, 62] 0 [.mk [123, 67, 125] 0 [.mk [] 0 []], .mk [] 0 []]) (.mk [45, 62] 0 [.mk [123, 67, 125] 0 [.mk [] 0 []], .mk [] 0 []]) = true := by unfold eqP; exact @decide_eq_true _ (Classical.propDecidable _) rfl
  rw [this]
  rfl
theorem ex_unlike {p q : Po} (hv : p.vars = [0]) (hv' : q.vars = []) : alikeP p q = false := by
  unfold alikeP
  rw [hv, hv']
  rfl

theorem ex_cls (b : Nat) : dictB (dictT [67] (varT 3) b) = true ∧ clsOf (dictT [67] (varT 3) b) = [67] ∧ argOf (dictT [67] (varT 3) b) = varT 3 := by
  have h : dictB (dictT [67] (varT 3) b) = true := by
    unfold dictB
    show (!(classS [123, 67, 125] == []) && ((1 : Nat) == 1) && ((0 : Int) == 0)) = true
    decide
  refine ⟨h, ?_, ?_⟩
  · unfold clsOf
    rw [h, if_pos rfl]
    show classS [123, 67, 125] = [67]
    decide
  · unfold argOf
    rw [h, if_pos rfl]
    rfl
theorem ex_cls0 : dictB (Ty.mk [67] 0 none 0 []) = false := by
  unfold dictB
  show (!(classS [67] == []) && ((0 : Nat) == 1) && ((0 : Int) == 0)) = false
  decide
theorem ex_bad : legalD (Ty.mk [123, 99, 125] 0 none 0 []) = false := by
  unfold legalD
  rw [shapeD_eq]
  show (_ && _ && ((dictB (Ty.mk [123, 99, 125] 0 none 0 []) || headOk [123, 99, 125] 0 0) && _)) = false
  have : dictB (Ty.mk [123, 99, 125] 0 none 0 []) = false := by
    unfold dictB
    show (!(classS [123, 99, 125] == []) && ((0 : Nat) == 1) && ((0 : Int) == 0)) = false
    decide
  rw [this, show headOk [123, 99, 125] 0 0 = false from by decide]
  simp

set_option maxRecDepth 10000 in
set_option maxHeartbeats 4000000 in
theorem l_awake31 (w : World) : Calls Tryz.prog 9 #[] w fun e w' => e = .returned (.bool true) ∧ Ext w w' := by
  have HOf := hide (fun w' b (hb : w'.heap[b]? = some (.cells #[.string ⟨#[67]⟩, .string ⟨#[]⟩, .int .i64 0, .slice none 0 0] 63 (0, 0))) => hide (f_of (exSc b) w' ⟨Nat.le_refl _, by show 1 ≤ 9223372036854775807; omega, ⟨RowOf.block pdC [⟨[67], Ty.zero⟩] hb, fun p hp => by
    have : p = ⟨[67], Ty.zero⟩ := by simpa [exSc] using hp
    subst this
    exact ⟨by show 1 ≤ 1000000000000000000; omega, TyIn.zero _⟩⟩, TyIn.zero _⟩ (by show 1 ≤ 1000; omega) (by show Ty.zero.size + (Ty.zero.size + 0) ≤ 50000; rw [zero_size]; omega) (fun p hp => by
    have : p = ⟨[67], Ty.zero⟩ := by simpa [exSc] using hp
    subst this
    show 1 ≤ 1000000000000000000
    omega)))
  unfold scV exSc at HOf
  simp only [Ty.zero, Ty.con, Ty.var, Ty.A, Ty.cap, Ty.args, List.length_nil, List.length_cons, Nat.zero_add, encStr] at HOf
  have HD := hide (fun w' => hide (f_dict [67] (varT 3) w' (varT_in w' 3) (by show 1 ≤ 1000000000000000000; omega)))
  have HC := hide (fun b w' (h : TyIn w' (dictT [67] (varT 3) b)) => hide (f_class (dictT [67] (varT 3) b) w' h))
  have HC0 := hide (fun w' => hide (f_class (Ty.mk [67] 0 none 0 []) w' (TyIn.of (Nat.zero_le _) (by omega) (by decide) (RowOf.nil _ _ _) (by simp))))
  have e0 : clsOf (Ty.mk [67] 0 none 0 []) = [] := clsOf_no ex_cls0
  have e1 : argOf (Ty.mk [67] 0 none 0 []) = Ty.zero := argOf_no ex_cls0
  rw [ex_cls0, e0, e1] at HC0
  clear e0 e1
  simp only [(ex_cls _).1, (ex_cls _).2.1, (ex_cls _).2.2] at HC
  unfold tyV at HD HC HC0
  unfold classV at HC HC0
  simp only [varT, Ty.zero, Ty.con, Ty.var, Ty.A, Ty.cap, Ty.args, List.length_nil, List.length_cons, Nat.zero_add, encStr, dictT] at HC HC0
  simp only [varT, dictT, Ty.con, Ty.var, Ty.A, Ty.cap, Ty.args, List.length_nil, List.length_cons, Nat.zero_add, encStr] at HD
  go_enter Tryz.func9, Tryz.ntmps9
  go_wp2_with fail
  refine (HOf.out _ _ (at_newB _ _ _ rfl)).out.mono ?_
  rintro e w2 ⟨⟨p, rfl, hp⟩, hx2⟩
  have X2 := hide (((Ext.refl w).alloc (.cells #[.string ⟨#[67]⟩, .string ⟨#[]⟩, .int .i64 0, .slice none 0 0] 63)).trans hx2)
  have HPo := hide hp.po
  have HPv : Hid (p.vars = [0]) := hide (hp.vars.trans (ex_vs _))
  have HPt := hide (hp.ty.trans (ex_ty _))
  have hple := hp.po.le
  have hpmx := hp.po.max
  clear hx2 hp HOf
  obtain ⟨W3, hW3⟩ : ∃ W3, W3 = w2.alloc (.cells #[.slice p.A p.vars.length p.cap, encStr p.ty.con, .int .i64 p.ty.var, .slice p.ty.A p.ty.args.length p.ty.cap] 32) := ⟨_, rfl⟩
  have X3 : Hid (Ext w2 W3) := hide (by rw [hW3]; exact (Ext.refl _).alloc _)
  have HB3 : Hid (PBox W3 w2.heap.size p) := hide (by rw [hW3]; exact PBox.new w2 p)
  unfold poV
  go_upto_region 2 with fail
  rw [← hW3]
  clear hW3
  go_wp2_with fail
  refine (HD.out _).out.mono ?_
  rintro e w4 ⟨⟨b4, rfl, hd4, -⟩, hx4⟩
  have X4 := hide hx4
  have Hd4 := hide (HC.out b4 w4 hd4)
  clear hd4 hx4 HD HC
  go_wp2_with fail
  refine Hd4.out.out.mono ?_
  rintro e w5 ⟨rfl, hx5⟩
  have X5 := hide (X4.out.trans hx5)
  obtain ⟨W6, hW6⟩ : ∃ W6, W6 = w5.alloc (.cells #[.string ⟨#[]⟩, .int .i64 3, .slice none 0 0] 25) := ⟨_, rfl⟩
  have X6 : Hid (Ext W3 W6) := hide (by rw [hW6]; exact X5.out.alloc _)
  have HB6 : Hid (W6.heap[w5.heap.size]? = some (.cells #[.string ⟨#[]⟩, .int .i64 3, .slice none 0 0] 25 (0, 0))) := hide (by rw [hW6]; exact at_newB _ _ _ rfl)
  clear hx5 Hd4
  go_upto_region 3 with fail
  rw [← hW6]
  clear hW6
  go_wp2_with fail
  refine (HC0.out _).out.mono ?_
  rintro e w7 ⟨rfl, hx7⟩
  obtain ⟨W8, hW8⟩ : ∃ W8, W8 = w7.alloc (.cells #[.string ⟨#[]⟩, .int .i64 0, .slice none 0 0] 25) := ⟨_, rfl⟩
  have X8 : Hid (Ext W3 W8) := hide (by rw [hW8]; exact (X6.out.trans hx7).alloc _)
  have X68 : Hid (Ext W6 W8) := hide (by rw [hW8]; exact hx7.alloc _)
  clear hx7 HC0
  go_upto_region 4 with fail
  rw [← hW8]
  clear hW8
  obtain ⟨g0, g1, g2, g3⟩ := (HB3.out.ext X8.out).cells
  have hlt8 := (HB3.out.ext X8.out).lt
  obtain ⟨W9, hW9⟩ : ∃ W9, W9 = ((W8.alloc (.cells #[.int .i64 5] 3)).alloc (.cells #[.int .i64 0] 3)).alloc (.cells #[.string ⟨#[]⟩, .int .i64 5, .slice none 0 0] 25) := ⟨_, rfl⟩
  have X9 : Hid (Ext W8 W9) := hide (by rw [hW9]; exact (((Ext.refl _).alloc _).alloc _).alloc _)
  have hi5 : Hid (Ints W9 (some ⟨W8.heap.size, 0, none⟩) [5]) := hide (RowOf.block (t := 3) (fr := (0, 0)) intC [5] (by rw [hW9]; exact ((((Ext.refl _).alloc _).alloc _).heap (by simp)).trans (at_newB _ _ _ rfl)))
  have hi0 : Hid (Ints W9 (some ⟨W8.heap.size + 1, 0, none⟩) [0]) := hide (RowOf.block (t := 3) (fr := (0, 0)) intC [0] (by rw [hW9]; exact ((((Ext.refl _).alloc _).heap (by simp)).trans (at_newB _ _ _ (by simp)))))
  have ht5 : Hid (TysIn W9 (some ⟨W8.heap.size + 1 + 1, 0, none⟩) [varT 5]) := hide ⟨RowOf.block (t := 25) (fr := (0, 0)) tyC [varT 5] (by rw [hW9]; exact at_newB _ _ _ (by simp)), fun k hk => by simp at hk; subst hk; exact varT_in _ 5⟩
  have hsz4 : Hid (p.ty.size = 4) := hide (by obtain ⟨A, c, A1, c1, A2, c2, A3, c3, e⟩ := exT_of HPt.out; rw [e]; exact exT_size ..)
  have HPut := hide (f_put (some ⟨W8.heap.size + 1, 0, none⟩) (some ⟨W8.heap.size + 1 + 1, 0, none⟩) 1 1 [0] [varT 5] (by decide) p.ty W9 (HPo.out.ty.ext (X3.out.trans (X8.out.trans X9.out))) hi0.out ht5.out (by rw [hsz4.out]; omega))
  unfold tyV at HPut
  simp only [List.length_cons, List.length_nil, Nat.zero_add] at HPut
  rw [hW9] at HPut
  go_wp2_with fail
  refine HPut.out.mono ?_
  rintro e w10 ⟨⟨u, rfl, hu⟩, hx10⟩
  rw [← hW9] at hx10
  have X10 := hide hx10
  have HUt : Hid (TyIn w10 u) := hide hu.ty
  have HUp : Hid (u.pure = .mk [45, 62] 0 [.mk [123, 67, 125] 0 [.mk [] 5 []], .mk [] 5 []]) := hide (by rw [hu.is]; obtain ⟨A, c, A1, c1, A2, c2, A3, c3, e⟩ := exT_of HPt.out; rw [e]; exact exT_put ..)
  clear hx10 hu HPut hW9
  obtain ⟨q, hq⟩ : ∃ q : Po, q = ⟨[5], some ⟨W8.heap.size, 0, none⟩, 1, u⟩ := ⟨_, rfl⟩
  obtain ⟨W, hW⟩ : ∃ W, W = w10.alloc (.cells #[.slice (some ⟨W8.heap.size, 0, none⟩) 1 1, encStr u.con, .int .i64 u.var, .slice u.A u.args.length u.cap] 32) := ⟨_, rfl⟩
  have XW10 : Hid (Ext w10 W) := hide (by rw [hW]; exact (Ext.refl _).alloc _)
  have XW3 : Hid (Ext W3 W) := hide (X8.out.trans (X9.out.trans (X10.out.trans XW10.out)))
  have HQB : Hid (PBox W w10.heap.size q) := hide (by rw [hW, hq]; exact at_newB _ _ _ rfl)
  have HPB : Hid (PBox W w2.heap.size p) := hide (HB3.out.ext XW3.out)
  have HTB : Hid (W.heap[w5.heap.size]? = some (.cells #[.string ⟨#[]⟩, .int .i64 3, .slice none 0 0] 25 (0, 0))) := hide (((X68.out.trans (X9.out.trans (X10.out.trans XW10.out))).heap (lt_of_obj HB6.out)).trans HB6.out)
  have XW : Hid (Ext w W) := hide (X2.out.trans (X3.out.trans XW3.out))
  have HPi : Hid (PoIn W p) := hide (HPo.out.ext (X3.out.trans XW3.out))
  have HQi : Hid (PoIn W q) := hide (by rw [hq]; exact ⟨Nat.le_refl _, by show 1 ≤ 9223372036854775807; omega, RowOf.ext intC hi5.out (X10.out.trans XW10.out), HUt.out.ext XW10.out⟩)
  have HQv : Hid (q.vars = [5]) := hide (by rw [hq])
  have HQp : Hid (q.ty.pure = .mk [45, 62] 0 [.mk [123, 67, 125] 0 [.mk [] 5 []], .mk [] 5 []]) := hide (by rw [hq]; exact HUp.out)
  have hszq : Hid (q.ty.size = 4) := hide (by obtain ⟨A, c, A1, c1, A2, c2, A3, c3, e⟩ := exT_of HQp.out; rw [e]; exact exT_size ..)
  clear g0 g1 g2 g3 hi0 hi5 ht5 HUt HUp
  go_upto_region 5 with fail
  rw [← hW]
  clear hW hq
  -- the calls
  have hok : okI p.ty = true := by obtain ⟨A, c, A1, c1, A2, c2, A3, c3, e⟩ := exT_of HPt.out; rw [e]; exact exT_ok _ _ _ _ _ _ _ _ _ (by decide) (by decide)
  have hl1 : p.vars.length = 1 := by rw [HPv.out]; rfl
  have hl2 : q.vars.length = 1 := by rw [HQv.out]; rfl
  have HText := hide (fun w' (e : Ext W w') => hide (f_Text1 p w' (HPi.out.ext e) hok (by rw [hsz4.out]; omega) (by rw [HPv.out]; simp) (by omega) (fun v hv => by rw [HPv.out] at hv; simp at hv; subst hv; omega)))
  rw [ex_text HPv.out HPt.out] at HText
  have HAl := hide (fun w' (e : Ext W w') => hide (f_alike p q w' (HPi.out.ext e) (HQi.out.ext e) (by rw [hsz4.out]; omega) (by rw [hszq.out]; omega) (by omega) (by omega)))
  rw [ex_alike HPv.out HPt.out HQv.out HQp.out] at HAl
  have HPr : Hid (PoIn W ⟨[], none, 0, p.ty⟩) := hide ⟨Nat.le_refl _, by show 0 ≤ 9223372036854775807; omega, RowOf.nil _ _ _, HPi.out.ty⟩
  have HAl2 := hide (fun w' (e : Ext W w') => hide (f_alike p ⟨[], none, 0, p.ty⟩ w' (HPi.out.ext e) (HPr.out.ext e) (by rw [hsz4.out]; omega) (by show p.ty.size ≤ 90000; rw [hsz4.out]; omega) (by omega) (by show 0 ≤ 90000; omega)))
  rw [ex_unlike (q := ⟨[], none, 0, p.ty⟩) HPv.out rfl] at HAl2
  have HLeg := hide (fun w' (e : Ext W w') => hide (f_legal p.ty w' (HPi.out.ty.ext e) (by rw [hsz4.out]; omega)))
  have HTer := hide (fun w' (e : Ext W w') => hide (t_legal p.ty w' (HPi.out.ty.ext e) (by rw [hsz4.out]; omega)))
  have el : legalD p.ty = true := by obtain ⟨A, c, A1, c1, A2, c2, A3, c3, e⟩ := exT_of HPt.out; rw [e]; exact exT_legal ..
  have et : legalT p.ty = false := by obtain ⟨A, c, A1, c1, A2, c2, A3, c3, e⟩ := exT_of HPt.out; rw [e]; exact exT_term ..
  rw [el] at HLeg
  rw [et] at HTer
  have HBad := hide (fun w' => hide (f_legal (Ty.mk [123, 99, 125] 0 none 0 []) w' (TyIn.of (Nat.zero_le _) (by omega) (by decide) (RowOf.nil _ _ _) (by simp)) (by rw [Ty.size_eq]; show 0 + 1 ≤ 90000; omega)))
  rw [ex_bad] at HBad
  have HFr := hide (fun w' (e : Ext W w') => hide (f_free ⟨[], none, 0, p.ty⟩ w' (HPr.out.ext e) (by show p.ty.size ≤ 90000; rw [hsz4.out]; omega)))
  rw [ex_free (p := ⟨[], none, 0, p.ty⟩) rfl HPt.out] at HFr
  unfold poV at HText HAl HAl2 HFr
  unfold tyV at HLeg HTer HBad
  simp only [List.length_cons, List.length_nil, Nat.zero_add] at HAl2 HFr
  simp only [Ty.con, Ty.var, Ty.A, Ty.cap, Ty.args, List.length_nil, encStr] at HBad
  clear el et hok hl1 hl2
  obtain ⟨p0, p1, p2, p3⟩ := (HPB.out.ext (Ext.refl W)).cells
  obtain ⟨q0, q1, q2, q3⟩ := (HQB.out.ext (Ext.refl W)).cells
  have t1 := bytes_block ((((Ext.refl W)).heap (lt_of_obj HTB.out)).trans HTB.out) 1
  simp only [List.getElem?_toArray, List.getElem?_cons_zero, List.getElem?_cons_succ] at t1
  go_wp2_with fail
  refine (HText.out _ (Ext.refl W)).out.mono ?_
  rintro e v0 ⟨rfl, hx⟩
  have Y0 : Hid (Ext W v0) := hide ((Ext.refl W).trans hx)
  clear hx
  clear p0 p1 p2 p3 q0 q1 q2 q3 t1
  obtain ⟨p0, p1, p2, p3⟩ := (HPB.out.ext Y0.out).cells
  obtain ⟨q0, q1, q2, q3⟩ := (HQB.out.ext Y0.out).cells
  have t1 := bytes_block (((Y0.out).heap (lt_of_obj HTB.out)).trans HTB.out) 1
  simp only [List.getElem?_toArray, List.getElem?_cons_zero, List.getElem?_cons_succ] at t1
  go_wp2_with fail
  refine (HAl.out _ Y0.out).out.mono ?_
  rintro e v1 ⟨rfl, hx⟩
  have Y1 : Hid (Ext W v1) := hide (Y0.out.trans hx)
  clear hx
  clear p0 p1 p2 p3 q0 q1 q2 q3 t1
  obtain ⟨p0, p1, p2, p3⟩ := (HPB.out.ext Y1.out).cells
  obtain ⟨q0, q1, q2, q3⟩ := (HQB.out.ext Y1.out).cells
  have t1 := bytes_block (((Y1.out).heap (lt_of_obj HTB.out)).trans HTB.out) 1
  simp only [List.getElem?_toArray, List.getElem?_cons_zero, List.getElem?_cons_succ] at t1
  go_wp2_with fail
  refine (HAl2.out _ Y1.out).out.mono ?_
  rintro e v2 ⟨rfl, hx⟩
  have Y2 : Hid (Ext W v2) := hide (Y1.out.trans hx)
  clear hx
  clear p0 p1 p2 p3 q0 q1 q2 q3 t1
  obtain ⟨p0, p1, p2, p3⟩ := (HPB.out.ext Y2.out).cells
  obtain ⟨q0, q1, q2, q3⟩ := (HQB.out.ext Y2.out).cells
  have t1 := bytes_block (((Y2.out).heap (lt_of_obj HTB.out)).trans HTB.out) 1
  simp only [List.getElem?_toArray, List.getElem?_cons_zero, List.getElem?_cons_succ] at t1
  go_wp2_with fail
  refine (HLeg.out _ Y2.out).out.mono ?_
  rintro e v3 ⟨rfl, hx⟩
  have Y3 : Hid (Ext W v3) := hide (Y2.out.trans hx)
  clear hx
  clear p0 p1 p2 p3 q0 q1 q2 q3 t1
  obtain ⟨p0, p1, p2, p3⟩ := (HPB.out.ext Y3.out).cells
  obtain ⟨q0, q1, q2, q3⟩ := (HQB.out.ext Y3.out).cells
  have t1 := bytes_block (((Y3.out).heap (lt_of_obj HTB.out)).trans HTB.out) 1
  simp only [List.getElem?_toArray, List.getElem?_cons_zero, List.getElem?_cons_succ] at t1
  go_wp2_with fail
  refine (HTer.out _ Y3.out).out.mono ?_
  rintro e v4 ⟨rfl, hx⟩
  have Y4 : Hid (Ext W v4) := hide (Y3.out.trans hx)
  clear hx
  clear p0 p1 p2 p3 q0 q1 q2 q3 t1
  obtain ⟨p0, p1, p2, p3⟩ := (HPB.out.ext Y4.out).cells
  obtain ⟨q0, q1, q2, q3⟩ := (HQB.out.ext Y4.out).cells
  have t1 := bytes_block (((Y4.out).heap (lt_of_obj HTB.out)).trans HTB.out) 1
  simp only [List.getElem?_toArray, List.getElem?_cons_zero, List.getElem?_cons_succ] at t1
  go_wp2_with fail
  refine (HBad.out _).out.mono ?_
  rintro e v5 ⟨rfl, hx⟩
  have Y5 : Hid (Ext W v5) := hide (Y4.out.trans hx)
  clear hx
  clear p0 p1 p2 p3 q0 q1 q2 q3 t1
  obtain ⟨p0, p1, p2, p3⟩ := (HPB.out.ext Y5.out).cells
  obtain ⟨q0, q1, q2, q3⟩ := (HQB.out.ext Y5.out).cells
  have t1 := bytes_block (((Y5.out).heap (lt_of_obj HTB.out)).trans HTB.out) 1
  simp only [List.getElem?_toArray, List.getElem?_cons_zero, List.getElem?_cons_succ] at t1
  go_wp2_with fail
  refine (HFr.out _ Y5.out).out.mono ?_
  rintro e v6 ⟨⟨A', cap', rfl, d1, d2, d3⟩, hx⟩
  have Y6 : Hid (Ext W v6) := hide (Y5.out.trans hx)
  have HIn := hide (ref_ints A' (some ⟨v6.heap.size, 0, none⟩) cap' 1 [0] [0] (v6.alloc (.cells #[.int .i64 0] 3)) (RowOf.ext intC d3 ((Ext.refl _).alloc _)) (RowOf.block intC [0] (at_newB _ _ _ rfl)) (by decide))
  simp only [List.length_cons, List.length_nil, Nat.zero_add] at HIn
  clear hx d3
  go_wp2_with fail
  refine HIn.out.mono ?_
  rintro e v7 ⟨rfl, hx⟩
  go_wp2
  go_ret
  exact ⟨rfl, XW.out.trans (Y6.out.trans (((Ext.refl _).alloc _).trans hx))⟩

end Go.Proofs.YtifbkknijialgaaGreat

/- Contract: a variable's type, of the reference. -/
namespace Go.Proofs.YtifbkknijialgaaGreat
open Go.RowKit


end Go.Proofs.YtifbkknijialgaaGreat

/- Contracts on the reference: a type's text. (A program of ours has printed a part.) -/
namespace Go.Proofs.YtifbkknijialgaaGreat
open Go.RowKit

/-- May a type's text be told? -/
noncomputable def goodT : Ty → Bool := Ty.allB fun t => (!(t.con == [45, 62]) || decide (t.args.length = 2)) && (!(t.con == []) || decide (t.args.length = 0))
theorem goodT_eq (t : Ty) : goodT t = (((!(t.con == [45, 62]) || decide (t.args.length = 2)) && (!(t.con == []) || decide (t.args.length = 0))) && t.args.all goodT) := allB_eq _ t
theorem goodT_arg {t : Ty} (h : goodT t = true) {k : Ty} (hk : k ∈ t.args) : goodT k = true := by
  rw [goodT_eq, Bool.and_eq_true] at h
  exact List.all_eq_true.1 h.2 k hk
theorem goodT_fun {t : Ty} (h : goodT t = true) (hc : (t.con == [45, 62]) = true) : t.args.length = 2 := by
  rw [goodT_eq, hc, Bool.and_eq_true, Bool.and_eq_true] at h
  simpa using h.1.1
theorem goodT_var {t : Ty} (h : goodT t = true) (hc : (t.con == []) = true) : t.args = [] := by
  rw [goodT_eq, hc, Bool.and_eq_true, Bool.and_eq_true] at h
  have := h.1.2
  exact List.eq_nil_of_length_eq_zero (by simpa using this)



end Go.Proofs.YtifbkknijialgaaGreat

/- Contracts on the reference: a type's text, no brackets. -/
namespace Go.Proofs.YtifbkknijialgaaGreat
open Go.RowKit


end Go.Proofs.YtifbkknijialgaaGreat

/- A legal type's text may be told. -/
namespace Go.Proofs.YtifbkknijialgaaGreat
open Go.RowKit

theorem allB_mono {f g : Ty → Bool} (h : ∀ t, f t = true → g t = true) (t : Ty) : t.allB f = true → t.allB g = true := by
  induction t using Ty.ind with
  | h t ih =>
  intro k
  rw [allB_eq, Bool.and_eq_true, List.all_eq_true] at k ⊢
  exact ⟨h t k.1, fun x hx => ih x hx (k.2 x hx)⟩
theorem good_of_legal {t : Ty} (h : legalD t = true) : goodT t = true := by
  unfold legalD at h
  rw [Bool.and_eq_true] at h
  unfold shapeD at h
  refine allB_mono (fun x hx => ?_) t h.2
  rw [Bool.or_eq_true] at hx
  rcases hx with hx | hx
  · have hc : x.con ≠ [] ∧ x.con ≠ [45, 62] := by
      constructor
      · intro e
        unfold dictB at hx
        rw [e, show classS [] = [] from rfl] at hx
        simp at hx
      · intro e
        unfold dictB at hx
        rw [e, show classS [45, 62] = [] from rfl] at hx
        simp at hx
    simp [hc.1, hc.2]
  · unfold headOk at hx
    cases h1 : (x.con == [])
    · rw [h1] at hx
      cases h2 : (x.con == [45, 62])
      · rfl
      · rw [h2] at hx
        simp at hx
        simp [hx.2]
    · rw [h1] at hx
      have e : x.con = [] := by simpa using h1
      simp at hx
      rw [e, hx]
      rfl

end Go.Proofs.YtifbkknijialgaaGreat

/- Contracts on the reference: whether a type of System F may be. (A program of ours has printed a part.) -/
namespace Go.Proofs.YtifbkknijialgaaGreat
open Go.RowKit Go.Sort

def zrow (k : Nat) : List Value := (List.replicate k Ty.zero).flatMap tyC.f
theorem zrow_succ (k : Nat) : zrow (k + 1) = zrow k ++ [.string ⟨#[]⟩, .int .i64 0, .slice none 0 0] := by
  unfold zrow
  rw [List.replicate_succ', List.flatMap_append]
  rfl
/-- A type whose args are empty, as many as there are. -/
def flatA (t : Ty) (A : Option Addr) (c : Nat) : Ty := .mk t.con t.var A c (List.replicate t.args.length Ty.zero)
theorem flatA_legal (t : Ty) (A : Option Addr) (c : Nat) (h : t.args.length < 4096) : legalT (flatA t A c) = headOk t.con t.var t.args.length := by
  have e : (flatA t A c).size = (flatT t 0).size := by
    rw [Ty.size_eq, Ty.size_eq]
    show ((List.replicate t.args.length Ty.zero).map Ty.size).sum + 1 = ((List.replicate (min t.args.length 4095) Ty.zero).map Ty.size).sum + 1
    rw [show min t.args.length 4095 = t.args.length by omega]
  have e2 : (flatA t A c).depth = (flatT t 0).depth := by
    rw [Ty.depth_eq, Ty.depth_eq]
    show ((List.replicate t.args.length Ty.zero).map Ty.depth).foldr max 0 + 1 = ((List.replicate (min t.args.length 4095) Ty.zero).map Ty.depth).foldr max 0 + 1
    rw [show min t.args.length 4095 = t.args.length by omega]
  have e3 : shapeT (flatA t A c) = shapeT (flatT t 0) := by
    rw [shapeT_eq, shapeT_eq]
    show (headOk t.con t.var (List.replicate t.args.length Ty.zero).length && (List.replicate t.args.length Ty.zero).all shapeT) = (headOk t.con t.var (List.replicate (min t.args.length 4095) Ty.zero).length && (List.replicate (min t.args.length 4095) Ty.zero).all shapeT)
    rw [show min t.args.length 4095 = t.args.length by omega]
  have := flat_legal t 0
  unfold legalT at this ⊢
  rw [e, e2, e3]
  exact this
theorem flatA_size (t : Ty) (A : Option Addr) (c : Nat) : (flatA t A c).size = t.args.length + 1 := by
  rw [Ty.size_eq]
  show ((List.replicate t.args.length Ty.zero).map Ty.size).sum + 1 = _
  rw [List.map_replicate, List.sum_replicate_nat, zero_size]
  omega
/-- What the reference tells of a type: all of it is right, where none has too many args. -/
noncomputable def shapeR : Ty → Bool := Ty.allB fun t => dictB t || decide (4096 ≤ t.args.length) || headOk t.con t.var t.args.length
theorem shapeR_eq (t : Ty) : shapeR t = ((dictB t || decide (4096 ≤ t.args.length) || headOk t.con t.var t.args.length) && t.args.all shapeR) := allB_eq _ t
theorem shapeR_D (t : Ty) (h : t.size ≤ 4096) : shapeR t = shapeD t := by
  induction t using Ty.ind with
  | h t ih =>
  rw [shapeR_eq, shapeD_eq]
  have h1 := Ty.args_len t
  have h2 : decide (4096 ≤ t.args.length) = false := by simp; omega
  rw [h2, Bool.or_false]
  congr 1
  rw [Bool.eq_iff_iff, List.all_eq_true, List.all_eq_true]
  exact ⟨fun k x hx => by rw [← ih x hx (by have := Ty.size_arg hx; omega)]; exact k x hx, fun k x hx => by rw [ih x hx (by have := Ty.size_arg hx; omega)]; exact k x hx⟩


end Go.Proofs.YtifbkknijialgaaGreat

/- Contracts on the reference: whether a type of System F is legal. -/
namespace Go.Proofs.YtifbkknijialgaaGreat
open Go.RowKit Go.Sort

theorem legalR_eq (t : Ty) : legalD t = (decide (t.size ≤ 4096) && decide (t.depth ≤ 100) && shapeR t) := by
  unfold legalD
  by_cases h : t.size ≤ 4096
  · rw [shapeR_D t h]
  · rw [show decide (t.size ≤ 4096) = false by simpa using h]
    rfl


end Go.Proofs.YtifbkknijialgaaGreat

/- Contracts on the reference: the text of a type for all of some variables. -/
namespace Go.Proofs.YtifbkknijialgaaGreat
open Go.RowKit

theorem varT_good (v : Int) : goodT (varT v) = true := by rw [goodT_eq]; rfl
theorem varsT_nil : varsT [] = [] := rfl
theorem varsT_ne {l : List Int} (h : l ≠ []) : varsT l ≠ [] := by
  cases l with
  | nil => exact absurd rfl h
  | cons v l => unfold varsT; simp


end Go.Proofs.YtifbkknijialgaaGreat

/- Contract: whether two types are the same, of the reference. -/
namespace Go.Proofs.YtifbkknijialgaaGreat
open Go.RowKit

set_option maxRecDepth 10000 in
set_option maxHeartbeats 2000000 in
theorem r_same16 (a : Ty) : ∀ (b : Ty) (w : World), TyIn w a → TyIn w b → Calls Tryz.prog 48 #[tyV a, tyV b] w fun e w' => e = .returned (.bool (sameB a b)) ∧ Ext w w' := by
  induction a using Ty.ind with
  | h a ih =>
  intro b w ha hb
  have IH := hide ih
  have HKa := hide ha.all
  have HKb := hide hb.all
  have hla := ha.le
  have hma := ha.max
  have hlb := hb.le
  have hmb := hb.max
  obtain ⟨W, hW⟩ : ∃ W, W = (w.alloc (.cells #[encStr a.con, .int .i64 a.var, .slice a.A a.args.length a.cap] 25)).alloc (.cells #[encStr b.con, .int .i64 b.var, .slice b.A b.args.length b.cap] 25) := ⟨_, rfl⟩
  have X0 : Hid (Ext w W) := hide (by rw [hW]; exact ((Ext.refl _).alloc _).alloc _)
  have B1 : Hid (TBox W w.heap.size a) := hide (by rw [hW]; exact (TBox.new w a).ext ((Ext.refl _).alloc _))
  have B2 : Hid (TBox W (w.heap.size + 1) b) := hide (by rw [hW]; have := TBox.new (w.alloc (.cells #[encStr a.con, .int .i64 a.var, .slice a.A a.args.length a.cap] 25)) b; rwa [World.size_alloc] at this)
  have HP := hide (sameB_parts a b)
  clear ih ha hb
  unfold tyV at *
  have c0 := B1.out.c0
  have c1 := B1.out.c1
  have c2 := B1.out.c2
  have d0 := B2.out.c0
  have d1 := B2.out.c1
  have d2 := B2.out.c2
  have key : ∀ c, headB a b = c → (c = false → sameB a b = false) := fun c h e => by subst e; rw [HP.out]; unfold headB at h; rw [h]; rfl
  cases hc : (a.con == b.con)
  · have hR : sameB a b = false := key _ (by unfold headB; simp at hc; simp [hc]) rfl
    rw [hR]
    clear hR key HP
    go_enter Tryz.func48, Tryz.ntmps48
    go_wp2
    rw [← hW]
    clear hW
    go_ret
    exact ⟨rfl, X0.out⟩
  cases hv : (a.var == b.var)
  · have hR : sameB a b = false := key _ (by unfold headB; simp at hv; simp [hv]) rfl
    rw [hR]
    clear hR key HP
    go_enter Tryz.func48, Tryz.ntmps48
    go_wp2
    rw [← hW]
    clear hW
    go_ret
    exact ⟨rfl, X0.out⟩
  have hve : a.var = b.var := by simpa using hv
  cases hl : ((a.args.length : Int) == (b.args.length : Int))
  · have hR : sameB a b = false := key _ (by unfold headB; simp at hl; simp [show ¬ a.args.length = b.args.length by omega]) rfl
    rw [hR]
    clear hR key HP
    clear hv
    rw [← hve] at hW d1 ⊢
    clear hve
    go_enter Tryz.func48, Tryz.ntmps48
    go_wp2
    rw [← hW]
    clear hW
    go_ret
    exact ⟨rfl, X0.out⟩
  have HL : Hid (a.args.length = b.args.length) := hide (by simp at hl; omega)
  have HR : Hid (sameB a b = (a.args.zip b.args).all fun p => sameB p.1 p.2) := hide (by rw [HP.out]; simp at hc hv; simp [hc, hv, HL.out])
  clear key hv hl HP
  generalize sameB a b = R at *
  rw [← hve] at hW d1 ⊢
  rw [← HL.out] at hW d2 ⊢
  clear hve
  go_enter Tryz.func48, Tryz.ntmps48
  go_wp2
  rw [← hW]
  clear hW
  have O1 : Hid (∀ p ∈ (a.args.zip b.args).take 0, sameB p.1 p.2 = true) := hide (by simp)
  have X3' := hide (Ext.refl W)
  go_wp2
  go_loopw [5] (fun i wr => ∃ k : Nat, k ≤ a.args.length ∧ i = .int .i64 k ∧ Hid (∀ p ∈ (a.args.zip b.args).take k, sameB p.1 p.2 = true) ∧ Hid (Ext W wr)) (fun i _ => a.args.length - (intOf i).toNat)
  case atStart => exact ⟨0, Nat.zero_le _, rfl, O1, X3'⟩
  case round =>
    obtain ⟨k, hk, rfl, HA, HX⟩ := hrel
    have C1 := B1.out.ext HX.out
    have C2 := B2.out.ext HX.out
    have c0 := C1.c0
    have c1 := C1.c1
    have c2 := C1.c2
    have d0 := C2.c0
    have d1 := C2.c1
    have d2 := C2.c2
    clear C1 C2
    by_cases hlt : k < a.args.length
    · have hltb : k < b.args.length := by rw [← HL.out]; exact hlt
      have hlt' : (k : Int) < (a.args.length : Int) := by omega
      have hltb' : (k : Int) < (b.args.length : Int) := by omega
      have hk0 : (0 : Int) ≤ (k : Int) := by omega
      have XR := hide (HX.out)
      obtain ⟨p, o, hAa, hp, q0, q1, q2⟩ := (HKa.out.ext (X0.out.trans XR.out)).at_ hlt
      obtain ⟨p', o', hAb, hp', r0, r1, r2⟩ := (HKb.out.ext (X0.out.trans XR.out)).at_ hltb
      have HC := hide (fun w' (e : Ext wr w') => hide (IH.out _ (List.getElem_mem hlt) (b.args[k]'hltb) w' ((HKa.out.args _ (List.getElem_mem hlt)).ext (X0.out.trans (XR.out.trans e))) ((HKb.out.args _ (List.getElem_mem hltb)).ext (X0.out.trans (XR.out.trans e)))))
      have Htk : Hid ((a.args.zip b.args).take (k + 1) = (a.args.zip b.args).take k ++ [(a.args[k]'hlt, b.args[k]'hltb)]) := hide (by
        rw [List.take_succ_eq_append_getElem (by rw [List.length_zip]; omega), List.getElem_zip])
      have Hmem : Hid ((a.args[k]'hlt, b.args[k]'hltb) ∈ a.args.zip b.args) := hide (by rw [List.mem_iff_getElem]; exact ⟨k, by rw [List.length_zip]; omega, List.getElem_zip⟩)
      rw [hAa] at c2
      rw [hAb, ← HL.out] at d2
      clear hAa hAb
      have HSa := hide (fun w' (e : Ext wr w') => And.intro (e.cell c2) (And.intro (e.cell d2) (And.intro (e.cell q0) (And.intro (e.cell q1) (And.intro (e.cell q2) (And.intro (e.cell r0) (And.intro (e.cell r1) (e.cell r2))))))))
      generalize a.args[k]'hlt = x at *
      generalize b.args[k]'hltb = y at *
      go_wp2
      go_region_held3 (fun w' => w'.cell? ⟨w.heap.size, 2, none⟩ = some (.slice (some ⟨p, o, none⟩) a.args.length a.cap) ∧ w'.cell? ⟨w.heap.size + 1, 2, none⟩ = some (.slice (some ⟨p', o', none⟩) a.args.length b.cap) ∧ w'.cell? ⟨p, o + k * 3, none⟩ = some (.string ⟨x.con.toArray⟩) ∧ w'.cell? ⟨p, o + k * 3 + 1, none⟩ = some (.int .i64 x.var) ∧ w'.cell? ⟨p, o + k * 3 + 2, none⟩ = some (.slice x.A x.args.length x.cap) ∧ w'.cell? ⟨p', o' + k * 3, none⟩ = some (.string ⟨y.con.toArray⟩) ∧ w'.cell? ⟨p', o' + k * 3 + 1, none⟩ = some (.int .i64 y.var) ∧ w'.cell? ⟨p', o' + k * 3 + 2, none⟩ = some (.slice y.A y.args.length y.cap)) (first | assumption | go_keep) (first
        | (go_at_call 48
           refine Calls.mono (HC.out _ ((Ext.refl _).drew)).out ?_
           rintro e w5 ⟨rfl, hx5⟩
           have X5 := hide (HX.out.trans (((Ext.refl wr).drew).trans hx5))
           have k5 := HSa.out _ (((Ext.refl wr).drew).trans hx5)
           clear hx5))
      clear k5
      cases hs : sameB x y
      · have hR : R = false := by
          rw [HR.out, ← Bool.not_eq_true, List.all_eq_true]
          intro h
          have := h _ Hmem.out
          rw [hs] at this
          cases this
        clear HR
        subst hR
        go_wp2
        go_ret
        exact ⟨rfl, X0.out.trans (X5.out)⟩
      · go_wp2
        go_roundw
        case rel =>
          refine ⟨k + 1, hlt, by go_num, hide (fun p hp => ?_), X5⟩
          rw [Htk.out, List.mem_append, List.mem_singleton] at hp
          rcases hp with hp | rfl
          · exact HA.out p hp
          · exact hs
        case measure => simp [intOf]; omega
    · have hge : ¬ (k : Int) < (a.args.length : Int) := by omega
      have hR : R = true := by
        rw [HR.out, List.all_eq_true]
        intro p hp
        exact HA.out p (by rw [List.take_of_length_le (by rw [List.length_zip]; omega)]; exact hp)
      clear HR
      subst hR
      go_wp2
      go_ret
      exact ⟨rfl, X0.out.trans (HX.out)⟩

end Go.Proofs.YtifbkknijialgaaGreat

/- The law of what is known of classes at types. -/
namespace Go.Proofs.YtifbkknijialgaaGreat
open Go.RowKit

theorem dict_same (c : Str) (t : Ty) (b b' : Nat) : sameB (dictT c t b) (dictT c t b') = true := sameB_iff.2 (by rw [dictT_pure, dictT_pure])
theorem arg_in {w : World} {t : Ty} (h : TyIn w t) : TyIn w (argOf t) := by
  unfold argOf
  split
  · cases hl : t.args with
    | nil => exact TyIn.zero w
    | cons x l => exact h.all.args x (by rw [hl]; simp)
  · exact TyIn.zero w
theorem few_one {w : World} {t : Ty} {b : Nat} (h : TyIn w t) (hb : w.heap[b]? = some (.cells #[encStr t.con, .int .i64 t.var, .slice t.A t.args.length t.cap] 25)) : TysIn w (some ⟨b, 0, none⟩) [t] := ⟨RowOf.block (t := 25) (fr := (0, 0)) tyC [t] (by simpa [tyC, Ty.cells] using hb), by simpa using h⟩


end Go.Proofs.YtifbkknijialgaaGreat

/- Contracts on the reference: what is free in a type for all of some variables; whether some are; variables as types. -/
namespace Go.Proofs.YtifbkknijialgaaGreat
open Go.RowKit

theorem free_take (l vars : List Int) {k : Nat} (h : k < l.length) : ((l.take (k + 1)).filter fun v => !(vars.any (· == v))) = ((l.take k).filter fun v => !(vars.any (· == v))) ++ if vars.any (· == l[k]'h) then [] else [l[k]'h] := by
  rw [List.take_succ_eq_append_getElem h, List.filter_append]
  congr 1
  cases hb : vars.any (· == l[k]'h) <;> simp [hb]
theorem meets_iff (vars l : List Int) : meetsI vars l = vars.any fun v => l.any (· == v) := by
  unfold meetsI
  rw [Bool.eq_iff_iff, List.any_eq_true, List.any_eq_true]
  constructor
  · rintro ⟨x, hx, h⟩
    obtain ⟨y, hy, e⟩ := List.any_eq_true.1 h
    exact ⟨y, hy, List.any_eq_true.2 ⟨x, hx, by simp at e ⊢; exact e.symm⟩⟩
  · rintro ⟨x, hx, h⟩
    obtain ⟨y, hy, e⟩ := List.any_eq_true.1 h
    exact ⟨y, hy, List.any_eq_true.2 ⟨x, hx, by simp at e ⊢; exact e.symm⟩⟩
theorem onceGo_full (l : List Int) : ∀ out, (onceGo out l).length = out.length + l.length ↔ l.Nodup ∧ ∀ x ∈ l, x ∉ out := by
  induction l with
  | nil => intro out; simp [onceGo]
  | cons x l ih =>
    intro out
    unfold onceGo
    by_cases hx : out.contains x = true
    · rw [if_pos hx]
      have h1 := onceGo_len l out
      rw [List.contains_iff_mem] at hx
      constructor
      · intro h; rw [List.length_cons] at h; omega
      · intro h; exact absurd hx (h.2 x (List.mem_cons_self))
    · rw [if_neg hx]
      rw [List.contains_iff_mem] at hx
      have h1 := ih (out ++ [x])
      rw [List.length_append, List.length_cons, List.length_nil] at h1
      rw [List.length_cons, List.nodup_cons, show out.length + (l.length + 1) = out.length + (0 + 1) + l.length by omega, h1]
      constructor
      · rintro ⟨h2, h3⟩
        refine ⟨⟨fun h => by have := h3 x h; simp at this, h2⟩, fun y hy => ?_⟩
        rcases List.mem_cons.1 hy with rfl | hy
        · exact hx
        · exact fun h => h3 y hy (List.mem_append.2 (.inl h))
      · rintro ⟨⟨h2, h3⟩, h4⟩
        refine ⟨h3, fun y hy h => ?_⟩
        rcases List.mem_append.1 h with h | h
        · exact h4 y (List.mem_cons_of_mem _ hy) h
        · rw [List.mem_singleton] at h; subst h; exact h2 hy
theorem onceI_full (l : List Int) : (onceI l).length = l.length ↔ l.Nodup := by
  have := onceGo_full l []
  unfold onceI
  simpa using this




end Go.Proofs.YtifbkknijialgaaGreat

/- Contract on the reference: whether two types for all of some variables are alike. (A program of ours has printed a part.) -/
namespace Go.Proofs.YtifbkknijialgaaGreat
open Go.RowKit


end Go.Proofs.YtifbkknijialgaaGreat

/- The law of two types for all of some variables. (A program of ours has printed a part.) -/
namespace Go.Proofs.YtifbkknijialgaaGreat
open Go.RowKit

/-- All numbers are int's. -/
def okV (l : List Int) : Prop := ∀ v ∈ l, -9223372036854775808 ≤ v ∧ v ≤ 9223372036854775807
theorem f_TextA (p : Po) (w : World) (h : PoIn w p) (ok : okI p.ty = true) (hsz : p.ty.size ≤ 20000) (hn : p.vars.length ≤ 1000) (hv : okV p.vars) : Calls Tryz.prog 37 #[poV p] w fun e w' => e = .returned (encStr (polyS p)) ∧ Ext w w' := by
  by_cases h0 : p.vars = []
  · exact f_Text0 p w h ok hsz h0
  · exact f_Text1 p w h ok hsz h0 hn hv



end Go.Proofs.YtifbkknijialgaaGreat

/- Arguments that are types for all of some variables, or schemes, opened. -/
namespace Go.Proofs.YtifbkknijialgaaGreat
open Go.RowKit Go.ChangeShapes Go.WideShapes Go.Deep

section
variable {H : Type} {enc : TypeId × Value → H} {P : Program} {w : World} {base : Nat} {spare : Nat → Bool} {held : Bool}
theorem fields_manyZ {t : TypeId} {fs : Array Field} {fuel : Nat} {cs : List Value} {x : DataW H × List MemPlace} (hs : P.underlying t = some (.struct fs)) (h : DataW.trod enc P w base spare held fuel t cs = some x) :
    cs.length = P.cellsOf t ∧ ∃ n, fuel = n + 1 ∧ ∀ (j : Nat) (f : Field), fs[j]? = some f → ∃ y, DataW.trod enc P w base spare held n f.type ((cs.drop f.offset).take (P.cellsOf f.type)) = some y ∧ (Sized P t x.1 → Sized P f.type y.1) := by
  obtain ⟨ys, n, hn, hx, hlen, hyl, hf⟩ := DataW.trod_struct hs h
  refine ⟨hlen, n, hn, fun j f hj => ?_⟩
  have hjl : j < fs.size := (Array.getElem?_eq_some_iff.1 hj).1
  refine ⟨_, (hf j f hj).trans (List.getElem?_eq_getElem (by omega)), fun hz n hn => hz n ?_⟩
  rw [hx]
  unfold DataW.weights
  rw [hs]
  exact DataW.weights_mem_each (j := j) (t := f.type) (by rw [List.getElem?_map, Array.getElem?_toList, hj]; rfl) (by rw [List.getElem?_map, List.getElem?_eq_getElem (by omega)]; rfl) n hn
end

section
variable {H : Type} {enc : TypeId × Value → H} {w : World} {base : Nat} {spare : Nat → Bool} {held : Bool}
set_option maxRecDepth 100000 in
theorem poly_reads (fuel : Nat) (cs : List Value) (x : DataW H × List MemPlace) (h : DataW.trod enc Tryz.prog w base spare held fuel 32 cs = some x) (hz : Sized Tryz.prog 32 x.1) :
    ∃ p : Po, cs = [.slice p.A p.vars.length p.cap, encStr p.ty.con, .int .i64 p.ty.var, .slice p.ty.A p.ty.args.length p.ty.cap] ∧ PoIn w p ∧ okI p.ty = true ∧ okV p.vars := by
  obtain ⟨hl, n, hn, hf⟩ := fields_manyZ Tryz.underlying32 h
  have hl4 : cs.length = 4 := hl.trans (by kernel_rfl)
  obtain ⟨y0, r0, z0⟩ := hf 0 _ rfl
  obtain ⟨y1, r1, z1⟩ := hf 1 _ rfl
  match cs, hl4 with
  | [a0, a1, a2, a3], _ =>
    have e0 : ((([a0, a1, a2, a3] : List Value).drop 0).take (Tryz.prog.cellsOf 30)) = [a0] := by rw [show Tryz.prog.cellsOf 30 = 1 from by kernel_rfl]; rfl
    have e1 : ((([a0, a1, a2, a3] : List Value).drop 1).take (Tryz.prog.cellsOf 25)) = [a1, a2, a3] := by rw [show Tryz.prog.cellsOf 25 = 3 from by kernel_rfl]; rfl
    have r0' : DataW.trod enc Tryz.prog w base spare held n 30 [a0] = some y0 := by rw [← e0]; exact r0
    have r1' : DataW.trod enc Tryz.prog w base spare held n 25 [a1, a2, a3] = some y1 := by rw [← e1]; exact r1
    obtain ⟨A, cp, vs, q0, k1, k2, k3, k4, _⟩ := open_cellsZ intC (fun v : Int => -9223372036854775808 ≤ v ∧ v ≤ 9223372036854775807) Tryz.underlying30 (by kernel_rfl) (fun m hm cs x hh _ => by
      obtain ⟨a, qa, hi⟩ := int_reads Tryz.underlying3 _ _ _ hh
      exact ⟨a, qa, wf_lo hi, wf_hi hi⟩) r0' (z0 hz)
    obtain ⟨t, q1, ht, ok⟩ := type_reads _ _ _ r1' (z1 hz)
    subst q0
    have q1' : [a1, a2, a3] = [encStr t.con, .int .i64 t.var, .slice t.A t.args.length t.cap] := q1
    simp only [List.cons.injEq, and_true] at q1'
    obtain ⟨rfl, rfl, rfl⟩ := q1'
    exact ⟨⟨vs, A, cp, t⟩, rfl, ⟨k1, k2, k3, ht⟩, ok, k4⟩
theorem open_poly {v : Value} {d : DataW H} {p : List MemPlace} (h : DataW.Trod enc Tryz.prog w base spare held 32 v d p) (hv : ∃ cs, v = .agg cs) (hz : Sized Tryz.prog 32 d) : ∃ t : Po, v = poV t ∧ PoIn w t ∧ okI t.ty = true ∧ okV t.vars := by
  obtain ⟨arr, rfl⟩ := hv
  obtain ⟨fuel, hf⟩ := h
  obtain ⟨t, e, ht⟩ := poly_reads fuel _ _ hf hz
  refine ⟨t, ?_, ht⟩
  have e1 : arr.toList = [.slice t.A t.vars.length t.cap, encStr t.ty.con, .int .i64 t.ty.var, .slice t.ty.A t.ty.args.length t.ty.cap] := by simpa [Value.cells] using e
  have e2 : arr = ([.slice t.A t.vars.length t.cap, encStr t.ty.con, .int .i64 t.ty.var, .slice t.ty.A t.ty.args.length t.ty.cap] : List Value).toArray := by rw [← e1]
  rw [e2]
  rfl
end

end Go.Proofs.YtifbkknijialgaaGreat
