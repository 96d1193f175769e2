/- The values of chapter 31's example: plain facts. -/
import Derived.Test.YtcnepaiapefggaaGreatJF22
/- The values of chapter 31's example: plain facts. -/
namespace Go.Proofs.YtcnepaiapefggaaGreat
open Go.RowKit

theorem inv0 {t : Ty} {s : Str} {v : Int} (h : t.pure = .mk s v []) : ∃ A c, t = .mk s v A c [] := by
  cases t with
  | mk s' v' A c l =>
  rw [Ty.pure_eq] at h
  injection h with h1 h2 h3
  have h1' : s' = s := h1
  have h2' : v' = v := h2
  have h3' : l = [] := List.map_eq_nil_iff.1 h3
  subst h1' h2' h3'
  exact ⟨A, c, rfl⟩
theorem inv1 {t : Ty} {s : Str} {v : Int} {p : Ty.Pure} (h : t.pure = .mk s v [p]) : ∃ A c a, t = .mk s v A c [a] ∧ a.pure = p := by
  cases t with
  | mk s' v' A c l =>
  rw [Ty.pure_eq] at h
  injection h with h1 h2 h3
  have h1' : s' = s := h1
  have h2' : v' = v := h2
  have h3' : l.map Ty.pure = [p] := h3
  subst h1' h2'
  match l, h3' with
  | [a], h => simp at h; exact ⟨A, c, a, rfl, h⟩
theorem inv2 {t : Ty} {s : Str} {v : Int} {p q : Ty.Pure} (h : t.pure = .mk s v [p, q]) : ∃ A c a b, t = .mk s v A c [a, b] ∧ a.pure = p ∧ b.pure = q := by
  cases t with
  | mk s' v' A c l =>
  rw [Ty.pure_eq] at h
  injection h with h1 h2 h3
  have h1' : s' = s := h1
  have h2' : v' = v := h2
  have h3' : l.map Ty.pure = [p, q] := h3
  subst h1' h2'
  match l, h3' with
  | [a, b], h => simp at h; exact ⟨A, c, a, b, rfl, h.1, h.2⟩

/-- The scheme of the example. -/
def exSc (b : Nat) : Sc := ⟨1, some ⟨b, 0, none⟩, 1, [⟨[67], Ty.zero⟩], Ty.zero⟩
theorem zero_legal : legalT Ty.zero = true := by
  unfold legalT
  rw [zero_size, zero_depth, zero_shape]
  rfl
theorem ex_pd : pdB ⟨[67], Ty.zero⟩ = true := by
  unfold pdB
  rw [zero_legal]
  decide
theorem zero_vars : Ty.zero.vars = [0] := by rw [vars_eq]; rfl
theorem ex_scB (b : Nat) : scB (exSc b) = true := by
  unfold scB sVars pvars pvarsAll
  have h1 : legalT (exSc b).ty = true := zero_legal
  have h2 : (exSc b).preds.all pdB = true := by show ([⟨[67], Ty.zero⟩] : List Pd).all pdB = true; rw [List.all_cons, ex_pd]; rfl
  rw [h1, h2]
  show (true && true && decide ((0 : Int) ≤ 1) && decide ((1 : Int) ≤ 4096) && ([0] : List Nat).all fun i => (onceI ((([⟨[], Ty.zero⟩, ⟨[67], Ty.zero⟩] : List Pd).map fun p => onceI p.ty.vars).flatten)).any (· == (i : Int))) = true
  simp only [List.map_cons, List.map_nil, zero_vars]
  decide
theorem ex_vs (b : Nat) : ofVs (exSc b) = [0] := by unfold ofVs; rw [ex_scB]; rfl
theorem ex_ty (b : Nat) : ofTyP (exSc b) = .mk [45, 62] 0 [.mk [123, 67, 125] 0 [.mk [] 0 []], .mk [] 0 []] := by
  unfold ofTyP
  rw [ex_scB, if_pos rfl]
  show funPP [dictP [67] Ty.zero.pure] Ty.zero.pure = _
  rw [zero_pure]
  rfl

theorem putP_con {vars : List Int} {types : List Ty} {t : Ty} (h : t.con ≠ []) : putP vars types t = .mk t.con t.var (t.args.map (putP vars types)) := by rw [putP_eq, if_neg h]
/-- The type of the example, of a variable. -/
def exT (v : Int) (A : Option Addr) (c : Nat) (A1 : Option Addr) (c1 : Nat) (A2 : Option Addr) (c2 : Nat) (A3 : Option Addr) (c3 : Nat) : Ty :=
  .mk [45, 62] 0 A c [.mk [123, 67, 125] 0 A1 c1 [.mk [] v A2 c2 []], .mk [] v A3 c3 []]
theorem exT_of {t : Ty} {v : Int} (h : t.pure = .mk [45, 62] 0 [.mk [123, 67, 125] 0 [.mk [] v []], .mk [] v []]) : ∃ A c A1 c1 A2 c2 A3 c3, t = exT v A c A1 c1 A2 c2 A3 c3 := by
  obtain ⟨A, c, a, b, rfl, ha, hb⟩ := inv2 h
  obtain ⟨A1, c1, d, rfl, hd⟩ := inv1 ha
  obtain ⟨A2, c2, rfl⟩ := inv0 hd
  obtain ⟨A3, c3, rfl⟩ := inv0 hb
  exact ⟨A, c, A1, c1, A2, c2, A3, c3, rfl⟩
section
variable (v : Int) (A : Option Addr) (c : Nat) (A1 : Option Addr) (c1 : Nat) (A2 : Option Addr) (c2 : Nat) (A3 : Option Addr) (c3 : Nat)
theorem lf_size : (Ty.mk [] v A2 c2 []).size = 1 := by rw [Ty.size_eq]; rfl
theorem lf_depth : (Ty.mk [] v A2 c2 []).depth = 1 := by rw [Ty.depth_eq]; rfl
theorem lf_vars : (Ty.mk [] v A2 c2 []).vars = [v] := by rw [vars_eq]; rfl
theorem lf_shapeD : shapeD (Ty.mk [] v A2 c2 []) = true := by
  rw [shapeD_eq]
  show ((dictB (Ty.mk [] v A2 c2 []) || headOk [] v 0) && true) = true
  rw [show headOk [] v 0 = true from rfl]
  simp
theorem lf_text : textT (Ty.mk [] v A2 c2 []) = varS v := by
  rw [textT_else (by rintro ⟨h, -⟩; cases h)]
  show (if ([] : Str) = [] then varS v else []) ++ restT [] = _
  simp [restT]
theorem exT_size : (exT v A c A1 c1 A2 c2 A3 c3).size = 4 := by
  unfold exT
  rw [Ty.size_eq]
  show ([Ty.mk [123, 67, 125] 0 A1 c1 [.mk [] v A2 c2 []], .mk [] v A3 c3 []].map Ty.size).sum + 1 = 4
  rw [List.map_cons, List.map_cons, lf_size, Ty.size_eq]
  show (([Ty.mk [] v A2 c2 []].map Ty.size).sum + 1 + (1 + 0)) + 1 = 4
  rw [List.map_cons, lf_size]
  rfl
theorem exT_depth : (exT v A c A1 c1 A2 c2 A3 c3).depth = 3 := by
  unfold exT
  rw [Ty.depth_eq]
  show ([Ty.mk [123, 67, 125] 0 A1 c1 [.mk [] v A2 c2 []], .mk [] v A3 c3 []].map Ty.depth).foldr max 0 + 1 = 3
  rw [List.map_cons, List.map_cons, lf_depth, Ty.depth_eq]
  show (List.foldr max 0 [([Ty.mk [] v A2 c2 []].map Ty.depth).foldr max 0 + 1, 1]) + 1 = 3
  rw [List.map_cons, lf_depth]
  rfl
theorem exT_shape : shapeD (exT v A c A1 c1 A2 c2 A3 c3) = true := by
  unfold exT
  rw [shapeD_eq]
  show ((dictB _ || headOk [45, 62] 0 2) && [Ty.mk [123, 67, 125] 0 A1 c1 [.mk [] v A2 c2 []], .mk [] v A3 c3 []].all shapeD) = true
  rw [List.all_cons, List.all_cons, lf_shapeD, shapeD_eq]
  show ((dictB _ || headOk [45, 62] 0 2) && ((dictB (Ty.mk [123, 67, 125] 0 A1 c1 [.mk [] v A2 c2 []]) || headOk _ _ _) && [Ty.mk [] v A2 c2 []].all shapeD && (true && true))) = true
  rw [List.all_cons, lf_shapeD, show headOk [45, 62] 0 2 = true from rfl, show dictB (Ty.mk [123, 67, 125] 0 A1 c1 [.mk [] v A2 c2 []]) = true from by unfold dictB; show (!(classS [123, 67, 125] == []) && (1 == 1) && ((0 : Int) == 0)) = true; decide]
  simp
theorem exT_legal : legalD (exT v A c A1 c1 A2 c2 A3 c3) = true := by
  unfold legalD
  rw [exT_size, exT_depth, exT_shape]
  rfl
theorem exT_term : legalT (exT v A c A1 c1 A2 c2 A3 c3) = false := by
  unfold legalT
  have : shapeT (exT v A c A1 c1 A2 c2 A3 c3) = false := by
    unfold exT
    rw [shapeT_eq]
    show (headOk [45, 62] 0 2 && [Ty.mk [123, 67, 125] 0 A1 c1 [.mk [] v A2 c2 []], .mk [] v A3 c3 []].all shapeT) = false
    rw [List.all_cons, shapeT_eq]
    show (headOk [45, 62] 0 2 && (headOk [123, 67, 125] 0 1 && _ && _)) = false
    rw [show headOk [123, 67, 125] 0 1 = false from by decide]
    simp
  rw [this, Bool.and_false]
theorem exT_vars : (exT v A c A1 c1 A2 c2 A3 c3).vars = [v, v] := by
  unfold exT
  rw [vars_eq]
  show ([] : List Int) ++ ([Ty.mk [123, 67, 125] 0 A1 c1 [.mk [] v A2 c2 []], .mk [] v A3 c3 []].map Ty.vars).flatten = [v, v]
  rw [List.map_cons, List.map_cons, lf_vars, vars_eq]
  show ([] : List Int) ++ [([] : List Int) ++ ([Ty.mk [] v A2 c2 []].map Ty.vars).flatten, [v]].flatten = [v, v]
  rw [List.map_cons, lf_vars]
  rfl
theorem exT_text : textT (exT v A c A1 c1 A2 c2 A3 c3) = ([123, 67, 125, 32] : Str) ++ varS v ++ ([32, 45, 62, 32] : Str) ++ varS v := by
  unfold exT
  have hd : textT (Ty.mk [123, 67, 125] 0 A1 c1 [.mk [] v A2 c2 []]) = ([123, 67, 125, 32] : Str) ++ varS v := by
    rw [textT_else (by rintro ⟨h, -⟩; cases h)]
    show (if ([123, 67, 125] : Str) = [] then varS 0 else [123, 67, 125]) ++ restT [Ty.mk [] v A2 c2 []] = _
    unfold restT
    rw [List.map_cons, lf_text]
    simp [brack, Ty.args]
  rw [textT_fun rfl (by show 0 < 2; decide) (by show 1 < 2; decide) rfl]
  show brack (decide (([123, 67, 125] : Str) = [45, 62])) (textT (Ty.mk [123, 67, 125] 0 A1 c1 [.mk [] v A2 c2 []])) ++ ([32, 45, 62, 32] : Str) ++ textT (Ty.mk [] v A3 c3 []) = _
  rw [hd, lf_text]
  rfl
theorem exT_ok (h0 : -9223372036854775808 ≤ v) (h1 : v ≤ 9223372036854775807) : okI (exT v A c A1 c1 A2 c2 A3 c3) = true := by
  have hl : ∀ B k, okI (Ty.mk [] v B k []) = true := fun B k => okI_mk h0 h1 (by decide) (by simp)
  refine okI_mk (by decide) (by decide) (by decide) (fun k hk => ?_)
  simp at hk
  rcases hk with rfl | rfl
  · exact okI_mk (by decide) (by decide) (by decide) (fun k hk => by simp at hk; subst hk; exact hl _ _)
  · exact hl _ _
theorem exT_pure : (exT v A c A1 c1 A2 c2 A3 c3).pure = .mk [45, 62] 0 [.mk [123, 67, 125] 0 [.mk [] v []], .mk [] v []] := by
  unfold exT
  rw [Ty.pure_eq]
  show Ty.Pure.mk [45, 62] 0 ([Ty.mk [123, 67, 125] 0 A1 c1 [.mk [] v A2 c2 []], .mk [] v A3 c3 []].map Ty.pure) = _
  rw [List.map_cons, List.map_cons, Ty.pure_eq (.mk [] v A3 c3 []), Ty.pure_eq (.mk [123, 67, 125] 0 A1 c1 [.mk [] v A2 c2 []])]
  show Ty.Pure.mk [45, 62] 0 [Ty.Pure.mk [123, 67, 125] 0 ([Ty.mk [] v A2 c2 []].map Ty.pure), Ty.Pure.mk [] v []] = _
  rw [List.map_cons, Ty.pure_eq (.mk [] v A2 c2 [])]
  rfl
/-- Another variable in the place of its own. -/
theorem exT_put (x : Int) : putP [v] [varT x] (exT v A c A1 c1 A2 c2 A3 c3) = .mk [45, 62] 0 [.mk [123, 67, 125] 0 [.mk [] x []], .mk [] x []] := by
  have hl : ∀ B k, putP [v] [varT x] (Ty.mk [] v B k []) = .mk [] x [] := fun B k => by
    rw [putP_eq, if_pos (show (Ty.mk [] v B k []).con = [] from rfl)]
    have : putAt [v] [varT x] (Ty.mk [] v B k []).var = some (varT x) := by
      show putAt [v] [varT x] v = some (varT x)
      unfold putAt idxI
      simp
    rw [this]
    show (varT x).pure = _
    rw [Ty.pure_eq]
    rfl
  unfold exT
  rw [putP_con (show (Ty.mk [45, 62] 0 A c [Ty.mk [123, 67, 125] 0 A1 c1 [.mk [] v A2 c2 []], .mk [] v A3 c3 []]).con ≠ [] from by show ([45, 62] : Str) ≠ []; decide)]
  show Ty.Pure.mk [45, 62] 0 ([Ty.mk [123, 67, 125] 0 A1 c1 [.mk [] v A2 c2 []], .mk [] v A3 c3 []].map (putP [v] [varT x])) = _
  rw [List.map_cons, List.map_cons, hl, putP_con (show (Ty.mk [123, 67, 125] 0 A1 c1 [.mk [] v A2 c2 []]).con ≠ [] from by show ([123, 67, 125] : Str) ≠ []; decide)]
  show Ty.Pure.mk [45, 62] 0 [Ty.Pure.mk [123, 67, 125] 0 ([Ty.mk [] v A2 c2 []].map (putP [v] [varT x])), .mk [] x []] = _
  rw [List.map_cons, hl]
  rfl
end

end Go.Proofs.YtcnepaiapefggaaGreat

/- Contract: chapter 31's example. -/
namespace Go.Proofs.YtcnepaiapefggaaGreat
open Go.RowKit

theorem ex_text {p : Po} (hv : p.vars = [0]) (ht : p.ty.pure = .mk [45, 62] 0 [.mk [123, 67, 125] 0 [.mk [] 0 []], .mk [] 0 []]) :
    polyS p = [102, 111, 114, 97, 108, 108, 32, 97, 46, 32, 123, 67, 125, 32, 97, 32, 45, 62, 32, 97] := by
  obtain ⟨A, c, A1, c1, A2, c2, A3, c3, e⟩ := exT_of ht
  unfold polyS
  rw [e, exT_legal, hv, exT_text]
  rfl
theorem ex_free {p : Po} (hv : p.vars = []) (ht : p.ty.pure = .mk [45, 62] 0 [.mk [123, 67, 125] 0 [.mk [] 0 []], .mk [] 0 []]) : freeL p = [0] := by
  obtain ⟨A, c, A1, c1, A2, c2, A3, c3, e⟩ := exT_of ht
  unfold freeL
  rw [e, exT_vars, hv]
  rfl
theorem ex_none {p : Po} {v : Int} (hv : p.vars = [v]) (ht : p.ty.pure = .mk [45, 62] 0 [.mk [123, 67, 125] 0 [.mk [] v []], .mk [] v []]) : freeL p = [] := by
  obtain ⟨A, c, A1, c1, A2, c2, A3, c3, e⟩ := exT_of ht
  unfold freeL
  rw [e, exT_vars, hv]
  simp [onceI, onceGo]
theorem ex_alike {p q : Po} (hv : p.vars = [0]) (ht : p.ty.pure = .mk [45, 62] 0 [.mk [123, 67, 125] 0 [.mk [] 0 []], .mk [] 0 []]) (hv' : q.vars = [5]) (ht' : q.ty.pure = .mk [45, 62] 0 [.mk [123, 67, 125] 0 [.mk [] 5 []], .mk [] 5 []]) : alikeP p q = true := by
  unfold alikeP
  rw [ex_none hv ht, ex_none hv' ht', hv, hv', ht]
  obtain ⟨A, c, A1, c1, A2, c2, A3, c3, e⟩ := exT_of ht'
  rw [e, show ([0] : List Int).map varT = [varT 0] from rfl, exT_put]
  have : eqP (.mk [45, 62] 0 [.mk [123, 67, 125] 0 [.mk [] 0 []], .mk [] 0 []]) (.mk [45, 62] 0 [.mk [123, 67, 125] 0 [.mk [] 0 []], .mk [] 0 []]) = true := by unfold eqP; exact @decide_eq_true _ (Classical.propDecidable _) rfl
  rw [this]
  rfl
theorem ex_unlike {p q : Po} (hv : p.vars = [0]) (hv' : q.vars = []) : alikeP p q = false := by
  unfold alikeP
  rw [hv, hv']
  rfl

theorem ex_cls (b : Nat) : dictB (dictT [67] (varT 3) b) = true ∧ clsOf (dictT [67] (varT 3) b) = [67] ∧ argOf (dictT [67] (varT 3) b) = varT 3 := by
  have h : dictB (dictT [67] (varT 3) b) = true := by
    unfold dictB
    show (!(classS [123, 67, 125] == []) && ((1 : Nat) == 1) && ((0 : Int) == 0)) = true
    decide
  refine ⟨h, ?_, ?_⟩
  · unfold clsOf
    rw [h, if_pos rfl]
    show classS [123, 67, 125] = [67]
    decide
  · unfold argOf
    rw [h, if_pos rfl]
    rfl
theorem ex_cls0 : dictB (Ty.mk [67] 0 none 0 []) = false := by
  unfold dictB
  show (!(classS [67] == []) && ((0 : Nat) == 1) && ((0 : Int) == 0)) = false
  decide
theorem ex_bad : legalD (Ty.mk [123, 99, 125] 0 none 0 []) = false := by
  unfold legalD
  rw [shapeD_eq]
  show (_ && _ && ((dictB (Ty.mk [123, 99, 125] 0 none 0 []) || headOk [123, 99, 125] 0 0) && _)) = false
  have : dictB (Ty.mk [123, 99, 125] 0 none 0 []) = false := by
    unfold dictB
    show (!(classS [123, 99, 125] == []) && ((0 : Nat) == 1) && ((0 : Int) == 0)) = false
    decide
  rw [this, show headOk [123, 99, 125] 0 0 = false from by decide]
  simp

set_option maxRecDepth 10000 in
set_option maxHeartbeats 4000000 in
theorem l_awake31 (w : World) : Calls Tryz.prog 8 #[] w fun e w' => e = .returned (.bool true) ∧ Ext w w' := by
  have HOf := hide (fun w' b (hb : w'.heap[b]? = some (.cells #[.string ⟨#[67]⟩, .string ⟨#[]⟩, .int .i64 0, .slice none 0 0] 58 (0, 0))) => hide (f_of (exSc b) w' ⟨Nat.le_refl _, by show 1 ≤ 9223372036854775807; omega, ⟨RowOf.block pdC [⟨[67], Ty.zero⟩] hb, fun p hp => by
    have : p = ⟨[67], Ty.zero⟩ := by simpa [exSc] using hp
    subst this
    exact ⟨by show 1 ≤ 1000000000000000000; omega, TyIn.zero _⟩⟩, TyIn.zero _⟩ (by show 1 ≤ 1000; omega) (by show Ty.zero.size + (Ty.zero.size + 0) ≤ 50000; rw [zero_size]; omega) (fun p hp => by
    have : p = ⟨[67], Ty.zero⟩ := by simpa [exSc] using hp
    subst this
    show 1 ≤ 1000000
    omega)))
  unfold scV exSc at HOf
  simp only [Ty.zero, Ty.con, Ty.var, Ty.A, Ty.cap, Ty.args, List.length_nil, List.length_cons, Nat.zero_add, encStr] at HOf
  have HD := hide (fun w' => hide (f_dict [67] (varT 3) w' (varT_in w' 3) (by show 1 ≤ 1000000; omega)))
  have HC := hide (fun b w' (h : TyIn w' (dictT [67] (varT 3) b)) => hide (f_class (dictT [67] (varT 3) b) w' h))
  have HC0 := hide (fun w' => hide (f_class (Ty.mk [67] 0 none 0 []) w' (TyIn.of (Nat.zero_le _) (by omega) (by decide) (RowOf.nil _ _ _) (by simp))))
  have e0 : clsOf (Ty.mk [67] 0 none 0 []) = [] := clsOf_no ex_cls0
  have e1 : argOf (Ty.mk [67] 0 none 0 []) = Ty.zero := argOf_no ex_cls0
  rw [ex_cls0, e0, e1] at HC0
  clear e0 e1
  simp only [(ex_cls _).1, (ex_cls _).2.1, (ex_cls _).2.2] at HC
  unfold tyV at HD HC HC0
  unfold classV at HC HC0
  simp only [varT, Ty.zero, Ty.con, Ty.var, Ty.A, Ty.cap, Ty.args, List.length_nil, List.length_cons, Nat.zero_add, encStr, dictT] at HC HC0
  simp only [varT, dictT, Ty.con, Ty.var, Ty.A, Ty.cap, Ty.args, List.length_nil, List.length_cons, Nat.zero_add, encStr] at HD
  go_enter Tryz.func8, Tryz.ntmps8
  go_wp2_with fail
  refine (HOf.out _ _ (at_newB _ _ _ rfl)).out.mono ?_
  rintro e w2 ⟨⟨p, rfl, hp⟩, hx2⟩
  have X2 := hide (((Ext.refl w).alloc (.cells #[.string ⟨#[67]⟩, .string ⟨#[]⟩, .int .i64 0, .slice none 0 0] 58)).trans hx2)
  have HPo := hide hp.po
  have HPv : Hid (p.vars = [0]) := hide (hp.vars.trans (ex_vs _))
  have HPt := hide (hp.ty.trans (ex_ty _))
  have hple := hp.po.le
  have hpmx := hp.po.max
  clear hx2 hp HOf
  obtain ⟨W3, hW3⟩ : ∃ W3, W3 = w2.alloc (.cells #[.slice p.A p.vars.length p.cap, encStr p.ty.con, .int .i64 p.ty.var, .slice p.ty.A p.ty.args.length p.ty.cap] 31) := ⟨_, rfl⟩
  have X3 : Hid (Ext w2 W3) := hide (by rw [hW3]; exact (Ext.refl _).alloc _)
  have HB3 : Hid (PBox W3 w2.heap.size p) := hide (by rw [hW3]; exact PBox.new w2 p)
  unfold poV
  go_upto_region 2 with fail
  rw [← hW3]
  clear hW3
  go_wp2_with fail
  refine (HD.out _).out.mono ?_
  rintro e w4 ⟨⟨b4, rfl, hd4, -⟩, hx4⟩
  have X4 := hide hx4
  have Hd4 := hide (HC.out b4 w4 hd4)
  clear hd4 hx4 HD HC
  go_wp2_with fail
  refine Hd4.out.out.mono ?_
  rintro e w5 ⟨rfl, hx5⟩
  have X5 := hide (X4.out.trans hx5)
  obtain ⟨W6, hW6⟩ : ∃ W6, W6 = w5.alloc (.cells #[.string ⟨#[]⟩, .int .i64 3, .slice none 0 0] 24) := ⟨_, rfl⟩
  have X6 : Hid (Ext W3 W6) := hide (by rw [hW6]; exact X5.out.alloc _)
  have HB6 : Hid (W6.heap[w5.heap.size]? = some (.cells #[.string ⟨#[]⟩, .int .i64 3, .slice none 0 0] 24 (0, 0))) := hide (by rw [hW6]; exact at_newB _ _ _ rfl)
  clear hx5 Hd4
  go_upto_region 3 with fail
  rw [← hW6]
  clear hW6
  go_wp2_with fail
  refine (HC0.out _).out.mono ?_
  rintro e w7 ⟨rfl, hx7⟩
  obtain ⟨W8, hW8⟩ : ∃ W8, W8 = w7.alloc (.cells #[.string ⟨#[]⟩, .int .i64 0, .slice none 0 0] 24) := ⟨_, rfl⟩
  have X8 : Hid (Ext W3 W8) := hide (by rw [hW8]; exact (X6.out.trans hx7).alloc _)
  have X68 : Hid (Ext W6 W8) := hide (by rw [hW8]; exact hx7.alloc _)
  clear hx7 HC0
  go_upto_region 4 with fail
  rw [← hW8]
  clear hW8
  obtain ⟨g0, g1, g2, g3⟩ := (HB3.out.ext X8.out).cells
  have hlt8 := (HB3.out.ext X8.out).lt
  obtain ⟨W9, hW9⟩ : ∃ W9, W9 = ((W8.alloc (.cells #[.int .i64 5] 3)).alloc (.cells #[.int .i64 0] 3)).alloc (.cells #[.string ⟨#[]⟩, .int .i64 5, .slice none 0 0] 24) := ⟨_, rfl⟩
  have X9 : Hid (Ext W8 W9) := hide (by rw [hW9]; exact (((Ext.refl _).alloc _).alloc _).alloc _)
  have hi5 : Hid (Ints W9 (some ⟨W8.heap.size, 0, none⟩) [5]) := hide (RowOf.block (t := 3) (fr := (0, 0)) intC [5] (by rw [hW9]; exact ((((Ext.refl _).alloc _).alloc _).heap (by simp)).trans (at_newB _ _ _ rfl)))
  have hi0 : Hid (Ints W9 (some ⟨W8.heap.size + 1, 0, none⟩) [0]) := hide (RowOf.block (t := 3) (fr := (0, 0)) intC [0] (by rw [hW9]; exact ((((Ext.refl _).alloc _).heap (by simp)).trans (at_newB _ _ _ (by simp)))))
  have ht5 : Hid (TysIn W9 (some ⟨W8.heap.size + 1 + 1, 0, none⟩) [varT 5]) := hide ⟨RowOf.block (t := 24) (fr := (0, 0)) tyC [varT 5] (by rw [hW9]; exact at_newB _ _ _ (by simp)), fun k hk => by simp at hk; subst hk; exact varT_in _ 5⟩
  have hsz4 : Hid (p.ty.size = 4) := hide (by obtain ⟨A, c, A1, c1, A2, c2, A3, c3, e⟩ := exT_of HPt.out; rw [e]; exact exT_size ..)
  have HPut := hide (f_put (some ⟨W8.heap.size + 1, 0, none⟩) (some ⟨W8.heap.size + 1 + 1, 0, none⟩) 1 1 [0] [varT 5] (by decide) p.ty W9 (HPo.out.ty.ext (X3.out.trans (X8.out.trans X9.out))) hi0.out ht5.out (by rw [hsz4.out]; omega))
  unfold tyV at HPut
  simp only [List.length_cons, List.length_nil, Nat.zero_add] at HPut
  rw [hW9] at HPut
  go_wp2_with fail
  refine HPut.out.mono ?_
  rintro e w10 ⟨⟨u, rfl, hu⟩, hx10⟩
  rw [← hW9] at hx10
  have X10 := hide hx10
  have HUt : Hid (TyIn w10 u) := hide hu.ty
  have HUp : Hid (u.pure = .mk [45, 62] 0 [.mk [123, 67, 125] 0 [.mk [] 5 []], .mk [] 5 []]) := hide (by rw [hu.is]; obtain ⟨A, c, A1, c1, A2, c2, A3, c3, e⟩ := exT_of HPt.out; rw [e]; exact exT_put ..)
  clear hx10 hu HPut hW9
  obtain ⟨q, hq⟩ : ∃ q : Po, q = ⟨[5], some ⟨W8.heap.size, 0, none⟩, 1, u⟩ := ⟨_, rfl⟩
  obtain ⟨W, hW⟩ : ∃ W, W = w10.alloc (.cells #[.slice (some ⟨W8.heap.size, 0, none⟩) 1 1, encStr u.con, .int .i64 u.var, .slice u.A u.args.length u.cap] 31) := ⟨_, rfl⟩
  have XW10 : Hid (Ext w10 W) := hide (by rw [hW]; exact (Ext.refl _).alloc _)
  have XW3 : Hid (Ext W3 W) := hide (X8.out.trans (X9.out.trans (X10.out.trans XW10.out)))
  have HQB : Hid (PBox W w10.heap.size q) := hide (by rw [hW, hq]; exact at_newB _ _ _ rfl)
  have HPB : Hid (PBox W w2.heap.size p) := hide (HB3.out.ext XW3.out)
  have HTB : Hid (W.heap[w5.heap.size]? = some (.cells #[.string ⟨#[]⟩, .int .i64 3, .slice none 0 0] 24 (0, 0))) := hide (((X68.out.trans (X9.out.trans (X10.out.trans XW10.out))).heap (lt_of_obj HB6.out)).trans HB6.out)
  have XW : Hid (Ext w W) := hide (X2.out.trans (X3.out.trans XW3.out))
  have HPi : Hid (PoIn W p) := hide (HPo.out.ext (X3.out.trans XW3.out))
  have HQi : Hid (PoIn W q) := hide (by rw [hq]; exact ⟨Nat.le_refl _, by show 1 ≤ 9223372036854775807; omega, RowOf.ext intC hi5.out (X10.out.trans XW10.out), HUt.out.ext XW10.out⟩)
  have HQv : Hid (q.vars = [5]) := hide (by rw [hq])
  have HQp : Hid (q.ty.pure = .mk [45, 62] 0 [.mk [123, 67, 125] 0 [.mk [] 5 []], .mk [] 5 []]) := hide (by rw [hq]; exact HUp.out)
  have hszq : Hid (q.ty.size = 4) := hide (by obtain ⟨A, c, A1, c1, A2, c2, A3, c3, e⟩ := exT_of HQp.out; rw [e]; exact exT_size ..)
  clear g0 g1 g2 g3 hi0 hi5 ht5 HUt HUp
  go_upto_region 5 with fail
  rw [← hW]
  clear hW hq
  -- the calls
  have hok : okI p.ty = true := by obtain ⟨A, c, A1, c1, A2, c2, A3, c3, e⟩ := exT_of HPt.out; rw [e]; exact exT_ok _ _ _ _ _ _ _ _ _ (by decide) (by decide)
  have hl1 : p.vars.length = 1 := by rw [HPv.out]; rfl
  have hl2 : q.vars.length = 1 := by rw [HQv.out]; rfl
  have HText := hide (fun w' (e : Ext W w') => hide (f_Text1 p w' (HPi.out.ext e) hok (by rw [hsz4.out]; omega) (by rw [HPv.out]; simp) (by omega) (fun v hv => by rw [HPv.out] at hv; simp at hv; subst hv; omega)))
  rw [ex_text HPv.out HPt.out] at HText
  have HAl := hide (fun w' (e : Ext W w') => hide (f_alike p q w' (HPi.out.ext e) (HQi.out.ext e) (by rw [hsz4.out]; omega) (by rw [hszq.out]; omega) (by omega) (by omega)))
  rw [ex_alike HPv.out HPt.out HQv.out HQp.out] at HAl
  have HPr : Hid (PoIn W ⟨[], none, 0, p.ty⟩) := hide ⟨Nat.le_refl _, by show 0 ≤ 9223372036854775807; omega, RowOf.nil _ _ _, HPi.out.ty⟩
  have HAl2 := hide (fun w' (e : Ext W w') => hide (f_alike p ⟨[], none, 0, p.ty⟩ w' (HPi.out.ext e) (HPr.out.ext e) (by rw [hsz4.out]; omega) (by show p.ty.size ≤ 90000; rw [hsz4.out]; omega) (by omega) (by show 0 ≤ 90000; omega)))
  rw [ex_unlike (q := ⟨[], none, 0, p.ty⟩) HPv.out rfl] at HAl2
  have HLeg := hide (fun w' (e : Ext W w') => hide (f_legal p.ty w' (HPi.out.ty.ext e) (by rw [hsz4.out]; omega)))
  have HTer := hide (fun w' (e : Ext W w') => hide (t_legal p.ty w' (HPi.out.ty.ext e) (by rw [hsz4.out]; omega)))
  have el : legalD p.ty = true := by obtain ⟨A, c, A1, c1, A2, c2, A3, c3, e⟩ := exT_of HPt.out; rw [e]; exact exT_legal ..
  have et : legalT p.ty = false := by obtain ⟨A, c, A1, c1, A2, c2, A3, c3, e⟩ := exT_of HPt.out; rw [e]; exact exT_term ..
  rw [el] at HLeg
  rw [et] at HTer
  have HBad := hide (fun w' => hide (f_legal (Ty.mk [123, 99, 125] 0 none 0 []) w' (TyIn.of (Nat.zero_le _) (by omega) (by decide) (RowOf.nil _ _ _) (by simp)) (by rw [Ty.size_eq]; show 0 + 1 ≤ 90000; omega)))
  rw [ex_bad] at HBad
  have HFr := hide (fun w' (e : Ext W w') => hide (f_free ⟨[], none, 0, p.ty⟩ w' (HPr.out.ext e) (by show p.ty.size ≤ 90000; rw [hsz4.out]; omega)))
  rw [ex_free (p := ⟨[], none, 0, p.ty⟩) rfl HPt.out] at HFr
  unfold poV at HText HAl HAl2 HFr
  unfold tyV at HLeg HTer HBad
  simp only [List.length_cons, List.length_nil, Nat.zero_add] at HAl2 HFr
  simp only [Ty.con, Ty.var, Ty.A, Ty.cap, Ty.args, List.length_nil, encStr] at HBad
  clear el et hok hl1 hl2
  obtain ⟨p0, p1, p2, p3⟩ := (HPB.out.ext (Ext.refl W)).cells
  obtain ⟨q0, q1, q2, q3⟩ := (HQB.out.ext (Ext.refl W)).cells
  have t1 := bytes_block ((((Ext.refl W)).heap (lt_of_obj HTB.out)).trans HTB.out) 1
  simp only [List.getElem?_toArray, List.getElem?_cons_zero, List.getElem?_cons_succ] at t1
  go_wp2_with fail
  refine (HText.out _ (Ext.refl W)).out.mono ?_
  rintro e v0 ⟨rfl, hx⟩
  have Y0 : Hid (Ext W v0) := hide ((Ext.refl W).trans hx)
  clear hx
  clear p0 p1 p2 p3 q0 q1 q2 q3 t1
  obtain ⟨p0, p1, p2, p3⟩ := (HPB.out.ext Y0.out).cells
  obtain ⟨q0, q1, q2, q3⟩ := (HQB.out.ext Y0.out).cells
  have t1 := bytes_block (((Y0.out).heap (lt_of_obj HTB.out)).trans HTB.out) 1
  simp only [List.getElem?_toArray, List.getElem?_cons_zero, List.getElem?_cons_succ] at t1
  go_wp2_with fail
  refine (HAl.out _ Y0.out).out.mono ?_
  rintro e v1 ⟨rfl, hx⟩
  have Y1 : Hid (Ext W v1) := hide (Y0.out.trans hx)
  clear hx
  clear p0 p1 p2 p3 q0 q1 q2 q3 t1
  obtain ⟨p0, p1, p2, p3⟩ := (HPB.out.ext Y1.out).cells
  obtain ⟨q0, q1, q2, q3⟩ := (HQB.out.ext Y1.out).cells
  have t1 := bytes_block (((Y1.out).heap (lt_of_obj HTB.out)).trans HTB.out) 1
  simp only [List.getElem?_toArray, List.getElem?_cons_zero, List.getElem?_cons_succ] at t1
  go_wp2_with fail
  refine (HAl2.out _ Y1.out).out.mono ?_
  rintro e v2 ⟨rfl, hx⟩
  have Y2 : Hid (Ext W v2) := hide (Y1.out.trans hx)
  clear hx
  clear p0 p1 p2 p3 q0 q1 q2 q3 t1
  obtain ⟨p0, p1, p2, p3⟩ := (HPB.out.ext Y2.out).cells
  obtain ⟨q0, q1, q2, q3⟩ := (HQB.out.ext Y2.out).cells
  have t1 := bytes_block (((Y2.out).heap (lt_of_obj HTB.out)).trans HTB.out) 1
  simp only [List.getElem?_toArray, List.getElem?_cons_zero, List.getElem?_cons_succ] at t1
  go_wp2_with fail
  refine (HLeg.out _ Y2.out).out.mono ?_
  rintro e v3 ⟨rfl, hx⟩
  have Y3 : Hid (Ext W v3) := hide (Y2.out.trans hx)
  clear hx
  clear p0 p1 p2 p3 q0 q1 q2 q3 t1
  obtain ⟨p0, p1, p2, p3⟩ := (HPB.out.ext Y3.out).cells
  obtain ⟨q0, q1, q2, q3⟩ := (HQB.out.ext Y3.out).cells
  have t1 := bytes_block (((Y3.out).heap (lt_of_obj HTB.out)).trans HTB.out) 1
  simp only [List.getElem?_toArray, List.getElem?_cons_zero, List.getElem?_cons_succ] at t1
  go_wp2_with fail
  refine (HTer.out _ Y3.out).out.mono ?_
  rintro e v4 ⟨rfl, hx⟩
  have Y4 : Hid (Ext W v4) := hide (Y3.out.trans hx)
  clear hx
  clear p0 p1 p2 p3 q0 q1 q2 q3 t1
  obtain ⟨p0, p1, p2, p3⟩ := (HPB.out.ext Y4.out).cells
  obtain ⟨q0, q1, q2, q3⟩ := (HQB.out.ext Y4.out).cells
  have t1 := bytes_block (((Y4.out).heap (lt_of_obj HTB.out)).trans HTB.out) 1
  simp only [List.getElem?_toArray, List.getElem?_cons_zero, List.getElem?_cons_succ] at t1
  go_wp2_with fail
  refine (HBad.out _).out.mono ?_
  rintro e v5 ⟨rfl, hx⟩
  have Y5 : Hid (Ext W v5) := hide (Y4.out.trans hx)
  clear hx
  clear p0 p1 p2 p3 q0 q1 q2 q3 t1
  obtain ⟨p0, p1, p2, p3⟩ := (HPB.out.ext Y5.out).cells
  obtain ⟨q0, q1, q2, q3⟩ := (HQB.out.ext Y5.out).cells
  have t1 := bytes_block (((Y5.out).heap (lt_of_obj HTB.out)).trans HTB.out) 1
  simp only [List.getElem?_toArray, List.getElem?_cons_zero, List.getElem?_cons_succ] at t1
  go_wp2_with fail
  refine (HFr.out _ Y5.out).out.mono ?_
  rintro e v6 ⟨⟨A', cap', rfl, d1, d2, d3⟩, hx⟩
  have Y6 : Hid (Ext W v6) := hide (Y5.out.trans hx)
  have HIn := hide (ref_ints A' (some ⟨v6.heap.size, 0, none⟩) cap' 1 [0] [0] (v6.alloc (.cells #[.int .i64 0] 3)) (RowOf.ext intC d3 ((Ext.refl _).alloc _)) (RowOf.block intC [0] (at_newB _ _ _ rfl)) (by decide))
  simp only [List.length_cons, List.length_nil, Nat.zero_add] at HIn
  clear hx d3
  go_wp2_with fail
  refine HIn.out.mono ?_
  rintro e v7 ⟨rfl, hx⟩
  go_wp2
  go_ret
  exact ⟨rfl, XW.out.trans (Y6.out.trans (((Ext.refl _).alloc _).trans hx))⟩

end Go.Proofs.YtcnepaiapefggaaGreat

/- Contracts on the reference: a type's text. (A program of ours has printed a part.) -/
namespace Go.Proofs.YtcnepaiapefggaaGreat
open Go.RowKit

/-- May a type's text be told? -/
noncomputable def goodT : Ty → Bool := Ty.allB fun t => (!(t.con == [45, 62]) || decide (t.args.length = 2)) && (!(t.con == []) || decide (t.args.length = 0))
theorem goodT_eq (t : Ty) : goodT t = (((!(t.con == [45, 62]) || decide (t.args.length = 2)) && (!(t.con == []) || decide (t.args.length = 0))) && t.args.all goodT) := allB_eq _ t
theorem goodT_arg {t : Ty} (h : goodT t = true) {k : Ty} (hk : k ∈ t.args) : goodT k = true := by
  rw [goodT_eq, Bool.and_eq_true] at h
  exact List.all_eq_true.1 h.2 k hk
theorem goodT_fun {t : Ty} (h : goodT t = true) (hc : (t.con == [45, 62]) = true) : t.args.length = 2 := by
  rw [goodT_eq, hc, Bool.and_eq_true, Bool.and_eq_true] at h
  simpa using h.1.1
theorem goodT_var {t : Ty} (h : goodT t = true) (hc : (t.con == []) = true) : t.args = [] := by
  rw [goodT_eq, hc, Bool.and_eq_true, Bool.and_eq_true] at h
  have := h.1.2
  exact List.eq_nil_of_length_eq_zero (by simpa using this)

set_option maxRecDepth 10000 in
set_option maxHeartbeats 2000000 in
theorem r_atomOf (t : Ty) (hl : (textT t).length ≤ 3000000000000000000) (HT0 : ∀ w, TyIn w t → Calls Tryz.prog 121 #[tyV t] w fun e w' => e = .returned (encStr (textT t)) ∧ Ext w w') (w : World) (h : TyIn w t) :
    Calls Tryz.prog 87 #[tyV t] w fun e w' => e = .returned (encStr (brack (decide (0 < t.args.length)) (textT t))) ∧ Ext w w' := by
  have X0 : Hid (Ext w (w.alloc (.cells #[encStr t.con, .int .i64 t.var, .slice t.A t.args.length t.cap] 24))) := hide ((Ext.refl w).alloc _)
  have HB := hide (TBox.new w t)
  have c2 := HB.out.c2
  have HT := hide (HT0 _ (h.ext X0.out))
  have HL := hide hl
  clear HT0 h hl
  unfold tyV at *
  generalize textT t = s at *
  obtain ⟨b, hb⟩ : ∃ b, b = decide (0 < t.args.length) := ⟨_, rfl⟩
  have hd : decide (0 < t.args.length) = b := hb.symm
  rw [hd]
  clear hb
  cases b
  · go_enter Tryz.func87, Tryz.ntmps87
    go_wp2_with fail
    refine HT.out.mono ?_
    rintro e w2 ⟨rfl, hx⟩
    go_wp2
    go_ret
    exact ⟨rfl, X0.out.trans hx⟩
  · have h1 : ¬ ((⟨#[40]⟩ : ByteArray).size + (⟨s.toArray⟩ : ByteArray).size > 9223372036854775807) := by have := HL.out; rw [ba_size s]; show ¬ (1 + s.length > _); omega
    have e1 : (ByteArray.mk #[40] ++ ByteArray.mk s.toArray) = ByteArray.mk ([40] ++ s : Str).toArray := ByteArray.mk_append_mk [40] s
    have h2 : ¬ ((⟨([40] ++ s : Str).toArray⟩ : ByteArray).size + (⟨#[41]⟩ : ByteArray).size > 9223372036854775807) := by
      have := HL.out
      rw [ba_size ([40] ++ s)]
      show ¬ (([40] ++ s).length + 1 > _)
      rw [List.length_append]
      simp only [List.length_cons, List.length_nil]
      omega
    have e2 : (ByteArray.mk ([40] ++ s : Str).toArray ++ ByteArray.mk #[41]) = ByteArray.mk ([40] ++ s ++ [41] : Str).toArray := ByteArray.mk_append_mk ([40] ++ s) [41]
    have hb : brack true s = [40] ++ s ++ [41] := rfl
    rw [hb]
    generalize ([40] ++ s ++ [41] : Str) = s2 at *
    generalize ([40] ++ s : Str) = s1 at *
    go_enter Tryz.func87, Tryz.ntmps87
    go_wp2_with fail
    refine HT.out.mono ?_
    rintro e w2 ⟨rfl, hx⟩
    go_wp2
    go_ret
    exact ⟨rfl, X0.out.trans hx⟩

set_option maxRecDepth 10000 in
set_option maxHeartbeats 2000000 in
theorem r_text16 (t : Ty) : ∀ (w : World), TyIn w t → okI t = true → goodT t = true → t.size ≤ 20000 →
    Calls Tryz.prog 121 #[tyV t] w fun e w' => e = .returned (encStr (textT t)) ∧ Ext w w' := by
  induction t using Ty.ind with
  | h t ih =>
  intro w h ok hg hsz
  have IH := hide ih
  have Hk := hide h.all
  have hle := h.le
  have hmx := h.max
  have HB0 := hide (TBox.new w t)
  have X0 : Hid (Ext w (w.alloc (.cells #[encStr t.con, .int .i64 t.var, .slice t.A t.args.length t.cap] 24))) := hide ((Ext.refl w).alloc _)
  have HAt := hide (fun (k : Ty) (hk : k ∈ t.args) (w' : World) (e : Ext w w') => hide (r_atomOf k (textT_few (okI_arg ok hk) (by have := Ty.size_arg hk; omega)) (fun v hv => ih k hk v hv (okI_arg ok hk) (goodT_arg hg hk) (by have := Ty.size_arg hk; omega)) w' ((h.all.args k hk).ext e)))
  have HTl := hide (fun (k : Ty) (hk : k ∈ t.args) (w' : World) (e : Ext w w') => hide (ih k hk w' ((h.all.args k hk).ext e) (okI_arg ok hk) (goodT_arg hg hk) (by have := Ty.size_arg hk; omega)))
  have HLr := hide (fun k => restT_few ok hsz k)
  have HL := hide (textT_few ok hsz)
  have c0 := HB0.out.c0
  have c1 := HB0.out.c1
  have c2 := HB0.out.c2
  have v0 := okI_lo ok
  have v1 := okI_hi ok
  cases hc : (t.con == [])
  · cases hf : (t.con == [45, 62])
    · have HE : Hid (textT t = headT t ++ restT t.args) := hide (textT_else (by rintro ⟨h1, -⟩; rw [h1] at hf; cases hf))
      have hh : headT t = t.con := by unfold headT; rw [if_neg (by intro h1; rw [h1] at hc; cases hc)]
      rw [HE.out]
      clear HE HTl HL ih ok hg hsz IH
      have HAll := hide h.all
      clear h
      rw [hh] at HLr ⊢
      clear hh
      unfold tyV
      go_enter Tryz.func121, Tryz.ntmps121
      go_wp2
      generalize (w.alloc (.cells #[encStr t.con, .int .i64 t.var, .slice t.A t.args.length t.cap] 24)) = w0 at *
      clear c0 c1 c2
      go_loopw [4, 5] (fun s i wr => ∃ k : Nat, k ≤ t.args.length ∧ i = .int .i64 k ∧ s = encStr (t.con ++ restT (t.args.take k)) ∧ Hid (Ext w0 wr)) (fun _ i _ => t.args.length - (intOf i).toNat)
      case atStart => exact ⟨0, Nat.zero_le _, rfl, by simp [restT], hide (Ext.refl _)⟩
      case round =>
        obtain ⟨k, hk, rfl, rfl, HX⟩ := hrel
        have HB := hide (HB0.out.ext HX.out)
        have hc2 := HB.out.c2
        by_cases hlt : k < t.args.length
        · have hlt' : (k : Int) < (t.args.length : Int) := by omega
          have hk0 : (0 : Int) ≤ (k : Int) := by omega
          obtain ⟨b, o, hA, hb, q0, q1, q2⟩ := (HAll.out.ext (X0.out.trans HX.out)).at_ hlt
          have hcm := List.getElem_mem hlt
          have HC := hide (HAt.out _ hcm wr (X0.out.trans HX.out))
          have hcat : t.con ++ restT (t.args.take (k + 1)) = (t.con ++ restT (t.args.take k)) ++ (([32] : Str) ++ brack (decide (0 < (t.args[k]'hlt).args.length)) (textT (t.args[k]'hlt))) := by rw [restT_take _ hlt, List.append_assoc]
          have hlen := HLr.out (k + 1)
          rw [hcat] at hlen
          rw [hA] at hc2
          clear hA hcm
          generalize t.args[k]'hlt = c at *
          unfold tyV at HC
          generalize brack (decide (0 < c.args.length)) (textT c) = sc at *
          have HR : Hid (encStr (t.con ++ restT (t.args.take k) ++ (([32] : Str) ++ sc)) = encStr (t.con ++ restT (t.args.take (k + 1)))) := hide (by rw [hcat])
          clear hcat
          generalize t.con ++ restT (t.args.take k) = S0 at *
          have hs1 : ¬ ((⟨#[32]⟩ : ByteArray).size + (⟨sc.toArray⟩ : ByteArray).size > 9223372036854775807) := by
            rw [List.length_append, List.length_append] at hlen
            rw [ba_size sc]
            show ¬ (1 + sc.length > _)
            omega
          have e1 : (ByteArray.mk #[32] ++ ByteArray.mk sc.toArray) = ByteArray.mk (([32] : Str) ++ sc).toArray := ByteArray.mk_append_mk [32] sc
          have hs2 : ¬ ((⟨S0.toArray⟩ : ByteArray).size + (⟨(([32] : Str) ++ sc).toArray⟩ : ByteArray).size > 9223372036854775807) := by
            rw [List.length_append] at hlen
            rw [ba_size S0, ba_size (([32] : Str) ++ sc)]
            omega
          have e2 : (ByteArray.mk S0.toArray ++ ByteArray.mk (([32] : Str) ++ sc).toArray) = ByteArray.mk (S0 ++ (([32] : Str) ++ sc)).toArray := ByteArray.mk_append_mk S0 (([32] : Str) ++ sc)
          clear hlen
          generalize S0 ++ (([32] : Str) ++ sc) = S2 at *
          generalize ([32] : Str) ++ sc = S1 at *
          go_wp2_with fail
          refine HC.out.out.mono ?_
          rintro e w3 ⟨rfl, hx3⟩
          have X3 : Hid (Ext w0 w3) := hide (HX.out.trans hx3)
          clear hx3
          go_wp2
          go_roundw
          case rel => exact ⟨k + 1, hlt, by go_num, HR.out, X3⟩
          case measure => simp [intOf]; omega
        · have hge : ¬ (k : Int) < (t.args.length : Int) := by omega
          have HR : Hid (t.con ++ restT (t.args.take k) = t.con ++ restT t.args) := hide (by rw [List.take_of_length_le (by omega)])
          rw [HR.out]
          go_wp2
          go_ret
          exact ⟨rfl, X0.out.trans HX.out⟩
    · have hf2 := goodT_fun hg hf
      have hf1 : t.con = [45, 62] := by simpa using hf
      have h0 : 0 < t.args.length := by omega
      have h1 : 1 < t.args.length := by omega
      have HE := hide (textT_fun hf1 h0 h1 hf2)
      obtain ⟨b, o, hA, hb, q0, q1, q2⟩ := (Hk.out.ext X0.out).at_ h0
      obtain ⟨b', o', hA', hb', r0, r1, r2⟩ := (Hk.out.ext X0.out).at_ h1
      have hbo : (⟨b', o', none⟩ : Addr) = ⟨b, o, none⟩ := Option.some.inj (hA'.symm.trans hA)
      cases hbo
      clear hA' hb'
      have HA := hide (HTl.out _ (List.getElem_mem h0))
      have HB2 := hide (HTl.out _ (List.getElem_mem h1))
      have LA := hide (textT_few (okI_arg ok (List.getElem_mem h0)) (by have := Ty.size_arg (List.getElem_mem h0); omega))
      have LT : Hid ((brack (decide ((t.args[0]'h0).con = [45, 62])) (textT (t.args[0]'h0)) ++ ([32, 45, 62, 32] : Str) ++ textT (t.args[1]'h1)).length ≤ 3000000000000000000) := hide (by rw [← HE.out]; exact HL.out)
      rw [HE.out]
      clear HE HTl HLr HL ih ok hsz IH Hk HAt hg hf1
      clear h
      have hdec : decide ((t.args[0]'h0).con = [45, 62]) = ((t.args[0]'h0).con == [45, 62]) := by rw [Bool.eq_iff_iff]; simp
      rw [hdec] at LT ⊢
      clear hdec
      have HS : Hid (∀ w', Ext (w.alloc (.cells #[encStr t.con, .int .i64 t.var, .slice (some ⟨b, o, none⟩) t.args.length t.cap] 24)) w' → (w'.cell? ⟨w.heap.size, 2, none⟩ = some (.slice (some ⟨b, o, none⟩) t.args.length t.cap) ∧ w'.cell? ⟨b, o, none⟩ = some (.string ⟨(t.args[0]'h0).con.toArray⟩) ∧ w'.cell? ⟨b, o + 1, none⟩ = some (.int .i64 (t.args[0]'h0).var) ∧ w'.cell? ⟨b, o + 2, none⟩ = some (.slice (t.args[0]'h0).A (t.args[0]'h0).args.length (t.args[0]'h0).cap) ∧ w'.cell? ⟨b, o + 3, none⟩ = some (.string ⟨(t.args[1]'h1).con.toArray⟩) ∧ w'.cell? ⟨b, o + 3 + 1, none⟩ = some (.int .i64 (t.args[1]'h1).var) ∧ w'.cell? ⟨b, o + 3 + 2, none⟩ = some (.slice (t.args[1]'h1).A (t.args[1]'h1).args.length (t.args[1]'h1).cap))) := hide (by
        rw [hA] at c2 q0 q1 q2 r0 r1 r2
        exact fun w' e => ⟨e.cell c2, e.cell q0, e.cell q1, e.cell q2, e.cell r0, e.cell r1, e.cell r2⟩)
      unfold tyV at HA HB2 ⊢
      rw [hA] at c0 c1 c2 X0 ⊢
      clear q0 q1 q2 r0 r1 r2 HB0 hle hmx hb hA
      generalize textT (t.args[0]'h0) = ta at *
      generalize textT (t.args[1]'h1) = tb at *
      generalize t.args[0]'h0 = ka at *
      generalize t.args[1]'h1 = kb at *
      clear h0 h1
      cases hbb : (ka.con == [45, 62])
      · try rw [hbb] at LT
        have hbr : brack false ta = ta := rfl
        rw [hbr] at LT ⊢
        clear hbr
        have hs1 : ¬ ((⟨ta.toArray⟩ : ByteArray).size + (⟨#[32, 45, 62, 32]⟩ : ByteArray).size > 9223372036854775807) := by
          have := LT.out
          rw [ba_size ta]
          show ¬ (ta.length + 4 > _)
          simp only [List.length_append, List.length_cons, List.length_nil] at this
          omega
        have e1 : (ByteArray.mk ta.toArray ++ ByteArray.mk #[32, 45, 62, 32]) = ByteArray.mk (ta ++ ([32, 45, 62, 32] : Str)).toArray := ByteArray.mk_append_mk ta [32, 45, 62, 32]
        have hs2 : ¬ ((⟨(ta ++ ([32, 45, 62, 32] : Str)).toArray⟩ : ByteArray).size + (⟨tb.toArray⟩ : ByteArray).size > 9223372036854775807) := by
          have := LT.out
          rw [ba_size (ta ++ ([32, 45, 62, 32] : Str)), ba_size tb]
          simp only [List.length_append, List.length_cons, List.length_nil] at this ⊢
          omega
        have e2 : (ByteArray.mk (ta ++ ([32, 45, 62, 32] : Str)).toArray ++ ByteArray.mk tb.toArray) = ByteArray.mk (ta ++ ([32, 45, 62, 32] : Str) ++ tb).toArray := ByteArray.mk_append_mk (ta ++ ([32, 45, 62, 32] : Str)) tb
        clear LT
        generalize ta ++ ([32, 45, 62, 32] : Str) ++ tb = s2 at *
        generalize ta ++ ([32, 45, 62, 32] : Str) = s1 at *
        generalize t.args.length = n at *
        subst hf2
        obtain ⟨-, p0, p1, p2, p3, p4, p5⟩ := HS.out _ (Ext.refl _)
        go_enter Tryz.func121, Tryz.ntmps121
        go_wp2_with fail
        refine (HA.out _ X0.out).out.mono ?_
        rintro e w2 ⟨rfl, hx2⟩
        have X2 := hide (X0.out.trans hx2)
        obtain ⟨d, d0, d1, d2, d3, d4, d5⟩ := HS.out _ hx2
        clear c0 c1 c2 p0 p1 p2 p3 p4 p5 hx2 X0 HS
        go_wp2_with fail
        refine (HB2.out _ X2.out).out.mono ?_
        rintro e w3 ⟨rfl, hx3⟩
        go_wp2
        go_ret
        exact ⟨rfl, X2.out.trans hx3⟩
      · try rw [hbb] at LT
        have hbr : brack true ta = ([40] : Str) ++ ta ++ ([41] : Str) := rfl
        rw [hbr] at LT ⊢
        clear hbr
        have hs3 : ¬ ((⟨#[40]⟩ : ByteArray).size + (⟨ta.toArray⟩ : ByteArray).size > 9223372036854775807) := by have := LA.out; rw [ba_size ta]; show ¬ (1 + ta.length > _); omega
        have e3 : (ByteArray.mk #[40] ++ ByteArray.mk ta.toArray) = ByteArray.mk (([40] : Str) ++ ta).toArray := ByteArray.mk_append_mk [40] ta
        have hs4 : ¬ ((⟨(([40] : Str) ++ ta).toArray⟩ : ByteArray).size + (⟨#[41]⟩ : ByteArray).size > 9223372036854775807) := by
          have := LA.out
          rw [ba_size (([40] : Str) ++ ta)]
          show ¬ ((([40] : Str) ++ ta).length + 1 > _)
          rw [List.length_append]
          simp only [List.length_cons, List.length_nil]
          omega
        have e4 : (ByteArray.mk (([40] : Str) ++ ta).toArray ++ ByteArray.mk #[41]) = ByteArray.mk (([40] : Str) ++ ta ++ ([41] : Str)).toArray := ByteArray.mk_append_mk (([40] : Str) ++ ta) [41]
        generalize ([40] : Str) ++ ta ++ ([41] : Str) = sa at *
        generalize ([40] : Str) ++ ta = sb at *
        have hs1 : ¬ ((⟨sa.toArray⟩ : ByteArray).size + (⟨#[32, 45, 62, 32]⟩ : ByteArray).size > 9223372036854775807) := by
          have := LT.out
          rw [ba_size sa]
          show ¬ (sa.length + 4 > _)
          simp only [List.length_append, List.length_cons, List.length_nil] at this
          omega
        have e1 : (ByteArray.mk sa.toArray ++ ByteArray.mk #[32, 45, 62, 32]) = ByteArray.mk (sa ++ ([32, 45, 62, 32] : Str)).toArray := ByteArray.mk_append_mk sa [32, 45, 62, 32]
        have hs2 : ¬ ((⟨(sa ++ ([32, 45, 62, 32] : Str)).toArray⟩ : ByteArray).size + (⟨tb.toArray⟩ : ByteArray).size > 9223372036854775807) := by
          have := LT.out
          rw [ba_size (sa ++ ([32, 45, 62, 32] : Str)), ba_size tb]
          simp only [List.length_append, List.length_cons, List.length_nil] at this ⊢
          omega
        have e2 : (ByteArray.mk (sa ++ ([32, 45, 62, 32] : Str)).toArray ++ ByteArray.mk tb.toArray) = ByteArray.mk (sa ++ ([32, 45, 62, 32] : Str) ++ tb).toArray := ByteArray.mk_append_mk (sa ++ ([32, 45, 62, 32] : Str)) tb
        clear LT
        generalize sa ++ ([32, 45, 62, 32] : Str) ++ tb = s2 at *
        generalize sa ++ ([32, 45, 62, 32] : Str) = s1 at *
        generalize t.args.length = n at *
        subst hf2
        obtain ⟨-, p0, p1, p2, p3, p4, p5⟩ := HS.out _ (Ext.refl _)
        go_enter Tryz.func121, Tryz.ntmps121
        go_wp2_with fail
        refine (HA.out _ X0.out).out.mono ?_
        rintro e w2 ⟨rfl, hx2⟩
        have X2 := hide (X0.out.trans hx2)
        obtain ⟨d, d0, d1, d2, d3, d4, d5⟩ := HS.out _ hx2
        clear c0 c1 c2 p0 p1 p2 p3 p4 p5 hx2 X0 HS
        go_wp2_with fail
        refine (HB2.out _ X2.out).out.mono ?_
        rintro e w3 ⟨rfl, hx3⟩
        go_wp2
        go_ret
        exact ⟨rfl, X2.out.trans hx3⟩
  · have hcn : t.con = [] := by simpa using hc
    have HE : Hid (textT t = varS t.var) := hide (by rw [textT_else (by rw [hcn]; simp), if_pos hcn, goodT_var hg hc]; simp [restT])
    rw [HE.out]
    rw [hcn] at X0
    clear HE HAt HTl HLr HL ih ok hg hsz IH Hk h HB0
    unfold tyV
    by_cases hv : 0 ≤ t.var
    · have hv' : decide (t.var ≥ 0) = true := decide_eq_true hv
      have HN := hide (fun w' => r_letter03 t.var v1 w')
      have hvs : varS t.var = letter t.var := by unfold varS; rw [if_pos hv]
      rw [hvs]
      clear hvs
      generalize letter t.var = s at *
      go_enter Tryz.func121, Tryz.ntmps121
      go_wp2_with fail
      refine (HN.out _).mono ?_
      rintro e w2 ⟨rfl, hx⟩
      go_wp2
      go_ret
      exact ⟨rfl, X0.out.trans hx⟩
    · have hv' : decide (t.var ≥ 0) = false := decide_eq_false hv
      obtain ⟨m, hm⟩ : ∃ m : Nat, -1 - t.var = m := ⟨(-1 - t.var).toNat, by omega⟩
      have HT := hide (fun w' => r_text02 m (by omega) w')
      have H20 := hide (digs_20 (show m ≤ 9223372036854775807 by omega))
      have e1 : (-1 - t.var).toNat = m := by omega
      have hvs : varS t.var = [63] ++ digs m := by unfold varS; rw [if_neg hv, e1]; rfl
      rw [hvs]
      clear hvs e1
      generalize digs m = s at *
      go_enter Tryz.func121, Tryz.ntmps121
      go_wp2_with fail
      refine (HT.out _).mono ?_
      rintro e w2 ⟨rfl, hx⟩
      have hsz : ¬ ((⟨#[63]⟩ : ByteArray).size + (⟨s.toArray⟩ : ByteArray).size > 9223372036854775807) := by have := H20.out; rw [ba_size s]; show ¬ (1 + s.length > _); omega
      go_wp2
      go_ret
      refine ⟨?_, X0.out.trans hx⟩
      exact congrArg (fun b => Ending.returned (Value.string b)) (ByteArray.mk_append_mk [63] s)

end Go.Proofs.YtcnepaiapefggaaGreat

/- Contracts on the reference: a type's text, no brackets. -/
namespace Go.Proofs.YtcnepaiapefggaaGreat
open Go.RowKit

set_option maxRecDepth 10000 in
set_option maxHeartbeats 2000000 in
theorem r_type31 (t : Ty) (w : World) (h : TyIn w t) (ok : okI t = true) (hg : goodT t = true) (hsz : t.size ≤ 20000) : Calls Tryz.prog 45 #[tyV t] w fun e w' => e = .returned (encStr (textT t)) ∧ Ext w w' := by
  have X0 : Hid (Ext w (w.alloc (.cells #[encStr t.con, .int .i64 t.var, .slice t.A t.args.length t.cap] 24))) := hide ((Ext.refl w).alloc _)
  have HB := hide (TBox.new w t)
  have HL := hide (textT_few ok hsz)
  have HA := hide (r_atomOf t HL.out (fun v hv => r_text16 t v hv ok hg hsz) _ (h.ext X0.out))
  clear h ok hg hsz
  unfold tyV at *
  generalize textT t = s at *
  cases hd : decide (0 < t.args.length)
  · rw [hd] at HA
    go_enter Tryz.func45, Tryz.ntmps45
    go_wp2_with fail
    refine HA.out.mono ?_
    rintro e w2 ⟨rfl, hx⟩
    have c2 := (HB.out.ext hx).c2
    go_wp2
    go_ret
    exact ⟨rfl, X0.out.trans hx⟩
  · rw [hd] at HA
    have hb : brack true s = ([40] : Str) ++ s ++ ([41] : Str) := rfl
    rw [hb] at HA
    clear hb
    obtain ⟨S, hS⟩ : ∃ S : Str, S = ([40] : Str) ++ s ++ ([41] : Str) := ⟨_, rfl⟩
    have hS1 : S.length = s.length + 2 := by rw [hS]; simp
    have hS2 : (S.drop 1).take (S.length - 1 - 1) = s := by rw [hS1, hS]; simp
    rw [← hS] at HA
    clear hS
    have l0 : 2 ≤ S.length := by omega
    have l1 : S.length ≤ 4000000000000000000 := by have := HL.out; omega
    have hsl := fun w' => sl_both S 1 (S.length - 1) 1 ((S.length : Int) - 1) (by omega) (by omega) rfl (by omega) w'
    rw [hS2] at hsl
    clear hS1 hS2
    go_enter Tryz.func45, Tryz.ntmps45
    go_wp2_with fail
    refine HA.out.mono ?_
    rintro e w2 ⟨rfl, hx⟩
    have c2 := (HB.out.ext hx).c2
    go_wp2
    go_ret
    exact ⟨rfl, X0.out.trans hx⟩

end Go.Proofs.YtcnepaiapefggaaGreat

/- A legal type's text may be told. -/
namespace Go.Proofs.YtcnepaiapefggaaGreat
open Go.RowKit

theorem allB_mono {f g : Ty → Bool} (h : ∀ t, f t = true → g t = true) (t : Ty) : t.allB f = true → t.allB g = true := by
  induction t using Ty.ind with
  | h t ih =>
  intro k
  rw [allB_eq, Bool.and_eq_true, List.all_eq_true] at k ⊢
  exact ⟨h t k.1, fun x hx => ih x hx (k.2 x hx)⟩
theorem good_of_legal {t : Ty} (h : legalD t = true) : goodT t = true := by
  unfold legalD at h
  rw [Bool.and_eq_true] at h
  unfold shapeD at h
  refine allB_mono (fun x hx => ?_) t h.2
  rw [Bool.or_eq_true] at hx
  rcases hx with hx | hx
  · have hc : x.con ≠ [] ∧ x.con ≠ [45, 62] := by
      constructor
      · intro e
        unfold dictB at hx
        rw [e, show classS [] = [] from rfl] at hx
        simp at hx
      · intro e
        unfold dictB at hx
        rw [e, show classS [45, 62] = [] from rfl] at hx
        simp at hx
    simp [hc.1, hc.2]
  · unfold headOk at hx
    cases h1 : (x.con == [])
    · rw [h1] at hx
      cases h2 : (x.con == [45, 62])
      · rfl
      · rw [h2] at hx
        simp at hx
        simp [hx.2]
    · rw [h1] at hx
      have e : x.con = [] := by simpa using h1
      simp at hx
      rw [e, hx]
      rfl

end Go.Proofs.YtcnepaiapefggaaGreat
