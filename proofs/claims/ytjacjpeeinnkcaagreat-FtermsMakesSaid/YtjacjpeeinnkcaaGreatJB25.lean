/- Contract: chapter 31's example. -/
import Derived.Test.YtjacjpeeinnkcaaGreatJB24
import Derived.Deep.DeepCutAuto
import Derived.Test.YtjacjpeeinnkcaaGreatProg
/- Contract: chapter 31's example. -/
namespace Go.Proofs.YtjacjpeeinnkcaaGreat
open Go.RowKit

theorem ex_text {p : Po} (hv : p.vars = [0]) (ht : p.ty.pure = .mk [45, 62] 0 [.mk [123, 67, 125] 0 [.mk [] 0 []], .mk [] 0 []]) :
    polyS p = [102, 111, 114, 97, 108, 108, 32, 97, 46, 32, 123, 67, 125, 32, 97, 32, 45, 62, 32, 97] := by
  obtain ⟨A, c, A1, c1, A2, c2, A3, c3, e⟩ := exT_of ht
  unfold polyS
  rw [e, exT_legal, hv, exT_text]
  rfl
theorem ex_free {p : Po} (hv : p.vars = []) (ht : p.ty.pure = .mk [45, 62] 0 [.mk [123, 67, 125] 0 [.mk [] 0 []], .mk [] 0 []]) : freeL p = [0] := by
  obtain ⟨A, c, A1, c1, A2, c2, A3, c3, e⟩ := exT_of ht
  unfold freeL
  rw [e, exT_vars, hv]
  rfl
theorem ex_none {p : Po} {v : Int} (hv : p.vars = [v]) (ht : p.ty.pure = .mk [45, 62] 0 [.mk [123, 67, 125] 0 [.mk [] v []], .mk [] v []]) : freeL p = [] := by
  obtain ⟨A, c, A1, c1, A2, c2, A3, c3, e⟩ := exT_of ht
  unfold freeL
  rw [e, exT_vars, hv]
  simp [onceI, onceGo]
theorem ex_alike {p q : Po} (hv : p.vars = [0]) (ht : p.ty.pure = .mk [45, 62] 0 [.mk [123, 67, 125] 0 [.mk [] 0 []], .mk [] 0 []]) (hv' : q.vars = [5]) (ht' : q.ty.pure = .mk [45, 62] 0 [.mk [123, 67, 125] 0 [.mk [] 5 []], .mk [] 5 []]) : alikeP p q = true := by
  unfold alikeP
  rw [ex_none hv ht, ex_none hv' ht', hv, hv', ht]
  obtain ⟨A, c, A1, c1, A2, c2, A3, c3, e⟩ := exT_of ht'
  rw [e, show ([0] : List Int).map varT = [varT 0] from rfl, exT_put]
  have : eqP (.mk [45, 62] 0 [.mk [123, 67, 125] 0 [.mk [] 0 []], .mk [] 0 []]) (.mk [45, 62] 0 [.mk [123, 67, 125] 0 [.mk [] 0 []], .mk [] 0 []]) = true := by unfold eqP; exact @decide_eq_true _ (Classical.propDecidable _) rfl
  rw [this]
  rfl
theorem ex_unlike {p q : Po} (hv : p.vars = [0]) (hv' : q.vars = []) : alikeP p q = false := by
  unfold alikeP
  rw [hv, hv']
  rfl

theorem ex_cls (b : Nat) : dictB (dictT [67] (varT 3) b) = true ∧ clsOf (dictT [67] (varT 3) b) = [67] ∧ argOf (dictT [67] (varT 3) b) = varT 3 := by
  have h : dictB (dictT [67] (varT 3) b) = true := by
    unfold dictB
    show (!(classS [123, 67, 125] == []) && ((1 : Nat) == 1) && ((0 : Int) == 0)) = true
    decide
  refine ⟨h, ?_, ?_⟩
  · unfold clsOf
    rw [h, if_pos rfl]
    show classS [123, 67, 125] = [67]
    decide
  · unfold argOf
    rw [h, if_pos rfl]
    rfl
theorem ex_cls0 : dictB (Ty.mk [67] 0 none 0 []) = false := by
  unfold dictB
  show (!(classS [67] == []) && ((0 : Nat) == 1) && ((0 : Int) == 0)) = false
  decide
theorem ex_bad : legalD (Ty.mk [123, 99, 125] 0 none 0 []) = false := by
  unfold legalD
  rw [shapeD_eq]
  show (_ && _ && ((dictB (Ty.mk [123, 99, 125] 0 none 0 []) || headOk [123, 99, 125] 0 0) && _)) = false
  have : dictB (Ty.mk [123, 99, 125] 0 none 0 []) = false := by
    unfold dictB
    show (!(classS [123, 99, 125] == []) && ((0 : Nat) == 1) && ((0 : Int) == 0)) = false
    decide
  rw [this, show headOk [123, 99, 125] 0 0 = false from by decide]
  simp


end Go.Proofs.YtjacjpeeinnkcaaGreat

/- Contract: a variable's type, of the reference. -/
namespace Go.Proofs.YtjacjpeeinnkcaaGreat
open Go.RowKit

theorem r_V16 (v : Int) (w : World) : Calls Tryz.prog 152 #[.int .i64 v] w fun e w' => e = .returned (tyV (.mk [] v none 0 [])) ∧ Ext w w' := by
  go_enter Tryz.func152, Tryz.ntmps152
  go_wp2
  refine bodyPost_ret (v := tyV (.mk [] v none 0 [])) ?_ rfl ⟨rfl, (by repeat (first | exact Ext.refl _ | exact Ext.pre (by simp) | exact Ext.alloc (by assumption) _ | refine Ext.alloc ?_ _ |  refine Ext.more ?_ _ _ | refine Ext.drew ?_ | refine Ext.drewN ?_ _))⟩
  simp [results, Tryz.f152, tyV, Ty.con, Ty.var, Ty.A, Ty.args, Ty.cap, go_sem]

end Go.Proofs.YtjacjpeeinnkcaaGreat

/- Contracts on the reference: a type's text. (A program of ours has printed a part.) -/
namespace Go.Proofs.YtjacjpeeinnkcaaGreat
open Go.RowKit

/-- May a type's text be told? -/
noncomputable def goodT : Ty → Bool := Ty.allB fun t => (!(t.con == [45, 62]) || decide (t.args.length = 2)) && (!(t.con == []) || decide (t.args.length = 0))
theorem goodT_eq (t : Ty) : goodT t = (((!(t.con == [45, 62]) || decide (t.args.length = 2)) && (!(t.con == []) || decide (t.args.length = 0))) && t.args.all goodT) := allB_eq _ t
theorem goodT_arg {t : Ty} (h : goodT t = true) {k : Ty} (hk : k ∈ t.args) : goodT k = true := by
  rw [goodT_eq, Bool.and_eq_true] at h
  exact List.all_eq_true.1 h.2 k hk
theorem goodT_fun {t : Ty} (h : goodT t = true) (hc : (t.con == [45, 62]) = true) : t.args.length = 2 := by
  rw [goodT_eq, hc, Bool.and_eq_true, Bool.and_eq_true] at h
  simpa using h.1.1
theorem goodT_var {t : Ty} (h : goodT t = true) (hc : (t.con == []) = true) : t.args = [] := by
  rw [goodT_eq, hc, Bool.and_eq_true, Bool.and_eq_true] at h
  have := h.1.2
  exact List.eq_nil_of_length_eq_zero (by simpa using this)



end Go.Proofs.YtjacjpeeinnkcaaGreat

/- Contracts on the reference: a type's text, no brackets. -/
namespace Go.Proofs.YtjacjpeeinnkcaaGreat
open Go.RowKit


end Go.Proofs.YtjacjpeeinnkcaaGreat

/- A legal type's text may be told. -/
namespace Go.Proofs.YtjacjpeeinnkcaaGreat
open Go.RowKit

theorem allB_mono {f g : Ty → Bool} (h : ∀ t, f t = true → g t = true) (t : Ty) : t.allB f = true → t.allB g = true := by
  induction t using Ty.ind with
  | h t ih =>
  intro k
  rw [allB_eq, Bool.and_eq_true, List.all_eq_true] at k ⊢
  exact ⟨h t k.1, fun x hx => ih x hx (k.2 x hx)⟩
theorem good_of_legal {t : Ty} (h : legalD t = true) : goodT t = true := by
  unfold legalD at h
  rw [Bool.and_eq_true] at h
  unfold shapeD at h
  refine allB_mono (fun x hx => ?_) t h.2
  rw [Bool.or_eq_true] at hx
  rcases hx with hx | hx
  · have hc : x.con ≠ [] ∧ x.con ≠ [45, 62] := by
      constructor
      · intro e
        unfold dictB at hx
        rw [e, show classS [] = [] from rfl] at hx
        simp at hx
      · intro e
        unfold dictB at hx
        rw [e, show classS [45, 62] = [] from rfl] at hx
        simp at hx
    simp [hc.1, hc.2]
  · unfold headOk at hx
    cases h1 : (x.con == [])
    · rw [h1] at hx
      cases h2 : (x.con == [45, 62])
      · rfl
      · rw [h2] at hx
        simp at hx
        simp [hx.2]
    · rw [h1] at hx
      have e : x.con = [] := by simpa using h1
      simp at hx
      rw [e, hx]
      rfl

end Go.Proofs.YtjacjpeeinnkcaaGreat

/- Contracts on the reference: whether a type of System F may be. (A program of ours has printed a part.) -/
namespace Go.Proofs.YtjacjpeeinnkcaaGreat
open Go.RowKit Go.Sort

def zrow (k : Nat) : List Value := (List.replicate k Ty.zero).flatMap tyC.f
theorem zrow_succ (k : Nat) : zrow (k + 1) = zrow k ++ [.string ⟨#[]⟩, .int .i64 0, .slice none 0 0] := by
  unfold zrow
  rw [List.replicate_succ', List.flatMap_append]
  rfl
/-- A type whose args are empty, as many as there are. -/
def flatA (t : Ty) (A : Option Addr) (c : Nat) : Ty := .mk t.con t.var A c (List.replicate t.args.length Ty.zero)
theorem flatA_legal (t : Ty) (A : Option Addr) (c : Nat) (h : t.args.length < 4096) : legalT (flatA t A c) = headOk t.con t.var t.args.length := by
  have e : (flatA t A c).size = (flatT t 0).size := by
    rw [Ty.size_eq, Ty.size_eq]
    show ((List.replicate t.args.length Ty.zero).map Ty.size).sum + 1 = ((List.replicate (min t.args.length 4095) Ty.zero).map Ty.size).sum + 1
    rw [show min t.args.length 4095 = t.args.length by omega]
  have e2 : (flatA t A c).depth = (flatT t 0).depth := by
    rw [Ty.depth_eq, Ty.depth_eq]
    show ((List.replicate t.args.length Ty.zero).map Ty.depth).foldr max 0 + 1 = ((List.replicate (min t.args.length 4095) Ty.zero).map Ty.depth).foldr max 0 + 1
    rw [show min t.args.length 4095 = t.args.length by omega]
  have e3 : shapeT (flatA t A c) = shapeT (flatT t 0) := by
    rw [shapeT_eq, shapeT_eq]
    show (headOk t.con t.var (List.replicate t.args.length Ty.zero).length && (List.replicate t.args.length Ty.zero).all shapeT) = (headOk t.con t.var (List.replicate (min t.args.length 4095) Ty.zero).length && (List.replicate (min t.args.length 4095) Ty.zero).all shapeT)
    rw [show min t.args.length 4095 = t.args.length by omega]
  have := flat_legal t 0
  unfold legalT at this ⊢
  rw [e, e2, e3]
  exact this
theorem flatA_size (t : Ty) (A : Option Addr) (c : Nat) : (flatA t A c).size = t.args.length + 1 := by
  rw [Ty.size_eq]
  show ((List.replicate t.args.length Ty.zero).map Ty.size).sum + 1 = _
  rw [List.map_replicate, List.sum_replicate_nat, zero_size]
  omega
/-- What the reference tells of a type: all of it is right, where none has too many args. -/
noncomputable def shapeR : Ty → Bool := Ty.allB fun t => dictB t || decide (4096 ≤ t.args.length) || headOk t.con t.var t.args.length
theorem shapeR_eq (t : Ty) : shapeR t = ((dictB t || decide (4096 ≤ t.args.length) || headOk t.con t.var t.args.length) && t.args.all shapeR) := allB_eq _ t
theorem shapeR_D (t : Ty) (h : t.size ≤ 4096) : shapeR t = shapeD t := by
  induction t using Ty.ind with
  | h t ih =>
  rw [shapeR_eq, shapeD_eq]
  have h1 := Ty.args_len t
  have h2 : decide (4096 ≤ t.args.length) = false := by simp; omega
  rw [h2, Bool.or_false]
  congr 1
  rw [Bool.eq_iff_iff, List.all_eq_true, List.all_eq_true]
  exact ⟨fun k x hx => by rw [← ih x hx (by have := Ty.size_arg hx; omega)]; exact k x hx, fun k x hx => by rw [ih x hx (by have := Ty.size_arg hx; omega)]; exact k x hx⟩


end Go.Proofs.YtjacjpeeinnkcaaGreat

/- Contracts on the reference: whether a type of System F is legal. -/
namespace Go.Proofs.YtjacjpeeinnkcaaGreat
open Go.RowKit Go.Sort

theorem legalR_eq (t : Ty) : legalD t = (decide (t.size ≤ 4096) && decide (t.depth ≤ 100) && shapeR t) := by
  unfold legalD
  by_cases h : t.size ≤ 4096
  · rw [shapeR_D t h]
  · rw [show decide (t.size ≤ 4096) = false by simpa using h]
    rfl


end Go.Proofs.YtjacjpeeinnkcaaGreat

/- Contracts on the reference: the text of a type for all of some variables. -/
namespace Go.Proofs.YtjacjpeeinnkcaaGreat
open Go.RowKit

theorem varT_good (v : Int) : goodT (varT v) = true := by rw [goodT_eq]; rfl
theorem varsT_nil : varsT [] = [] := rfl
theorem varsT_ne {l : List Int} (h : l ≠ []) : varsT l ≠ [] := by
  cases l with
  | nil => exact absurd rfl h
  | cons v l => unfold varsT; simp


end Go.Proofs.YtjacjpeeinnkcaaGreat

/- Contract: whether two types are the same, of the reference. -/
namespace Go.Proofs.YtjacjpeeinnkcaaGreat
open Go.RowKit

set_option maxRecDepth 10000 in
set_option maxHeartbeats 2000000 in
theorem r_same16 (a : Ty) : ∀ (b : Ty) (w : World), TyIn w a → TyIn w b → Calls Tryz.prog 85 #[tyV a, tyV b] w fun e w' => e = .returned (.bool (sameB a b)) ∧ Ext w w' := by
  induction a using Ty.ind with
  | h a ih =>
  intro b w ha hb
  have IH := hide ih
  have HKa := hide ha.all
  have HKb := hide hb.all
  have hla := ha.le
  have hma := ha.max
  have hlb := hb.le
  have hmb := hb.max
  obtain ⟨W, hW⟩ : ∃ W, W = (w.alloc (.cells #[encStr a.con, .int .i64 a.var, .slice a.A a.args.length a.cap] 55)).alloc (.cells #[encStr b.con, .int .i64 b.var, .slice b.A b.args.length b.cap] 55) := ⟨_, rfl⟩
  have X0 : Hid (Ext w W) := hide (by rw [hW]; exact ((Ext.refl _).alloc _).alloc _)
  have B1 : Hid (TBox W w.heap.size a) := hide (by rw [hW]; exact (TBox.new w a).ext ((Ext.refl _).alloc _))
  have B2 : Hid (TBox W (w.heap.size + 1) b) := hide (by rw [hW]; have := TBox.new (w.alloc (.cells #[encStr a.con, .int .i64 a.var, .slice a.A a.args.length a.cap] 55)) b; rwa [World.size_alloc] at this)
  have HP := hide (sameB_parts a b)
  clear ih ha hb
  unfold tyV at *
  have c0 := B1.out.c0
  have c1 := B1.out.c1
  have c2 := B1.out.c2
  have d0 := B2.out.c0
  have d1 := B2.out.c1
  have d2 := B2.out.c2
  have key : ∀ c, headB a b = c → (c = false → sameB a b = false) := fun c h e => by subst e; rw [HP.out]; unfold headB at h; rw [h]; rfl
  cases hc : (a.con == b.con)
  · have hR : sameB a b = false := key _ (by unfold headB; simp at hc; simp [hc]) rfl
    rw [hR]
    clear hR key HP
    go_enter Tryz.func85, Tryz.ntmps85
    go_wp2
    rw [← hW]
    clear hW
    go_ret
    exact ⟨rfl, X0.out⟩
  cases hv : (a.var == b.var)
  · have hR : sameB a b = false := key _ (by unfold headB; simp at hv; simp [hv]) rfl
    rw [hR]
    clear hR key HP
    go_enter Tryz.func85, Tryz.ntmps85
    go_wp2
    rw [← hW]
    clear hW
    go_ret
    exact ⟨rfl, X0.out⟩
  have hve : a.var = b.var := by simpa using hv
  cases hl : ((a.args.length : Int) == (b.args.length : Int))
  · have hR : sameB a b = false := key _ (by unfold headB; simp at hl; simp [show ¬ a.args.length = b.args.length by omega]) rfl
    rw [hR]
    clear hR key HP
    clear hv
    rw [← hve] at hW d1 ⊢
    clear hve
    go_enter Tryz.func85, Tryz.ntmps85
    go_wp2
    rw [← hW]
    clear hW
    go_ret
    exact ⟨rfl, X0.out⟩
  have HL : Hid (a.args.length = b.args.length) := hide (by simp at hl; omega)
  have HR : Hid (sameB a b = (a.args.zip b.args).all fun p => sameB p.1 p.2) := hide (by rw [HP.out]; simp at hc hv; simp [hc, hv, HL.out])
  clear key hv hl HP
  generalize sameB a b = R at *
  rw [← hve] at hW d1 ⊢
  rw [← HL.out] at hW d2 ⊢
  clear hve
  go_enter Tryz.func85, Tryz.ntmps85
  go_wp2
  rw [← hW]
  clear hW
  have O1 : Hid (∀ p ∈ (a.args.zip b.args).take 0, sameB p.1 p.2 = true) := hide (by simp)
  have X3' := hide (Ext.refl W)
  go_wp2
  go_loopw [5] (fun i wr => ∃ k : Nat, k ≤ a.args.length ∧ i = .int .i64 k ∧ Hid (∀ p ∈ (a.args.zip b.args).take k, sameB p.1 p.2 = true) ∧ Hid (Ext W wr)) (fun i _ => a.args.length - (intOf i).toNat)
  case atStart => exact ⟨0, Nat.zero_le _, rfl, O1, X3'⟩
  case round =>
    obtain ⟨k, hk, rfl, HA, HX⟩ := hrel
    have C1 := B1.out.ext HX.out
    have C2 := B2.out.ext HX.out
    have c0 := C1.c0
    have c1 := C1.c1
    have c2 := C1.c2
    have d0 := C2.c0
    have d1 := C2.c1
    have d2 := C2.c2
    clear C1 C2
    by_cases hlt : k < a.args.length
    · have hltb : k < b.args.length := by rw [← HL.out]; exact hlt
      have hlt' : (k : Int) < (a.args.length : Int) := by omega
      have hltb' : (k : Int) < (b.args.length : Int) := by omega
      have hk0 : (0 : Int) ≤ (k : Int) := by omega
      have XR := hide (HX.out)
      obtain ⟨p, o, hAa, hp, q0, q1, q2⟩ := (HKa.out.ext (X0.out.trans XR.out)).at_ hlt
      obtain ⟨p', o', hAb, hp', r0, r1, r2⟩ := (HKb.out.ext (X0.out.trans XR.out)).at_ hltb
      have HC := hide (fun w' (e : Ext wr w') => hide (IH.out _ (List.getElem_mem hlt) (b.args[k]'hltb) w' ((HKa.out.args _ (List.getElem_mem hlt)).ext (X0.out.trans (XR.out.trans e))) ((HKb.out.args _ (List.getElem_mem hltb)).ext (X0.out.trans (XR.out.trans e)))))
      have Htk : Hid ((a.args.zip b.args).take (k + 1) = (a.args.zip b.args).take k ++ [(a.args[k]'hlt, b.args[k]'hltb)]) := hide (by
        rw [List.take_succ_eq_append_getElem (by rw [List.length_zip]; omega), List.getElem_zip])
      have Hmem : Hid ((a.args[k]'hlt, b.args[k]'hltb) ∈ a.args.zip b.args) := hide (by rw [List.mem_iff_getElem]; exact ⟨k, by rw [List.length_zip]; omega, List.getElem_zip⟩)
      rw [hAa] at c2
      rw [hAb, ← HL.out] at d2
      clear hAa hAb
      have HSa := hide (fun w' (e : Ext wr w') => And.intro (e.cell c2) (And.intro (e.cell d2) (And.intro (e.cell q0) (And.intro (e.cell q1) (And.intro (e.cell q2) (And.intro (e.cell r0) (And.intro (e.cell r1) (e.cell r2))))))))
      generalize a.args[k]'hlt = x at *
      generalize b.args[k]'hltb = y at *
      go_wp2
      go_region_held3 (fun w' => w'.cell? ⟨w.heap.size, 2, none⟩ = some (.slice (some ⟨p, o, none⟩) a.args.length a.cap) ∧ w'.cell? ⟨w.heap.size + 1, 2, none⟩ = some (.slice (some ⟨p', o', none⟩) a.args.length b.cap) ∧ w'.cell? ⟨p, o + k * 3, none⟩ = some (.string ⟨x.con.toArray⟩) ∧ w'.cell? ⟨p, o + k * 3 + 1, none⟩ = some (.int .i64 x.var) ∧ w'.cell? ⟨p, o + k * 3 + 2, none⟩ = some (.slice x.A x.args.length x.cap) ∧ w'.cell? ⟨p', o' + k * 3, none⟩ = some (.string ⟨y.con.toArray⟩) ∧ w'.cell? ⟨p', o' + k * 3 + 1, none⟩ = some (.int .i64 y.var) ∧ w'.cell? ⟨p', o' + k * 3 + 2, none⟩ = some (.slice y.A y.args.length y.cap)) (first | assumption | go_keep) (first
        | (go_at_call 85
           refine Calls.mono (HC.out _ ((Ext.refl _).drew)).out ?_
           rintro e w5 ⟨rfl, hx5⟩
           have X5 := hide (HX.out.trans (((Ext.refl wr).drew).trans hx5))
           have k5 := HSa.out _ (((Ext.refl wr).drew).trans hx5)
           clear hx5))
      clear k5
      cases hs : sameB x y
      · have hR : R = false := by
          rw [HR.out, ← Bool.not_eq_true, List.all_eq_true]
          intro h
          have := h _ Hmem.out
          rw [hs] at this
          cases this
        clear HR
        subst hR
        go_wp2
        go_ret
        exact ⟨rfl, X0.out.trans (X5.out)⟩
      · go_wp2
        go_roundw
        case rel =>
          refine ⟨k + 1, hlt, by go_num, hide (fun p hp => ?_), X5⟩
          rw [Htk.out, List.mem_append, List.mem_singleton] at hp
          rcases hp with hp | rfl
          · exact HA.out p hp
          · exact hs
        case measure => simp [intOf]; omega
    · have hge : ¬ (k : Int) < (a.args.length : Int) := by omega
      have hR : R = true := by
        rw [HR.out, List.all_eq_true]
        intro p hp
        exact HA.out p (by rw [List.take_of_length_le (by rw [List.length_zip]; omega)]; exact hp)
      clear HR
      subst hR
      go_wp2
      go_ret
      exact ⟨rfl, X0.out.trans (HX.out)⟩

end Go.Proofs.YtjacjpeeinnkcaaGreat

/- The law of what is known of classes at types. -/
namespace Go.Proofs.YtjacjpeeinnkcaaGreat
open Go.RowKit

theorem dict_same (c : Str) (t : Ty) (b b' : Nat) : sameB (dictT c t b) (dictT c t b') = true := sameB_iff.2 (by rw [dictT_pure, dictT_pure])
theorem arg_in {w : World} {t : Ty} (h : TyIn w t) : TyIn w (argOf t) := by
  unfold argOf
  split
  · cases hl : t.args with
    | nil => exact TyIn.zero w
    | cons x l => exact h.all.args x (by rw [hl]; simp)
  · exact TyIn.zero w
theorem few_one {w : World} {t : Ty} {b : Nat} (h : TyIn w t) (hb : w.heap[b]? = some (.cells #[encStr t.con, .int .i64 t.var, .slice t.A t.args.length t.cap] 55)) : TysIn w (some ⟨b, 0, none⟩) [t] := ⟨RowOf.block (t := 55) (fr := (0, 0)) tyC [t] (by simpa [tyC, Ty.cells] using hb), by simpa using h⟩


end Go.Proofs.YtjacjpeeinnkcaaGreat

/- Contracts on the reference: what is free in a type for all of some variables; whether some are; variables as types. -/
namespace Go.Proofs.YtjacjpeeinnkcaaGreat
open Go.RowKit

theorem free_take (l vars : List Int) {k : Nat} (h : k < l.length) : ((l.take (k + 1)).filter fun v => !(vars.any (· == v))) = ((l.take k).filter fun v => !(vars.any (· == v))) ++ if vars.any (· == l[k]'h) then [] else [l[k]'h] := by
  rw [List.take_succ_eq_append_getElem h, List.filter_append]
  congr 1
  cases hb : vars.any (· == l[k]'h) <;> simp [hb]
theorem meets_iff (vars l : List Int) : meetsI vars l = vars.any fun v => l.any (· == v) := by
  unfold meetsI
  rw [Bool.eq_iff_iff, List.any_eq_true, List.any_eq_true]
  constructor
  · rintro ⟨x, hx, h⟩
    obtain ⟨y, hy, e⟩ := List.any_eq_true.1 h
    exact ⟨y, hy, List.any_eq_true.2 ⟨x, hx, by simp at e ⊢; exact e.symm⟩⟩
  · rintro ⟨x, hx, h⟩
    obtain ⟨y, hy, e⟩ := List.any_eq_true.1 h
    exact ⟨y, hy, List.any_eq_true.2 ⟨x, hx, by simp at e ⊢; exact e.symm⟩⟩
theorem onceGo_full (l : List Int) : ∀ out, (onceGo out l).length = out.length + l.length ↔ l.Nodup ∧ ∀ x ∈ l, x ∉ out := by
  induction l with
  | nil => intro out; simp [onceGo]
  | cons x l ih =>
    intro out
    unfold onceGo
    by_cases hx : out.contains x = true
    · rw [if_pos hx]
      have h1 := onceGo_len l out
      rw [List.contains_iff_mem] at hx
      constructor
      · intro h; rw [List.length_cons] at h; omega
      · intro h; exact absurd hx (h.2 x (List.mem_cons_self))
    · rw [if_neg hx]
      rw [List.contains_iff_mem] at hx
      have h1 := ih (out ++ [x])
      rw [List.length_append, List.length_cons, List.length_nil] at h1
      rw [List.length_cons, List.nodup_cons, show out.length + (l.length + 1) = out.length + (0 + 1) + l.length by omega, h1]
      constructor
      · rintro ⟨h2, h3⟩
        refine ⟨⟨fun h => by have := h3 x h; simp at this, h2⟩, fun y hy => ?_⟩
        rcases List.mem_cons.1 hy with rfl | hy
        · exact hx
        · exact fun h => h3 y hy (List.mem_append.2 (.inl h))
      · rintro ⟨⟨h2, h3⟩, h4⟩
        refine ⟨h3, fun y hy h => ?_⟩
        rcases List.mem_append.1 h with h | h
        · exact h4 y (List.mem_cons_of_mem _ hy) h
        · rw [List.mem_singleton] at h; subst h; exact h2 hy
theorem onceI_full (l : List Int) : (onceI l).length = l.length ↔ l.Nodup := by
  have := onceGo_full l []
  unfold onceI
  simpa using this




end Go.Proofs.YtjacjpeeinnkcaaGreat

/- Contract on the reference: whether two types for all of some variables are alike. (A program of ours has printed a part.) -/
namespace Go.Proofs.YtjacjpeeinnkcaaGreat
open Go.RowKit


end Go.Proofs.YtjacjpeeinnkcaaGreat

/- The law of two types for all of some variables. (A program of ours has printed a part.) -/
namespace Go.Proofs.YtjacjpeeinnkcaaGreat
open Go.RowKit

/-- All numbers are int's. -/
def okV (l : List Int) : Prop := ∀ v ∈ l, -9223372036854775808 ≤ v ∧ v ≤ 9223372036854775807
theorem f_TextA (p : Po) (w : World) (h : PoIn w p) (ok : okI p.ty = true) (hsz : p.ty.size ≤ 20000) (hn : p.vars.length ≤ 1000) (hv : okV p.vars) : Calls Tryz.prog 69 #[poV p] w fun e w' => e = .returned (encStr (polyS p)) ∧ Ext w w' := by
  by_cases h0 : p.vars = []
  · exact f_Text0 p w h ok hsz h0
  · exact f_Text1 p w h ok hsz h0 hn hv



end Go.Proofs.YtjacjpeeinnkcaaGreat

/- Arguments that are types for all of some variables, or schemes, opened. -/
namespace Go.Proofs.YtjacjpeeinnkcaaGreat
open Go.RowKit Go.ChangeShapes Go.WideShapes Go.Deep

section
variable {H : Type} {enc : TypeId × Value → H} {P : Program} {w : World} {base : Nat} {spare : Nat → Bool} {held : Bool}
theorem fields_manyZ {t : TypeId} {fs : Array Field} {fuel : Nat} {cs : List Value} {x : DataW H × List MemPlace} (hs : P.underlying t = some (.struct fs)) (h : DataW.trod enc P w base spare held fuel t cs = some x) :
    cs.length = P.cellsOf t ∧ ∃ n, fuel = n + 1 ∧ ∀ (j : Nat) (f : Field), fs[j]? = some f → ∃ y, DataW.trod enc P w base spare held n f.type ((cs.drop f.offset).take (P.cellsOf f.type)) = some y ∧ (Sized P t x.1 → Sized P f.type y.1) := by
  obtain ⟨ys, n, hn, hx, hlen, hyl, hf⟩ := DataW.trod_struct hs h
  refine ⟨hlen, n, hn, fun j f hj => ?_⟩
  have hjl : j < fs.size := (Array.getElem?_eq_some_iff.1 hj).1
  refine ⟨_, (hf j f hj).trans (List.getElem?_eq_getElem (by omega)), fun hz n hn => hz n ?_⟩
  rw [hx]
  unfold DataW.weights
  rw [hs]
  exact DataW.weights_mem_each (j := j) (t := f.type) (by rw [List.getElem?_map, Array.getElem?_toList, hj]; rfl) (by rw [List.getElem?_map, List.getElem?_eq_getElem (by omega)]; rfl) n hn
end

section
variable {H : Type} {enc : TypeId × Value → H} {w : World} {base : Nat} {spare : Nat → Bool} {held : Bool}
set_option maxRecDepth 100000 in
theorem poly_reads (fuel : Nat) (cs : List Value) (x : DataW H × List MemPlace) (h : DataW.trod enc Tryz.prog w base spare held fuel 57 cs = some x) (hz : Sized Tryz.prog 57 x.1) :
    ∃ p : Po, cs = [.slice p.A p.vars.length p.cap, encStr p.ty.con, .int .i64 p.ty.var, .slice p.ty.A p.ty.args.length p.ty.cap] ∧ PoIn w p ∧ okI p.ty = true ∧ okV p.vars := by
  obtain ⟨hl, n, hn, hf⟩ := fields_manyZ Tryz.underlying57 h
  have hl4 : cs.length = 4 := hl.trans (by kernel_rfl)
  obtain ⟨y0, r0, z0⟩ := hf 0 _ rfl
  obtain ⟨y1, r1, z1⟩ := hf 1 _ rfl
  match cs, hl4 with
  | [a0, a1, a2, a3], _ =>
    have e0 : ((([a0, a1, a2, a3] : List Value).drop 0).take (Tryz.prog.cellsOf 29)) = [a0] := by rw [show Tryz.prog.cellsOf 29 = 1 from by kernel_rfl]; rfl
    have e1 : ((([a0, a1, a2, a3] : List Value).drop 1).take (Tryz.prog.cellsOf 55)) = [a1, a2, a3] := by rw [show Tryz.prog.cellsOf 55 = 3 from by kernel_rfl]; rfl
    have r0' : DataW.trod enc Tryz.prog w base spare held n 29 [a0] = some y0 := by rw [← e0]; exact r0
    have r1' : DataW.trod enc Tryz.prog w base spare held n 55 [a1, a2, a3] = some y1 := by rw [← e1]; exact r1
    obtain ⟨A, cp, vs, q0, k1, k2, k3, k4, _⟩ := open_cellsZ intC (fun v : Int => -9223372036854775808 ≤ v ∧ v ≤ 9223372036854775807) Tryz.underlying29 (by kernel_rfl) (fun m hm cs x hh _ => by
      obtain ⟨a, qa, hi⟩ := int_reads Tryz.underlying3 _ _ _ hh
      exact ⟨a, qa, wf_lo hi, wf_hi hi⟩) r0' (z0 hz)
    obtain ⟨t, q1, ht, ok⟩ := type_reads _ _ _ r1' (z1 hz)
    subst q0
    have q1' : [a1, a2, a3] = [encStr t.con, .int .i64 t.var, .slice t.A t.args.length t.cap] := q1
    simp only [List.cons.injEq, and_true] at q1'
    obtain ⟨rfl, rfl, rfl⟩ := q1'
    exact ⟨⟨vs, A, cp, t⟩, rfl, ⟨k1, k2, k3, ht⟩, ok, k4⟩
theorem open_poly {v : Value} {d : DataW H} {p : List MemPlace} (h : DataW.Trod enc Tryz.prog w base spare held 57 v d p) (hv : ∃ cs, v = .agg cs) (hz : Sized Tryz.prog 57 d) : ∃ t : Po, v = poV t ∧ PoIn w t ∧ okI t.ty = true ∧ okV t.vars := by
  obtain ⟨arr, rfl⟩ := hv
  obtain ⟨fuel, hf⟩ := h
  obtain ⟨t, e, ht⟩ := poly_reads fuel _ _ hf hz
  refine ⟨t, ?_, ht⟩
  have e1 : arr.toList = [.slice t.A t.vars.length t.cap, encStr t.ty.con, .int .i64 t.ty.var, .slice t.ty.A t.ty.args.length t.ty.cap] := by simpa [Value.cells] using e
  have e2 : arr = ([.slice t.A t.vars.length t.cap, encStr t.ty.con, .int .i64 t.ty.var, .slice t.ty.A t.ty.args.length t.ty.cap] : List Value).toArray := by rw [← e1]
  rw [e2]
  rfl
end

end Go.Proofs.YtjacjpeeinnkcaaGreat

/- Terms in memory: six cells each, with slices of variables, of types, and of terms. No program in sight. -/
namespace Go.Proofs.YtjacjpeeinnkcaaGreat
open Go.RowKit

inductive Tm where
  | mk (kind n : Int) (name : Str) (V : Option Addr) (vc : Nat) (vars : List Int) (T : Option Addr) (tc : Nat) (types : List Ty) (A : Option Addr) (cap : Nat) (kids : List Tm) : Tm
namespace Tm
def kind : Tm → Int | .mk x _ _ _ _ _ _ _ _ _ _ _ => x
def n : Tm → Int | .mk _ x _ _ _ _ _ _ _ _ _ _ => x
def name : Tm → Str | .mk _ _ x _ _ _ _ _ _ _ _ _ => x
def V : Tm → Option Addr | .mk _ _ _ x _ _ _ _ _ _ _ _ => x
def vc : Tm → Nat | .mk _ _ _ _ x _ _ _ _ _ _ _ => x
def vars : Tm → List Int | .mk _ _ _ _ _ x _ _ _ _ _ _ => x
def T : Tm → Option Addr | .mk _ _ _ _ _ _ x _ _ _ _ _ => x
def tc : Tm → Nat | .mk _ _ _ _ _ _ _ x _ _ _ _ => x
def types : Tm → List Ty | .mk _ _ _ _ _ _ _ _ x _ _ _ => x
def A : Tm → Option Addr | .mk _ _ _ _ _ _ _ _ _ x _ _ => x
def cap : Tm → Nat | .mk _ _ _ _ _ _ _ _ _ _ x _ => x
def kids : Tm → List Tm | .mk _ _ _ _ _ _ _ _ _ _ _ x => x
/-- Induction on a term: what holds of all kids holds of it. -/
theorem ind {p : Tm → Prop} (h : ∀ t, (∀ k ∈ t.kids, p k) → p t) (t : Tm) : p t :=
  Tm.rec (motive_1 := p) (motive_2 := fun l => ∀ k ∈ l, p k) (fun _ _ _ _ _ _ _ _ _ _ _ _ hl => h _ hl) (fun _ hk => by cases hk)
    (fun _ _ hh ht k hk => by rcases List.mem_cons.1 hk with rfl | hk; exact hh; exact ht k hk) t
/-- What is reckoned of a term out of what is reckoned of its kids. -/
noncomputable def fold {β : Type} (f : Tm → List β → β) (t : Tm) : β :=
  Tm.rec (motive_1 := fun _ => β) (motive_2 := fun _ => List β) (fun k n s v vc vs T tc ts a c l r => f (.mk k n s v vc vs T tc ts a c l) r) [] (fun _ _ h t => h :: t) t
theorem fold_eq {β : Type} (f : Tm → List β → β) (t : Tm) : t.fold f = f t (t.kids.map (fold f)) := by
  cases t with
  | mk k n s v vc vs T tc ts a c l =>
    show f _ _ = f _ _
    congr 1
    show Tm.rec_1 (motive_1 := fun _ => β) (motive_2 := fun _ => List β) _ _ _ l = l.map (fold f)
    induction l with
    | nil => rfl
    | cons x l ih => exact congrArg (x.fold f :: ·) ih
noncomputable def size : Tm → Nat := fold fun _ l => l.sum + 1
theorem size_eq (t : Tm) : t.size = (t.kids.map size).sum + 1 := fold_eq _ t
theorem size_pos (t : Tm) : 0 < t.size := by rw [size_eq]; omega
noncomputable def depth : Tm → Nat := fold fun _ l => l.foldr max 0 + 1
theorem depth_eq (t : Tm) : t.depth = (t.kids.map depth).foldr max 0 + 1 := fold_eq _ t
theorem size_kid {t k : Tm} (h : k ∈ t.kids) : k.size < t.size := by rw [size_eq t]; have := Tree.mem_sum size h; omega
theorem kids_len (t : Tm) : t.kids.length < t.size := by
  rw [size_eq t]
  have : ∀ l : List Tm, l.length ≤ (l.map size).sum := by
    intro l
    induction l with
    | nil => simp
    | cons x l ih => have := size_pos x; simp only [List.length_cons, List.map_cons, List.sum_cons]; omega
  have := this t.kids
  omega
/-- A term without its memory: what it says. -/
inductive Pure where
  | mk (kind n : Int) (name : Str) (vars : List Int) (types : List Ty.Pure) (kids : List Pure) : Pure
noncomputable def pure : Tm → Pure := fold fun t l => .mk t.kind t.n t.name t.vars (t.types.map Ty.pure) l
theorem pure_eq (t : Tm) : t.pure = .mk t.kind t.n t.name t.vars (t.types.map Ty.pure) (t.kids.map pure) := fold_eq _ t
def zero : Tm := .mk 0 0 [] none 0 [] none 0 [] none 0 []
end Tm

def Tm.cells (t : Tm) : List Value := [.int .i64 t.kind, .int .i64 t.n, encStr t.name, .slice t.V t.vars.length t.vc, .slice t.T t.types.length t.tc, .slice t.A t.kids.length t.cap]
def tmC : Coder Tm := ⟨6, Tm.cells, fun _ => rfl, by omega⟩
@[go_sem] def tmV (t : Tm) : Value := .agg #[.int .i64 t.kind, .int .i64 t.n, encStr t.name, .slice t.V t.vars.length t.vc, .slice t.T t.types.length t.tc, .slice t.A t.kids.length t.cap]

/-- What a term says of itself stands in memory. -/
structure TmHd (w : World) (t : Tm) : Prop where
  vle : t.vars.length ≤ t.vc
  vmax : t.vc ≤ 9223372036854775807
  tle : t.types.length ≤ t.tc
  tmax : t.tc ≤ 9223372036854775807
  le : t.kids.length ≤ t.cap
  max : t.cap ≤ 9223372036854775807
  txt : t.name.length ≤ 9223372036854775807
  vars : Ints w t.V t.vars
  types : TysIn w t.T t.types
  row : RowOf tmC w t.A t.kids
/-- A term that stands in memory. -/
inductive TmIn (w : World) : Tm → Prop
  | mk {t : Tm} (hd : TmHd w t) (kids : ∀ k ∈ t.kids, TmIn w k) : TmIn w t
/-- Terms that stand in memory, in a row. -/
structure TmsIn (w : World) (A : Option Addr) (l : List Tm) : Prop where
  row : RowOf tmC w A l
  kids : ∀ k ∈ l, TmIn w k

section
variable {w w' : World} {t : Tm}
theorem TmHd.old (h : TmHd w t) (k : Below w.heap.size w w') : TmHd w' t :=
  ⟨h.vle, h.vmax, h.tle, h.tmax, h.le, h.max, h.txt, Row.old h.vars k.block k.size, h.types.old k, Row.old h.row k.block k.size⟩
theorem TmHd.ext (h : TmHd w t) (k : Ext w w') : TmHd w' t := h.old k.below
theorem TmIn.hd (h : TmIn w t) : TmHd w t := by cases h; assumption
theorem TmIn.all (h : TmIn w t) : TmsIn w t.A t.kids := by cases h with | mk h k => exact ⟨h.row, k⟩
theorem TmIn.old (h : TmIn w t) (k : Below w.heap.size w w') : TmIn w' t := by
  induction h with
  | mk h1 _ ih => exact .mk (h1.old k) ih
theorem TmIn.ext (h : TmIn w t) (k : Ext w w') : TmIn w' t := h.old k.below
theorem TmsIn.old {A : Option Addr} {l : List Tm} (h : TmsIn w A l) (k : Below w.heap.size w w') : TmsIn w' A l := ⟨Row.old h.row k.block k.size, fun x hx => (h.kids x hx).old k⟩
theorem TmsIn.ext {A : Option Addr} {l : List Tm} (h : TmsIn w A l) (k : Ext w w') : TmsIn w' A l := h.old k.below
theorem TmsIn.nil (w : World) (A : Option Addr) : TmsIn w A [] := ⟨RowOf.nil _ _ _, by simp⟩
theorem TmIn.zero (w : World) : TmIn w Tm.zero := .mk ⟨Nat.zero_le _, by decide, Nat.zero_le _, by decide, Nat.zero_le _, by decide, by decide, RowOf.nil _ _ _, TysIn.nil _ _, RowOf.nil _ _ _⟩ (by intro k hk; cases hk)
theorem TmsIn.at_ {A : Option Addr} {l : List Tm} (h : TmsIn w A l) {i : Nat} (hi : i < l.length) :
    ∃ b o, A = some ⟨b, o, none⟩ ∧ b < w.heap.size ∧ w.cell? ⟨b, o + i * 6, none⟩ = some (.int .i64 (l[i]'hi).kind) ∧ w.cell? ⟨b, o + i * 6 + 1, none⟩ = some (.int .i64 (l[i]'hi).n) ∧
      w.cell? ⟨b, o + i * 6 + 2, none⟩ = some (.string ⟨(l[i]'hi).name.toArray⟩) ∧ w.cell? ⟨b, o + i * 6 + 3, none⟩ = some (.slice (l[i]'hi).V (l[i]'hi).vars.length (l[i]'hi).vc) ∧
      w.cell? ⟨b, o + i * 6 + 4, none⟩ = some (.slice (l[i]'hi).T (l[i]'hi).types.length (l[i]'hi).tc) ∧ w.cell? ⟨b, o + i * 6 + 5, none⟩ = some (.slice (l[i]'hi).A (l[i]'hi).kids.length (l[i]'hi).cap) := by
  obtain ⟨b, o, e, hb, hc⟩ := RowOf.at_ tmC h.row hi
  refine ⟨b, o, e, hb, ?_, ?_, ?_, ?_, ?_, ?_⟩
  · have := hc 0 (by decide); simpa [tmC, Tm.cells] using this
  · have := hc 1 (by decide); simpa [tmC, Tm.cells] using this
  · have := hc 2 (by decide); simpa [tmC, Tm.cells] using this
  · have := hc 3 (by decide); simpa [tmC, Tm.cells] using this
  · have := hc 4 (by decide); simpa [tmC, Tm.cells] using this
  · have := hc 5 (by decide); simpa [tmC, Tm.cells] using this
theorem TmsIn.cut {A : Option Addr} {l : List Tm} (h : TmsIn w A l) {k cap : Nat} (hk : k ≤ l.length) (hc : l.length ≤ cap) : TmsIn w (if cap = k then A else A.map (·.add (k * 6))) (l.drop k) :=
  ⟨RowOf.cut tmC h.row hk hc, fun x hx => h.kids x (List.mem_of_mem_drop hx)⟩
theorem TmsIn.take {A : Option Addr} {l : List Tm} (h : TmsIn w A l) {k : Nat} (hk : k ≤ l.length) : TmsIn w A (l.take k) :=
  ⟨RowOf.take tmC h.row hk, fun x hx => h.kids x (List.mem_of_mem_take hx)⟩
end

/-! ### Away from a block -/
def OffB (c : Nat) (A : Option Addr) (n : Nat) : Prop := n ≠ 0 → ∀ a, A = some a → a.block ≠ c
theorem OffB.new {w : World} {A : Option Addr} {k n c : Nat} {l : List Value} (h : Row w A k n l) (hc : w.heap.size ≤ c) : OffB c A n := by
  intro hn a ha
  obtain ⟨b, o, e, hb, -⟩ := h.2 (by omega)
  subst ha
  injection e with e
  subst e
  show b ≠ c
  omega
/-- No part of a term lies in block c. -/
inductive AwayM (c : Nat) : Tm → Prop
  | mk {t : Tm} (v : OffB c t.V t.vars.length) (ty : OffB c t.T t.types.length) (tys : ∀ x ∈ t.types, awayB c x = true) (k : OffB c t.A t.kids.length) (kids : ∀ k ∈ t.kids, AwayM c k) : AwayM c t
section
variable {w w' : World} {t : Tm} {c : Nat}
theorem AwayM.v (h : AwayM c t) : OffB c t.V t.vars.length := by cases h; assumption
theorem AwayM.ty (h : AwayM c t) : OffB c t.T t.types.length := by cases h; assumption
theorem AwayM.tys (h : AwayM c t) : ∀ x ∈ t.types, awayB c x = true := by cases h; assumption
theorem AwayM.k (h : AwayM c t) : OffB c t.A t.kids.length := by cases h; assumption
theorem AwayM.kids (h : AwayM c t) : ∀ k ∈ t.kids, AwayM c k := by cases h; assumption
theorem awayM_new (h : TmIn w t) (hc : w.heap.size ≤ c) : AwayM c t := by
  induction h with
  | mk h _ ih => exact .mk (OffB.new h.vars hc) (OffB.new h.types.row hc) (fun x hx => away_new (h.types.args x hx) hc) (OffB.new h.row hc) ih
theorem TmIn.grown {row : Option Nat} (h : TmIn w t) (hg : w.grownBy w' row) (ha : ∀ c, row = some c → AwayM c t) : TmIn w' t := by
  induction h with
  | mk h _ ih =>
    refine .mk ⟨h.vle, h.vmax, h.tle, h.tmax, h.le, h.max, h.txt, row_grown h.vars hg (fun hn a hA e => (ha _ e).v hn a hA rfl), ⟨row_grown h.types.row hg (fun hn a hA e => (ha _ e).ty hn a hA rfl), fun x hx => (h.types.args x hx).grown hg (fun c e => (ha c e).tys x hx)⟩, row_grown h.row hg (fun hn a hA e => (ha _ e).k hn a hA rfl)⟩ (fun k hk => ih k hk (fun c e => (ha c e).kids k hk))
end

noncomputable def msizes (l : List Tm) : Nat := (l.map Tm.size).sum
theorem msizes_snoc (l : List Tm) (t : Tm) : msizes (l ++ [t]) = msizes l + t.size := by simp [msizes]
theorem msizes_take (l : List Tm) {k : Nat} (h : k < l.length) : msizes (l.take (k + 1)) = msizes (l.take k) + (l[k]'h).size := by rw [List.take_succ_eq_append_getElem h, msizes_snoc]
theorem msizes_le (l : List Tm) (k : Nat) : msizes (l.take k) ≤ msizes l := by
  have : msizes l = msizes (l.take k) + msizes (l.drop k) := by unfold msizes; rw [← List.sum_append, ← List.map_append, List.take_append_drop]
  omega

/-! ### The same -/
noncomputable def sameM (a b : Tm) : Bool := @decide (a.pure = b.pure) (Classical.propDecidable _)
theorem sameM_iff {a b : Tm} : sameM a b = true ↔ a.pure = b.pure := by unfold sameM; exact @decide_eq_true_iff _ (Classical.propDecidable _)
noncomputable def allSame {α : Type} (f : α → α → Bool) (l m : List α) : Bool := decide (l.length = m.length) && (l.zip m).all fun p => f p.1 p.2
theorem allSame_iff {α β : Type} (f : α → α → Bool) (g : α → β) (h : ∀ a b, f a b = true ↔ g a = g b) (l m : List α) : allSame f l m = true ↔ l.map g = m.map g := by
  unfold allSame
  rw [Bool.and_eq_true, decide_eq_true_eq, List.all_eq_true]
  induction l generalizing m with
  | nil => cases m <;> simp
  | cons x l ih =>
    cases m with
    | nil => simp
    | cons y m =>
      simp only [List.length_cons, Nat.add_right_cancel_iff, List.zip_cons_cons, List.mem_cons, forall_eq_or_imp, List.map_cons, List.cons.injEq]
      rw [← ih, h]
      exact ⟨fun ⟨h1, h2, h3⟩ => ⟨h2, h1, h3⟩, fun ⟨h2, h1, h3⟩ => ⟨h1, h2, h3⟩⟩
theorem sameM_parts (a b : Tm) : sameM a b = (decide (a.kind = b.kind) && decide (a.n = b.n) && decide (a.name = b.name) && decide (a.vars = b.vars) && allSame sameB a.types b.types && allSame sameM a.kids b.kids) := by
  rw [Bool.eq_iff_iff, sameM_iff, Tm.pure_eq a, Tm.pure_eq b]
  simp only [Bool.and_eq_true, decide_eq_true_eq, Tm.Pure.mk.injEq]
  rw [allSame_iff sameB Ty.pure (fun _ _ => sameB_iff), allSame_iff sameM Tm.pure (fun _ _ => sameM_iff)]
  constructor
  · rintro ⟨h1, h2, h3, h4, h5, h6⟩; exact ⟨⟨⟨⟨⟨h1, h2⟩, h3⟩, h4⟩, h5⟩, h6⟩
  · rintro ⟨⟨⟨⟨⟨h1, h2⟩, h3⟩, h4⟩, h5⟩, h6⟩; exact ⟨h1, h2, h3, h4, h5, h6⟩

end Go.Proofs.YtjacjpeeinnkcaaGreat

/- Arguments that are terms, opened. -/
namespace Go.Proofs.YtjacjpeeinnkcaaGreat
open Go.RowKit Go.ChangeShapes Go.WideShapes Go.Deep

section
variable {H : Type} {enc : TypeId × Value → H} {w : World} {base : Nat} {spare : Nat → Bool} {held : Bool}
theorem open_rowsZ {α : Type} (C : Coder α) (Q : α → Prop) {t e : TypeId} (ht : Tryz.prog.underlying t = some (.slice e)) (hC : Tryz.prog.cellsOf e = C.k)
    (he : ∀ n cs x, DataW.trod enc Tryz.prog w base spare held n e cs = some x → Sized Tryz.prog e x.1 → ∃ a, cs = C.f a ∧ Q a)
    {v : Value} {d : DataW H} {p : List MemPlace} (h : DataW.Trod enc Tryz.prog w base spare held t v d p) (hv : ∃ a n c, v = .slice a n c) (hz : Sized Tryz.prog t d) :
    ∃ (A : Option Addr) (cap : Nat) (xs : List α), v = .slice A xs.length cap ∧ xs.length ≤ cap ∧ cap ≤ 9223372036854775807 ∧ RowOf C w A xs ∧ ∀ x ∈ xs, Q x := by
  obtain ⟨a, n, c, rfl⟩ := hv
  obtain ⟨fuel, hf'⟩ := h
  have hf'' : DataW.trod enc Tryz.prog w base spare held fuel t [.slice a n c] = some (d, p) := by simpa [Value.cells] using hf'
  obtain ⟨A, c', xs, e, h1, h2, h3, h4, -⟩ := open_cellsZ C Q ht hC (fun m _ cs x hh => he m cs x hh) hf'' hz
  exact ⟨A, c', xs, e, h1, h2, h3, h4⟩
theorem term_reads : ∀ (fuel : Nat) (cs : List Value) (x : DataW H × List MemPlace), DataW.trod enc Tryz.prog w base spare held fuel 31 cs = some x → Sized Tryz.prog 31 x.1 → ∃ t : Tm, cs = tmC.f t ∧ TmIn w t := by
  intro fuel
  induction fuel using Nat.strongRecOn with
  | ind fuel IH =>
  intro cs x h hz
  obtain ⟨hl, n, hn, hf⟩ := fields_oneZ Tryz.underlying31 (by kernel_rfl) (by kernel_rfl) h
  obtain ⟨v0, y0, e0, r0, z0⟩ := hf 0 _ rfl
  obtain ⟨v1, y1, e1, r1, z1⟩ := hf 1 _ rfl
  obtain ⟨v2, y2, e2, r2, z2⟩ := hf 2 _ rfl
  obtain ⟨v3, y3, e3, r3, z3⟩ := hf 3 _ rfl
  obtain ⟨v4, y4, e4, r4, z4⟩ := hf 4 _ rfl
  obtain ⟨v5, y5, e5, r5, z5⟩ := hf 5 _ rfl
  obtain ⟨k, q0, -⟩ := int_reads Tryz.underlying3 _ _ _ r0
  obtain ⟨m, q1, -⟩ := int_reads Tryz.underlying3 _ _ _ r1
  obtain ⟨s, q2, hs⟩ := str_readsZ Tryz.underlying9 _ _ _ r2 (z2 hz)
  obtain ⟨V, vc, vs, q3, a1, a2, a3, -, -⟩ := open_cellsZ intC (fun _ : Int => True) Tryz.underlying29 (by kernel_rfl) (fun m hm cs x hh _ => by
    obtain ⟨a, qa, -⟩ := int_reads Tryz.underlying3 _ _ _ hh
    exact ⟨a, qa, trivial⟩) r3 (z3 hz)
  obtain ⟨T, tc, ts, q4, b1, b2, b3, b4, -⟩ := open_cellsZ tyC (fun t => TyIn w t ∧ okI t = true) Tryz.underlying23 (by kernel_rfl) (fun m hm cs x hh => type_reads m cs x hh) r4 (z4 hz)
  obtain ⟨A, cp, ks, q5, c1, c2, c3, c4, -⟩ := open_cellsZ tmC (fun t => TmIn w t) Tryz.underlying24 (by kernel_rfl) (fun m hm cs x hh => IH m (by omega) cs x hh) r5 (z5 hz)
  simp only [List.cons.injEq, and_true, strC] at q0 q1 q2
  subst q0 q1 q2 q3 q4 q5
  refine ⟨.mk k m s V vc vs T tc ts A cp ks, ?_, .mk ⟨a1, a2, b1, b2, c1, c2, Nat.le_trans hs (by decide), a3, ⟨b3, fun x hx => (b4 x hx).1⟩, c3⟩ c4⟩
  match cs, hl with
  | [x0, x1, x2, x3, x4, x5], _ =>
    simp only [List.getElem?_cons_zero, List.getElem?_cons_succ, Option.some.injEq] at e0 e1 e2 e3 e4 e5
    subst e0 e1 e2 e3 e4 e5
    rfl
theorem open_term {v : Value} {d : DataW H} {p : List MemPlace} (h : DataW.Trod enc Tryz.prog w base spare held 31 v d p) (hv : ∃ cs, v = .agg cs) (hz : Sized Tryz.prog 31 d) : ∃ t : Tm, v = tmV t ∧ TmIn w t := by
  obtain ⟨arr, rfl⟩ := hv
  obtain ⟨fuel, hf⟩ := h
  obtain ⟨t, e, ht⟩ := term_reads fuel _ _ hf hz
  refine ⟨t, ?_, ht⟩
  have e1 : arr.toList = tmC.f t := by simpa [Value.cells] using e
  have e2 : arr = (tmC.f t).toArray := by rw [← e1]
  rw [e2]
  rfl
theorem open_terms {v : Value} {d : DataW H} {p : List MemPlace} (h : DataW.Trod enc Tryz.prog w base spare held 24 v d p) (hv : ∃ a n c, v = .slice a n c) (hz : Sized Tryz.prog 24 d) :
    ∃ (A : Option Addr) (cap : Nat) (l : List Tm), v = .slice A l.length cap ∧ l.length ≤ cap ∧ cap ≤ 9223372036854775807 ∧ TmsIn w A l := by
  obtain ⟨A, cap, l, e, h1, h2, h3, h4⟩ := open_rowsZ tmC (fun t => TmIn w t) Tryz.underlying24 (by kernel_rfl) (fun n cs x hh => term_reads n cs x hh) h hv hz
  exact ⟨A, cap, l, e, h1, h2, ⟨h3, h4⟩⟩
theorem open_types {v : Value} {d : DataW H} {p : List MemPlace} (h : DataW.Trod enc Tryz.prog w base spare held 23 v d p) (hv : ∃ a n c, v = .slice a n c) (hz : Sized Tryz.prog 23 d) :
    ∃ (A : Option Addr) (cap : Nat) (l : List Ty), v = .slice A l.length cap ∧ l.length ≤ cap ∧ cap ≤ 9223372036854775807 ∧ TysIn w A l := by
  obtain ⟨A, cap, l, e, h1, h2, h3, h4⟩ := open_rowsZ tyC (fun t => TyIn w t ∧ okI t = true) Tryz.underlying23 (by kernel_rfl) (fun n cs x hh => type_reads n cs x hh) h hv hz
  exact ⟨A, cap, l, e, h1, h2, ⟨h3, fun x hx => (h4 x hx).1⟩⟩
end

end Go.Proofs.YtjacjpeeinnkcaaGreat

/- Arguments that are rows of texts, opened. -/
namespace Go.Proofs.YtjacjpeeinnkcaaGreat
open Go.RowKit Go.ChangeShapes Go.WideShapes Go.Deep

section
variable {H : Type} {enc : TypeId × Value → H} {w : World} {base : Nat} {spare : Nat → Bool} {held : Bool}
theorem open_texts {v : Value} {d : DataW H} {p : List MemPlace} (h : DataW.Trod enc Tryz.prog w base spare held 22 v d p) (hv : ∃ a n c, v = .slice a n c) :
    ∃ (A : Option Addr) (cap : Nat) (l : List Str), v = .slice A l.length cap ∧ l.length ≤ cap ∧ cap ≤ 9223372036854775807 ∧ Strs w A l ∧ ∀ x ∈ l, x.length ≤ 9223372036854775807 := by
  obtain ⟨A, cap, l, h1, h2, h3, h4, h5⟩ := open_rows strC (fun x : Str => x.length ≤ 9223372036854775807) Tryz.underlying22 (by kernel_rfl) (str_reads Tryz.underlying9) h hv
  exact ⟨A, cap, l, h1, h2, h3, strs_iff.2 h4, h5⟩
end
end Go.Proofs.YtjacjpeeinnkcaaGreat

/- Terms in boxes; lambdas and applications in memory. -/
namespace Go.Proofs.YtjacjpeeinnkcaaGreat
open Go.RowKit

/-- A term in a box. -/
def TmBox (w : World) (b : Nat) (t : Tm) : Prop := w.heap[b]? = some (.cells #[.int .i64 t.kind, .int .i64 t.n, encStr t.name, .slice t.V t.vars.length t.vc, .slice t.T t.types.length t.tc, .slice t.A t.kids.length t.cap] 31 (0, 0))
section
variable {w w' : World} {b : Nat} {t : Tm}
theorem TmBox.new (w : World) (t : Tm) : TmBox (w.alloc (.cells #[.int .i64 t.kind, .int .i64 t.n, encStr t.name, .slice t.V t.vars.length t.vc, .slice t.T t.types.length t.tc, .slice t.A t.kids.length t.cap] 31)) w.heap.size t := at_newB _ _ _ rfl
theorem TmBox.lt (h : TmBox w b t) : b < w.heap.size := lt_of_obj h
theorem TmBox.ext (h : TmBox w b t) (e : Ext w w') : TmBox w' b t := (e.heap h.lt).trans h
theorem TmBox.cells (h : TmBox w b t) : w.cell? ⟨b, 0, none⟩ = some (.int .i64 t.kind) ∧ w.cell? ⟨b, 1, none⟩ = some (.int .i64 t.n) ∧ w.cell? ⟨b, 2, none⟩ = some (.string ⟨t.name.toArray⟩) ∧ w.cell? ⟨b, 3, none⟩ = some (.slice t.V t.vars.length t.vc) ∧ w.cell? ⟨b, 4, none⟩ = some (.slice t.T t.types.length t.tc) ∧ w.cell? ⟨b, 5, none⟩ = some (.slice t.A t.kids.length t.cap) :=
  ⟨bytes_block h 0, bytes_block h 1, bytes_block h 2, bytes_block h 3, bytes_block h 4, bytes_block h 5⟩
theorem TmBox.free (h : TmBox w b t) (i : Nat) : w.frozen? ⟨b, i, none⟩ = false := free_block h i
theorem TmBox.frees (h : TmBox w b t) : w.frozen? ⟨b, 0, none⟩ = false ∧ w.frozen? ⟨b, 1, none⟩ = false ∧ w.frozen? ⟨b, 2, none⟩ = false ∧ w.frozen? ⟨b, 3, none⟩ = false ∧ w.frozen? ⟨b, 4, none⟩ = false ∧ w.frozen? ⟨b, 5, none⟩ = false :=
  ⟨h.free 0, h.free 1, h.free 2, h.free 3, h.free 4, h.free 5⟩
theorem TmBox.kept {row : Option Nat} (h : TmBox w b t) (hg : w.grownBy w' row) (hb : row ≠ some b) : TmBox w' b t := (hg.block b h.lt (fun e => hb e.symm)).trans h
end
/-- A term is written into a box. -/
def putTm (w : World) (b : Nat) (t : Tm) : World :=
  (((((w.setCell ⟨b, 0, none⟩ (.int .i64 t.kind)).setCell ⟨b, 1, none⟩ (.int .i64 t.n)).setCell ⟨b, 2, none⟩ (.string ⟨t.name.toArray⟩)).setCell ⟨b, 3, none⟩ (.slice t.V t.vars.length t.vc)).setCell ⟨b, 4, none⟩ (.slice t.T t.types.length t.tc)).setCell ⟨b, 5, none⟩ (.slice t.A t.kids.length t.cap)
theorem grown_tr {a b c : World} {row : Option Nat} (h : a.grownBy b row) (k : b.grownBy c row) : a.grownBy c row := ⟨k.os.trans h.os, k.tape.trans h.tape, k.output.trans h.output, Nat.le_trans h.size k.size, fun j hj hne => (k.block j (Nat.lt_of_lt_of_le hj h.size) hne).trans (h.block j hj hne)⟩
theorem putTm_grown (w : World) (b : Nat) (t : Tm) : w.grownBy (putTm w b t) (some b) :=
  grown_tr (grown_tr (grown_tr (grown_tr (grown_tr (grown_cell _ _ _ _) (grown_cell _ _ _ _)) (grown_cell _ _ _ _)) (grown_cell _ _ _ _)) (grown_cell _ _ _ _)) (grown_cell _ _ _ _)
theorem putTm_size (w : World) (b : Nat) (t : Tm) : (putTm w b t).heap.size = w.heap.size := by simp [putTm, World.setCell]
theorem putTm_box {w : World} {b : Nat} (t : Tm) {v0 v1 v2 v3 v4 v5 : Value} (h : w.heap[b]? = some (.cells #[v0, v1, v2, v3, v4, v5] 31 (0, 0))) : TmBox (putTm w b t) b t := by
  have := blk_setCell (blk_setCell (blk_setCell (blk_setCell (blk_setCell (blk_setCell h 0 (.int .i64 t.kind)) 1 (.int .i64 t.n)) 2 (.string ⟨t.name.toArray⟩)) 3 (.slice t.V t.vars.length t.vc)) 4 (.slice t.T t.types.length t.tc)) 5 (.slice t.A t.kids.length t.cap)
  unfold putTm TmBox
  simpa using this
theorem putTm_ext {W w : World} {b : Nat} (h : Ext W w) (hb : W.heap.size ≤ b) (t : Tm) : Ext W (putTm w b t) := h.grown (putTm_grown w b t) (fun c e => by injection e with e; omega)

/-! ### Lambdas and applications -/
def lamT (s : Str) (x : Ty) (t : Tm) (g k : Nat) : Tm := .mk 3 0 s none 0 [] (some ⟨g, 0, none⟩) 1 [x] (some ⟨k, 0, none⟩) 1 [t]
def lamP (s : Str) (x : Ty.Pure) (t : Tm.Pure) : Tm.Pure := .mk 3 0 s [] [x] [t]
theorem lamT_pure (s : Str) (x : Ty) (t : Tm) (g k : Nat) : (lamT s x t g k).pure = lamP s x.pure t.pure := by rw [Tm.pure_eq]; rfl
theorem lamT_in {w : World} {s : Str} {x : Ty} {t : Tm} {g k : Nat} (hs : s.length ≤ 9223372036854775807) (hx : TyIn w x) (ht : TmIn w t) (hg : TBox w g x) (hk : TmBox w k t) : TmIn w (lamT s x t g k) :=
  .mk ⟨Nat.le_refl _, Nat.zero_le _, by simp [lamT, Tm.types, Tm.tc], (by show 1 ≤ _; omega), by simp [lamT, Tm.kids, Tm.cap], (by show 1 ≤ _; omega), hs, RowOf.nil _ _ _,
    ⟨RowOf.block tyC [x] (by simpa [tyC, Ty.cells, TBox] using hg), fun y hy => by simp [lamT, Tm.types] at hy; subst hy; exact hx⟩,
    RowOf.block tmC [t] (by simpa [tmC, Tm.cells, TmBox] using hk)⟩ (fun y hy => by simp [lamT, Tm.kids] at hy; subst hy; exact ht)
theorem lamT_away {c : Nat} {s : Str} {x : Ty} {t : Tm} {g k : Nat} (hg : g ≠ c) (hk : k ≠ c) (hx : awayB c x = true) (ht : AwayM c t) : AwayM c (lamT s x t g k) :=
  .mk (fun h => absurd rfl h) (fun _ a e => by injection e with e; subst e; exact hg) (fun y hy => by simp [lamT, Tm.types] at hy; subst hy; exact hx)
    (fun _ a e => by injection e with e; subst e; exact hk) (fun y hy => by simp [lamT, Tm.kids] at hy; subst hy; exact ht)
def appT (a b : Tm) (g : Nat) : Tm := .mk 4 0 [] none 0 [] none 0 [] (some ⟨g, 0, none⟩) 2 [a, b]
def appP (a b : Tm.Pure) : Tm.Pure := .mk 4 0 [] [] [] [a, b]
theorem appT_pure (a b : Tm) (g : Nat) : (appT a b g).pure = appP a.pure b.pure := by rw [Tm.pure_eq]; rfl
theorem appT_in {w : World} {a b : Tm} {g : Nat} (ha : TmIn w a) (hb : TmIn w b) (h : w.heap[g]? = some (.cells ([a, b].flatMap tmC.f).toArray 31 (0, 0))) : TmIn w (appT a b g) :=
  .mk ⟨Nat.le_refl _, Nat.zero_le _, Nat.le_refl _, Nat.zero_le _, by simp [appT, Tm.kids, Tm.cap], (by show 2 ≤ _; omega), Nat.zero_le _, RowOf.nil _ _ _, TysIn.nil _ _, RowOf.block tmC [a, b] h⟩ (fun y hy => by
    simp [appT, Tm.kids] at hy
    rcases hy with rfl | rfl
    · exact ha
    · exact hb)
theorem appT_away {c : Nat} {a b : Tm} {g : Nat} (hg : g ≠ c) (ha : AwayM c a) (hb : AwayM c b) : AwayM c (appT a b g) :=
  .mk (fun h => absurd rfl h) (fun h => absurd rfl h) (by simp [appT, Tm.types]) (fun _ x e => by injection e with e; subst e; exact hg) (fun y hy => by
    simp [appT, Tm.kids] at hy
    rcases hy with rfl | rfl
    · exact ha
    · exact hb)
noncomputable def lamsP (l : List (Str × Ty)) (t : Tm.Pure) : Tm.Pure := l.foldr (fun p q => lamP p.1 p.2.pure q) t
theorem lamsP_drop (l : List (Str × Ty)) (t : Tm.Pure) {k : Nat} (h : k < l.length) : lamsP (l.drop k) t = lamP (l[k]'h).1 (l[k]'h).2.pure (lamsP (l.drop (k + 1)) t) := by
  rw [List.drop_eq_getElem_cons h]; rfl
noncomputable def appsP (f : Tm.Pure) (l : List Tm) : Tm.Pure := l.foldl (fun f x => appP f x.pure) f
theorem appsP_take (f : Tm.Pure) (l : List Tm) {k : Nat} (h : k < l.length) : appsP f (l.take (k + 1)) = appP (appsP f (l.take k)) (l[k]'h).pure := by
  unfold appsP
  rw [List.take_succ_eq_append_getElem h, List.foldl_append]
  rfl

end Go.Proofs.YtjacjpeeinnkcaaGreat
