/- Contracts on the reference: a type's text, no brackets. -/
import Derived.Test.YtnomibjbjplieaaGreatJC24
import Derived.Deep.DeepCutAuto
/- Contracts on the reference: a type's text, no brackets. -/
namespace Go.Proofs.YtnomibjbjplieaaGreat
open Go.RowKit


end Go.Proofs.YtnomibjbjplieaaGreat

/- A legal type's text may be told. -/
namespace Go.Proofs.YtnomibjbjplieaaGreat
open Go.RowKit

theorem allB_mono {f g : Ty → Bool} (h : ∀ t, f t = true → g t = true) (t : Ty) : t.allB f = true → t.allB g = true := by
  induction t using Ty.ind with
  | h t ih =>
  intro k
  rw [allB_eq, Bool.and_eq_true, List.all_eq_true] at k ⊢
  exact ⟨h t k.1, fun x hx => ih x hx (k.2 x hx)⟩
theorem good_of_legal {t : Ty} (h : legalD t = true) : goodT t = true := by
  unfold legalD at h
  rw [Bool.and_eq_true] at h
  unfold shapeD at h
  refine allB_mono (fun x hx => ?_) t h.2
  rw [Bool.or_eq_true] at hx
  rcases hx with hx | hx
  · have hc : x.con ≠ [] ∧ x.con ≠ [45, 62] := by
      constructor
      · intro e
        unfold dictB at hx
        rw [e, show classS [] = [] from rfl] at hx
        simp at hx
      · intro e
        unfold dictB at hx
        rw [e, show classS [45, 62] = [] from rfl] at hx
        simp at hx
    simp [hc.1, hc.2]
  · unfold headOk at hx
    cases h1 : (x.con == [])
    · rw [h1] at hx
      cases h2 : (x.con == [45, 62])
      · rfl
      · rw [h2] at hx
        simp at hx
        simp [hx.2]
    · rw [h1] at hx
      have e : x.con = [] := by simpa using h1
      simp at hx
      rw [e, hx]
      rfl

end Go.Proofs.YtnomibjbjplieaaGreat

/- Contracts on the reference: whether a type of System F may be. (A program of ours has printed a part.) -/
namespace Go.Proofs.YtnomibjbjplieaaGreat
open Go.RowKit Go.Sort

def zrow (k : Nat) : List Value := (List.replicate k Ty.zero).flatMap tyC.f
theorem zrow_succ (k : Nat) : zrow (k + 1) = zrow k ++ [.string ⟨#[]⟩, .int .i64 0, .slice none 0 0] := by
  unfold zrow
  rw [List.replicate_succ', List.flatMap_append]
  rfl
/-- A type whose args are empty, as many as there are. -/
def flatA (t : Ty) (A : Option Addr) (c : Nat) : Ty := .mk t.con t.var A c (List.replicate t.args.length Ty.zero)
theorem flatA_legal (t : Ty) (A : Option Addr) (c : Nat) (h : t.args.length < 4096) : legalT (flatA t A c) = headOk t.con t.var t.args.length := by
  have e : (flatA t A c).size = (flatT t 0).size := by
    rw [Ty.size_eq, Ty.size_eq]
    show ((List.replicate t.args.length Ty.zero).map Ty.size).sum + 1 = ((List.replicate (min t.args.length 4095) Ty.zero).map Ty.size).sum + 1
    rw [show min t.args.length 4095 = t.args.length by omega]
  have e2 : (flatA t A c).depth = (flatT t 0).depth := by
    rw [Ty.depth_eq, Ty.depth_eq]
    show ((List.replicate t.args.length Ty.zero).map Ty.depth).foldr max 0 + 1 = ((List.replicate (min t.args.length 4095) Ty.zero).map Ty.depth).foldr max 0 + 1
    rw [show min t.args.length 4095 = t.args.length by omega]
  have e3 : shapeT (flatA t A c) = shapeT (flatT t 0) := by
    rw [shapeT_eq, shapeT_eq]
    show (headOk t.con t.var (List.replicate t.args.length Ty.zero).length && (List.replicate t.args.length Ty.zero).all shapeT) = (headOk t.con t.var (List.replicate (min t.args.length 4095) Ty.zero).length && (List.replicate (min t.args.length 4095) Ty.zero).all shapeT)
    rw [show min t.args.length 4095 = t.args.length by omega]
  have := flat_legal t 0
  unfold legalT at this ⊢
  rw [e, e2, e3]
  exact this
theorem flatA_size (t : Ty) (A : Option Addr) (c : Nat) : (flatA t A c).size = t.args.length + 1 := by
  rw [Ty.size_eq]
  show ((List.replicate t.args.length Ty.zero).map Ty.size).sum + 1 = _
  rw [List.map_replicate, List.sum_replicate_nat, zero_size]
  omega
/-- What the reference tells of a type: all of it is right, where none has too many args. -/
noncomputable def shapeR : Ty → Bool := Ty.allB fun t => dictB t || decide (4096 ≤ t.args.length) || headOk t.con t.var t.args.length
theorem shapeR_eq (t : Ty) : shapeR t = ((dictB t || decide (4096 ≤ t.args.length) || headOk t.con t.var t.args.length) && t.args.all shapeR) := allB_eq _ t
theorem shapeR_D (t : Ty) (h : t.size ≤ 4096) : shapeR t = shapeD t := by
  induction t using Ty.ind with
  | h t ih =>
  rw [shapeR_eq, shapeD_eq]
  have h1 := Ty.args_len t
  have h2 : decide (4096 ≤ t.args.length) = false := by simp; omega
  rw [h2, Bool.or_false]
  congr 1
  rw [Bool.eq_iff_iff, List.all_eq_true, List.all_eq_true]
  exact ⟨fun k x hx => by rw [← ih x hx (by have := Ty.size_arg hx; omega)]; exact k x hx, fun k x hx => by rw [ih x hx (by have := Ty.size_arg hx; omega)]; exact k x hx⟩


end Go.Proofs.YtnomibjbjplieaaGreat

/- Contracts on the reference: whether a type of System F is legal. -/
namespace Go.Proofs.YtnomibjbjplieaaGreat
open Go.RowKit Go.Sort

theorem legalR_eq (t : Ty) : legalD t = (decide (t.size ≤ 4096) && decide (t.depth ≤ 100) && shapeR t) := by
  unfold legalD
  by_cases h : t.size ≤ 4096
  · rw [shapeR_D t h]
  · rw [show decide (t.size ≤ 4096) = false by simpa using h]
    rfl


end Go.Proofs.YtnomibjbjplieaaGreat

/- Contracts on the reference: the text of a type for all of some variables. -/
namespace Go.Proofs.YtnomibjbjplieaaGreat
open Go.RowKit

theorem varT_good (v : Int) : goodT (varT v) = true := by rw [goodT_eq]; rfl
theorem varsT_nil : varsT [] = [] := rfl
theorem varsT_ne {l : List Int} (h : l ≠ []) : varsT l ≠ [] := by
  cases l with
  | nil => exact absurd rfl h
  | cons v l => unfold varsT; simp


end Go.Proofs.YtnomibjbjplieaaGreat

/- Contract: whether two types are the same, of the reference. -/
namespace Go.Proofs.YtnomibjbjplieaaGreat
open Go.RowKit

set_option maxRecDepth 10000 in
set_option maxHeartbeats 2000000 in
theorem r_same16 (a : Ty) : ∀ (b : Ty) (w : World), TyIn w a → TyIn w b → Calls Tryz.prog 41 #[tyV a, tyV b] w fun e w' => e = .returned (.bool (sameB a b)) ∧ Ext w w' := by
  induction a using Ty.ind with
  | h a ih =>
  intro b w ha hb
  have IH := hide ih
  have HKa := hide ha.all
  have HKb := hide hb.all
  have hla := ha.le
  have hma := ha.max
  have hlb := hb.le
  have hmb := hb.max
  obtain ⟨W, hW⟩ : ∃ W, W = (w.alloc (.cells #[encStr a.con, .int .i64 a.var, .slice a.A a.args.length a.cap] 32)).alloc (.cells #[encStr b.con, .int .i64 b.var, .slice b.A b.args.length b.cap] 32) := ⟨_, rfl⟩
  have X0 : Hid (Ext w W) := hide (by rw [hW]; exact ((Ext.refl _).alloc _).alloc _)
  have B1 : Hid (TBox W w.heap.size a) := hide (by rw [hW]; exact (TBox.new w a).ext ((Ext.refl _).alloc _))
  have B2 : Hid (TBox W (w.heap.size + 1) b) := hide (by rw [hW]; have := TBox.new (w.alloc (.cells #[encStr a.con, .int .i64 a.var, .slice a.A a.args.length a.cap] 32)) b; rwa [World.size_alloc] at this)
  have HP := hide (sameB_parts a b)
  clear ih ha hb
  unfold tyV at *
  have c0 := B1.out.c0
  have c1 := B1.out.c1
  have c2 := B1.out.c2
  have d0 := B2.out.c0
  have d1 := B2.out.c1
  have d2 := B2.out.c2
  have key : ∀ c, headB a b = c → (c = false → sameB a b = false) := fun c h e => by subst e; rw [HP.out]; unfold headB at h; rw [h]; rfl
  cases hc : (a.con == b.con)
  · have hR : sameB a b = false := key _ (by unfold headB; simp at hc; simp [hc]) rfl
    rw [hR]
    clear hR key HP
    go_enter Tryz.func41, Tryz.ntmps41
    go_wp2
    rw [← hW]
    clear hW
    go_ret
    exact ⟨rfl, X0.out⟩
  cases hv : (a.var == b.var)
  · have hR : sameB a b = false := key _ (by unfold headB; simp at hv; simp [hv]) rfl
    rw [hR]
    clear hR key HP
    go_enter Tryz.func41, Tryz.ntmps41
    go_wp2
    rw [← hW]
    clear hW
    go_ret
    exact ⟨rfl, X0.out⟩
  have hve : a.var = b.var := by simpa using hv
  cases hl : ((a.args.length : Int) == (b.args.length : Int))
  · have hR : sameB a b = false := key _ (by unfold headB; simp at hl; simp [show ¬ a.args.length = b.args.length by omega]) rfl
    rw [hR]
    clear hR key HP
    clear hv
    rw [← hve] at hW d1 ⊢
    clear hve
    go_enter Tryz.func41, Tryz.ntmps41
    go_wp2
    rw [← hW]
    clear hW
    go_ret
    exact ⟨rfl, X0.out⟩
  have HL : Hid (a.args.length = b.args.length) := hide (by simp at hl; omega)
  have HR : Hid (sameB a b = (a.args.zip b.args).all fun p => sameB p.1 p.2) := hide (by rw [HP.out]; simp at hc hv; simp [hc, hv, HL.out])
  clear key hv hl HP
  generalize sameB a b = R at *
  rw [← hve] at hW d1 ⊢
  rw [← HL.out] at hW d2 ⊢
  clear hve
  go_enter Tryz.func41, Tryz.ntmps41
  go_wp2
  rw [← hW]
  clear hW
  have O1 : Hid (∀ p ∈ (a.args.zip b.args).take 0, sameB p.1 p.2 = true) := hide (by simp)
  have X3' := hide (Ext.refl W)
  go_wp2
  go_loopw [5] (fun i wr => ∃ k : Nat, k ≤ a.args.length ∧ i = .int .i64 k ∧ Hid (∀ p ∈ (a.args.zip b.args).take k, sameB p.1 p.2 = true) ∧ Hid (Ext W wr)) (fun i _ => a.args.length - (intOf i).toNat)
  case atStart => exact ⟨0, Nat.zero_le _, rfl, O1, X3'⟩
  case round =>
    obtain ⟨k, hk, rfl, HA, HX⟩ := hrel
    have C1 := B1.out.ext HX.out
    have C2 := B2.out.ext HX.out
    have c0 := C1.c0
    have c1 := C1.c1
    have c2 := C1.c2
    have d0 := C2.c0
    have d1 := C2.c1
    have d2 := C2.c2
    clear C1 C2
    by_cases hlt : k < a.args.length
    · have hltb : k < b.args.length := by rw [← HL.out]; exact hlt
      have hlt' : (k : Int) < (a.args.length : Int) := by omega
      have hltb' : (k : Int) < (b.args.length : Int) := by omega
      have hk0 : (0 : Int) ≤ (k : Int) := by omega
      have XR := hide (HX.out)
      obtain ⟨p, o, hAa, hp, q0, q1, q2⟩ := (HKa.out.ext (X0.out.trans XR.out)).at_ hlt
      obtain ⟨p', o', hAb, hp', r0, r1, r2⟩ := (HKb.out.ext (X0.out.trans XR.out)).at_ hltb
      have HC := hide (fun w' (e : Ext wr w') => hide (IH.out _ (List.getElem_mem hlt) (b.args[k]'hltb) w' ((HKa.out.args _ (List.getElem_mem hlt)).ext (X0.out.trans (XR.out.trans e))) ((HKb.out.args _ (List.getElem_mem hltb)).ext (X0.out.trans (XR.out.trans e)))))
      have Htk : Hid ((a.args.zip b.args).take (k + 1) = (a.args.zip b.args).take k ++ [(a.args[k]'hlt, b.args[k]'hltb)]) := hide (by
        rw [List.take_succ_eq_append_getElem (by rw [List.length_zip]; omega), List.getElem_zip])
      have Hmem : Hid ((a.args[k]'hlt, b.args[k]'hltb) ∈ a.args.zip b.args) := hide (by rw [List.mem_iff_getElem]; exact ⟨k, by rw [List.length_zip]; omega, List.getElem_zip⟩)
      rw [hAa] at c2
      rw [hAb, ← HL.out] at d2
      clear hAa hAb
      have HSa := hide (fun w' (e : Ext wr w') => And.intro (e.cell c2) (And.intro (e.cell d2) (And.intro (e.cell q0) (And.intro (e.cell q1) (And.intro (e.cell q2) (And.intro (e.cell r0) (And.intro (e.cell r1) (e.cell r2))))))))
      generalize a.args[k]'hlt = x at *
      generalize b.args[k]'hltb = y at *
      go_wp2
      go_region_held3 (fun w' => w'.cell? ⟨w.heap.size, 2, none⟩ = some (.slice (some ⟨p, o, none⟩) a.args.length a.cap) ∧ w'.cell? ⟨w.heap.size + 1, 2, none⟩ = some (.slice (some ⟨p', o', none⟩) a.args.length b.cap) ∧ w'.cell? ⟨p, o + k * 3, none⟩ = some (.string ⟨x.con.toArray⟩) ∧ w'.cell? ⟨p, o + k * 3 + 1, none⟩ = some (.int .i64 x.var) ∧ w'.cell? ⟨p, o + k * 3 + 2, none⟩ = some (.slice x.A x.args.length x.cap) ∧ w'.cell? ⟨p', o' + k * 3, none⟩ = some (.string ⟨y.con.toArray⟩) ∧ w'.cell? ⟨p', o' + k * 3 + 1, none⟩ = some (.int .i64 y.var) ∧ w'.cell? ⟨p', o' + k * 3 + 2, none⟩ = some (.slice y.A y.args.length y.cap)) (first | assumption | go_keep) (first
        | (go_at_call 41
           refine Calls.mono (HC.out _ ((Ext.refl _).drew)).out ?_
           rintro e w5 ⟨rfl, hx5⟩
           have X5 := hide (HX.out.trans (((Ext.refl wr).drew).trans hx5))
           have k5 := HSa.out _ (((Ext.refl wr).drew).trans hx5)
           clear hx5))
      clear k5
      cases hs : sameB x y
      · have hR : R = false := by
          rw [HR.out, ← Bool.not_eq_true, List.all_eq_true]
          intro h
          have := h _ Hmem.out
          rw [hs] at this
          cases this
        clear HR
        subst hR
        go_wp2
        go_ret
        exact ⟨rfl, X0.out.trans (X5.out)⟩
      · go_wp2
        go_roundw
        case rel =>
          refine ⟨k + 1, hlt, by go_num, hide (fun p hp => ?_), X5⟩
          rw [Htk.out, List.mem_append, List.mem_singleton] at hp
          rcases hp with hp | rfl
          · exact HA.out p hp
          · exact hs
        case measure => simp [intOf]; omega
    · have hge : ¬ (k : Int) < (a.args.length : Int) := by omega
      have hR : R = true := by
        rw [HR.out, List.all_eq_true]
        intro p hp
        exact HA.out p (by rw [List.take_of_length_le (by rw [List.length_zip]; omega)]; exact hp)
      clear HR
      subst hR
      go_wp2
      go_ret
      exact ⟨rfl, X0.out.trans (HX.out)⟩

end Go.Proofs.YtnomibjbjplieaaGreat

/- The law of what is known of classes at types. -/
namespace Go.Proofs.YtnomibjbjplieaaGreat
open Go.RowKit

theorem dict_same (c : Str) (t : Ty) (b b' : Nat) : sameB (dictT c t b) (dictT c t b') = true := sameB_iff.2 (by rw [dictT_pure, dictT_pure])
theorem arg_in {w : World} {t : Ty} (h : TyIn w t) : TyIn w (argOf t) := by
  unfold argOf
  split
  · cases hl : t.args with
    | nil => exact TyIn.zero w
    | cons x l => exact h.all.args x (by rw [hl]; simp)
  · exact TyIn.zero w
theorem few_one {w : World} {t : Ty} {b : Nat} (h : TyIn w t) (hb : w.heap[b]? = some (.cells #[encStr t.con, .int .i64 t.var, .slice t.A t.args.length t.cap] 32)) : TysIn w (some ⟨b, 0, none⟩) [t] := ⟨RowOf.block (t := 32) (fr := (0, 0)) tyC [t] (by simpa [tyC, Ty.cells] using hb), by simpa using h⟩


end Go.Proofs.YtnomibjbjplieaaGreat

/- Contracts on the reference: what is free in a type for all of some variables; whether some are; variables as types. -/
namespace Go.Proofs.YtnomibjbjplieaaGreat
open Go.RowKit

theorem free_take (l vars : List Int) {k : Nat} (h : k < l.length) : ((l.take (k + 1)).filter fun v => !(vars.any (· == v))) = ((l.take k).filter fun v => !(vars.any (· == v))) ++ if vars.any (· == l[k]'h) then [] else [l[k]'h] := by
  rw [List.take_succ_eq_append_getElem h, List.filter_append]
  congr 1
  cases hb : vars.any (· == l[k]'h) <;> simp [hb]
theorem meets_iff (vars l : List Int) : meetsI vars l = vars.any fun v => l.any (· == v) := by
  unfold meetsI
  rw [Bool.eq_iff_iff, List.any_eq_true, List.any_eq_true]
  constructor
  · rintro ⟨x, hx, h⟩
    obtain ⟨y, hy, e⟩ := List.any_eq_true.1 h
    exact ⟨y, hy, List.any_eq_true.2 ⟨x, hx, by simp at e ⊢; exact e.symm⟩⟩
  · rintro ⟨x, hx, h⟩
    obtain ⟨y, hy, e⟩ := List.any_eq_true.1 h
    exact ⟨y, hy, List.any_eq_true.2 ⟨x, hx, by simp at e ⊢; exact e.symm⟩⟩
theorem onceGo_full (l : List Int) : ∀ out, (onceGo out l).length = out.length + l.length ↔ l.Nodup ∧ ∀ x ∈ l, x ∉ out := by
  induction l with
  | nil => intro out; simp [onceGo]
  | cons x l ih =>
    intro out
    unfold onceGo
    by_cases hx : out.contains x = true
    · rw [if_pos hx]
      have h1 := onceGo_len l out
      rw [List.contains_iff_mem] at hx
      constructor
      · intro h; rw [List.length_cons] at h; omega
      · intro h; exact absurd hx (h.2 x (List.mem_cons_self))
    · rw [if_neg hx]
      rw [List.contains_iff_mem] at hx
      have h1 := ih (out ++ [x])
      rw [List.length_append, List.length_cons, List.length_nil] at h1
      rw [List.length_cons, List.nodup_cons, show out.length + (l.length + 1) = out.length + (0 + 1) + l.length by omega, h1]
      constructor
      · rintro ⟨h2, h3⟩
        refine ⟨⟨fun h => by have := h3 x h; simp at this, h2⟩, fun y hy => ?_⟩
        rcases List.mem_cons.1 hy with rfl | hy
        · exact hx
        · exact fun h => h3 y hy (List.mem_append.2 (.inl h))
      · rintro ⟨⟨h2, h3⟩, h4⟩
        refine ⟨h3, fun y hy h => ?_⟩
        rcases List.mem_append.1 h with h | h
        · exact h4 y (List.mem_cons_of_mem _ hy) h
        · rw [List.mem_singleton] at h; subst h; exact h2 hy
theorem onceI_full (l : List Int) : (onceI l).length = l.length ↔ l.Nodup := by
  have := onceGo_full l []
  unfold onceI
  simpa using this




end Go.Proofs.YtnomibjbjplieaaGreat

/- Contract on the reference: whether two types for all of some variables are alike. (A program of ours has printed a part.) -/
namespace Go.Proofs.YtnomibjbjplieaaGreat
open Go.RowKit


end Go.Proofs.YtnomibjbjplieaaGreat

/- The law of two types for all of some variables. (A program of ours has printed a part.) -/
namespace Go.Proofs.YtnomibjbjplieaaGreat
open Go.RowKit

/-- All numbers are int's. -/
def okV (l : List Int) : Prop := ∀ v ∈ l, -9223372036854775808 ≤ v ∧ v ≤ 9223372036854775807
theorem f_TextA (p : Po) (w : World) (h : PoIn w p) (ok : okI p.ty = true) (hsz : p.ty.size ≤ 20000) (hn : p.vars.length ≤ 1000) (hv : okV p.vars) : Calls Tryz.prog 24 #[poV p] w fun e w' => e = .returned (encStr (polyS p)) ∧ Ext w w' := by
  by_cases h0 : p.vars = []
  · exact f_Text0 p w h ok hsz h0
  · exact f_Text1 p w h ok hsz h0 hn hv



end Go.Proofs.YtnomibjbjplieaaGreat

/- Arguments that are types for all of some variables, or schemes, opened. -/
namespace Go.Proofs.YtnomibjbjplieaaGreat
open Go.RowKit Go.ChangeShapes Go.WideShapes Go.Deep

section
variable {H : Type} {enc : TypeId × Value → H} {P : Program} {w : World} {base : Nat} {spare : Nat → Bool} {held : Bool}
theorem fields_manyZ {t : TypeId} {fs : Array Field} {fuel : Nat} {cs : List Value} {x : DataW H × List MemPlace} (hs : P.underlying t = some (.struct fs)) (h : DataW.trod enc P w base spare held fuel t cs = some x) :
    cs.length = P.cellsOf t ∧ ∃ n, fuel = n + 1 ∧ ∀ (j : Nat) (f : Field), fs[j]? = some f → ∃ y, DataW.trod enc P w base spare held n f.type ((cs.drop f.offset).take (P.cellsOf f.type)) = some y ∧ (Sized P t x.1 → Sized P f.type y.1) := by
  obtain ⟨ys, n, hn, hx, hlen, hyl, hf⟩ := DataW.trod_struct hs h
  refine ⟨hlen, n, hn, fun j f hj => ?_⟩
  have hjl : j < fs.size := (Array.getElem?_eq_some_iff.1 hj).1
  refine ⟨_, (hf j f hj).trans (List.getElem?_eq_getElem (by omega)), fun hz n hn => hz n ?_⟩
  rw [hx]
  unfold DataW.weights
  rw [hs]
  exact DataW.weights_mem_each (j := j) (t := f.type) (by rw [List.getElem?_map, Array.getElem?_toList, hj]; rfl) (by rw [List.getElem?_map, List.getElem?_eq_getElem (by omega)]; rfl) n hn
end

section
variable {H : Type} {enc : TypeId × Value → H} {w : World} {base : Nat} {spare : Nat → Bool} {held : Bool}
set_option maxRecDepth 100000 in
theorem poly_reads (fuel : Nat) (cs : List Value) (x : DataW H × List MemPlace) (h : DataW.trod enc Tryz.prog w base spare held fuel 34 cs = some x) (hz : Sized Tryz.prog 34 x.1) :
    ∃ p : Po, cs = [.slice p.A p.vars.length p.cap, encStr p.ty.con, .int .i64 p.ty.var, .slice p.ty.A p.ty.args.length p.ty.cap] ∧ PoIn w p ∧ okI p.ty = true ∧ okV p.vars := by
  obtain ⟨hl, n, hn, hf⟩ := fields_manyZ Tryz.underlying34 h
  have hl4 : cs.length = 4 := hl.trans (by kernel_rfl)
  obtain ⟨y0, r0, z0⟩ := hf 0 _ rfl
  obtain ⟨y1, r1, z1⟩ := hf 1 _ rfl
  match cs, hl4 with
  | [a0, a1, a2, a3], _ =>
    have e0 : ((([a0, a1, a2, a3] : List Value).drop 0).take (Tryz.prog.cellsOf 29)) = [a0] := by rw [show Tryz.prog.cellsOf 29 = 1 from by kernel_rfl]; rfl
    have e1 : ((([a0, a1, a2, a3] : List Value).drop 1).take (Tryz.prog.cellsOf 32)) = [a1, a2, a3] := by rw [show Tryz.prog.cellsOf 32 = 3 from by kernel_rfl]; rfl
    have r0' : DataW.trod enc Tryz.prog w base spare held n 29 [a0] = some y0 := by rw [← e0]; exact r0
    have r1' : DataW.trod enc Tryz.prog w base spare held n 32 [a1, a2, a3] = some y1 := by rw [← e1]; exact r1
    obtain ⟨A, cp, vs, q0, k1, k2, k3, k4, _⟩ := open_cellsZ intC (fun v : Int => -9223372036854775808 ≤ v ∧ v ≤ 9223372036854775807) Tryz.underlying29 (by kernel_rfl) (fun m hm cs x hh _ => by
      obtain ⟨a, qa, hi⟩ := int_reads Tryz.underlying3 _ _ _ hh
      exact ⟨a, qa, wf_lo hi, wf_hi hi⟩) r0' (z0 hz)
    obtain ⟨t, q1, ht, ok⟩ := type_reads _ _ _ r1' (z1 hz)
    subst q0
    have q1' : [a1, a2, a3] = [encStr t.con, .int .i64 t.var, .slice t.A t.args.length t.cap] := q1
    simp only [List.cons.injEq, and_true] at q1'
    obtain ⟨rfl, rfl, rfl⟩ := q1'
    exact ⟨⟨vs, A, cp, t⟩, rfl, ⟨k1, k2, k3, ht⟩, ok, k4⟩
theorem open_poly {v : Value} {d : DataW H} {p : List MemPlace} (h : DataW.Trod enc Tryz.prog w base spare held 34 v d p) (hv : ∃ cs, v = .agg cs) (hz : Sized Tryz.prog 34 d) : ∃ t : Po, v = poV t ∧ PoIn w t ∧ okI t.ty = true ∧ okV t.vars := by
  obtain ⟨arr, rfl⟩ := hv
  obtain ⟨fuel, hf⟩ := h
  obtain ⟨t, e, ht⟩ := poly_reads fuel _ _ hf hz
  refine ⟨t, ?_, ht⟩
  have e1 : arr.toList = [.slice t.A t.vars.length t.cap, encStr t.ty.con, .int .i64 t.ty.var, .slice t.ty.A t.ty.args.length t.ty.cap] := by simpa [Value.cells] using e
  have e2 : arr = ([.slice t.A t.vars.length t.cap, encStr t.ty.con, .int .i64 t.ty.var, .slice t.ty.A t.ty.args.length t.ty.cap] : List Value).toArray := by rw [← e1]
  rw [e2]
  rfl
end

end Go.Proofs.YtnomibjbjplieaaGreat

/- Arguments that are schemes, opened. -/
namespace Go.Proofs.YtnomibjbjplieaaGreat
open Go.RowKit Go.ChangeShapes Go.WideShapes Go.Deep

section
variable {H : Type} {enc : TypeId × Value → H} {w : World} {base : Nat} {spare : Nat → Bool} {held : Bool}
set_option maxRecDepth 100000 in
theorem pred_reads (fuel : Nat) (cs : List Value) (x : DataW H × List MemPlace) (h : DataW.trod enc Tryz.prog w base spare held fuel 69 cs = some x) (hz : Sized Tryz.prog 69 x.1) :
    ∃ p : Pd, cs = pdC.f p ∧ PdIn w p ∧ okI p.ty = true := by
  obtain ⟨hl, n, hn, hf⟩ := fields_manyZ Tryz.underlying69 h
  have hl4 : cs.length = 4 := hl.trans (by kernel_rfl)
  obtain ⟨y0, r0, z0⟩ := hf 0 _ rfl
  obtain ⟨y1, r1, z1⟩ := hf 1 _ rfl
  match cs, hl4 with
  | [a0, a1, a2, a3], _ =>
    have e0 : ((([a0, a1, a2, a3] : List Value).drop 0).take (Tryz.prog.cellsOf 9)) = [a0] := by rw [show Tryz.prog.cellsOf 9 = 1 from by kernel_rfl]; rfl
    have e1 : ((([a0, a1, a2, a3] : List Value).drop 1).take (Tryz.prog.cellsOf 32)) = [a1, a2, a3] := by rw [show Tryz.prog.cellsOf 32 = 3 from by kernel_rfl]; rfl
    have r0' : DataW.trod enc Tryz.prog w base spare held n 9 [a0] = some y0 := by rw [← e0]; exact r0
    have r1' : DataW.trod enc Tryz.prog w base spare held n 32 [a1, a2, a3] = some y1 := by rw [← e1]; exact r1
    obtain ⟨s, q0, hs⟩ := str_readsZ Tryz.underlying9 _ _ _ r0' (z0 hz)
    obtain ⟨t, q1, ht, ok⟩ := type_reads _ _ _ r1' (z1 hz)
    have q1' : [a1, a2, a3] = [encStr t.con, .int .i64 t.var, .slice t.A t.args.length t.cap] := q1
    simp only [List.cons.injEq, and_true, strC] at q0 q1'
    obtain ⟨rfl, rfl, rfl⟩ := q1'
    subst q0
    exact ⟨⟨s, t⟩, rfl, ⟨Nat.le_trans hs (by decide), ht⟩, ok⟩
set_option maxRecDepth 100000 in
theorem scheme_reads (fuel : Nat) (cs : List Value) (x : DataW H × List MemPlace) (h : DataW.trod enc Tryz.prog w base spare held fuel 39 cs = some x) (hz : Sized Tryz.prog 39 x.1) :
    ∃ s : Sc, cs = [.int .i64 s.n, .slice s.A s.preds.length s.cap, encStr s.ty.con, .int .i64 s.ty.var, .slice s.ty.A s.ty.args.length s.ty.cap] ∧ ScIn w s ∧ okI s.ty = true := by
  obtain ⟨hl, n, hn, hf⟩ := fields_manyZ Tryz.underlying39 h
  have hl4 : cs.length = 5 := hl.trans (by kernel_rfl)
  obtain ⟨y0, r0, z0⟩ := hf 0 _ rfl
  obtain ⟨y1, r1, z1⟩ := hf 1 _ rfl
  obtain ⟨y2, r2, z2⟩ := hf 2 _ rfl
  match cs, hl4 with
  | [a0, a1, a2, a3, a4], _ =>
    have e0 : ((([a0, a1, a2, a3, a4] : List Value).drop 0).take (Tryz.prog.cellsOf 3)) = [a0] := by rw [show Tryz.prog.cellsOf 3 = 1 from by kernel_rfl]; rfl
    have e1 : ((([a0, a1, a2, a3, a4] : List Value).drop 1).take (Tryz.prog.cellsOf 37)) = [a1] := by rw [show Tryz.prog.cellsOf 37 = 1 from by kernel_rfl]; rfl
    have e2 : ((([a0, a1, a2, a3, a4] : List Value).drop 2).take (Tryz.prog.cellsOf 32)) = [a2, a3, a4] := by rw [show Tryz.prog.cellsOf 32 = 3 from by kernel_rfl]; rfl
    have r0' : DataW.trod enc Tryz.prog w base spare held n 3 [a0] = some y0 := by rw [← e0]; exact r0
    have r1' : DataW.trod enc Tryz.prog w base spare held n 37 [a1] = some y1 := by rw [← e1]; exact r1
    have r2' : DataW.trod enc Tryz.prog w base spare held n 32 [a2, a3, a4] = some y2 := by rw [← e2]; exact r2
    obtain ⟨m, q0, hi⟩ := int_reads Tryz.underlying3 _ _ _ r0'
    obtain ⟨A, cp, l, q1, k1, k2, k3, k4, _⟩ := open_cellsZ pdC (fun p => PdIn w p ∧ okI p.ty = true) Tryz.underlying37 (by kernel_rfl) (fun m hm cs x hh => pred_reads m cs x hh) r1' (z1 hz)
    obtain ⟨t, q2, ht, ok⟩ := type_reads _ _ _ r2' (z2 hz)
    have q2' : [a2, a3, a4] = [encStr t.con, .int .i64 t.var, .slice t.A t.args.length t.cap] := q2
    simp only [List.cons.injEq, and_true] at q0 q2'
    obtain ⟨rfl, rfl, rfl⟩ := q2'
    subst q0 q1
    exact ⟨⟨m, A, cp, l, t⟩, rfl, ⟨k1, k2, ⟨k3, fun p hp => (k4 p hp).1⟩, ht⟩, ok⟩
theorem open_scheme {v : Value} {d : DataW H} {p : List MemPlace} (h : DataW.Trod enc Tryz.prog w base spare held 39 v d p) (hv : ∃ cs, v = .agg cs) (hz : Sized Tryz.prog 39 d) : ∃ s : Sc, v = scV s ∧ ScIn w s ∧ okI s.ty = true := by
  obtain ⟨arr, rfl⟩ := hv
  obtain ⟨fuel, hf⟩ := h
  obtain ⟨t, e, ht⟩ := scheme_reads fuel _ _ hf hz
  refine ⟨t, ?_, ht⟩
  have e1 : arr.toList = [.int .i64 t.n, .slice t.A t.preds.length t.cap, encStr t.ty.con, .int .i64 t.ty.var, .slice t.ty.A t.ty.args.length t.ty.cap] := by simpa [Value.cells] using e
  have e2 : arr = ([.int .i64 t.n, .slice t.A t.preds.length t.cap, encStr t.ty.con, .int .i64 t.ty.var, .slice t.ty.A t.ty.args.length t.ty.cap] : List Value).toArray := by rw [← e1]
  rw [e2]
  rfl
end

end Go.Proofs.YtnomibjbjplieaaGreat

/- What a program declares, in memory: data, classes, instances. (A program of ours has printed this.) -/
namespace Go.Proofs.YtnomibjbjplieaaGreat
open Go.RowKit

/-- A constructor. -/
structure CoD where
  name : Str
  A : Option Addr
  cap : Nat
  types : List Ty
def CoD.cells (x : CoD) : List Value := [encStr x.name, .slice x.A x.types.length x.cap]
def coC : Coder CoD := ⟨2, CoD.cells, fun _ => rfl, by omega⟩
@[go_sem] def coV (x : CoD) : Value := .agg #[encStr x.name, .slice x.A x.types.length x.cap]
structure CoIn (w : World) (x : CoD) : Prop where
  txt : x.name.length ≤ 1000000000000000000
  le : x.types.length ≤ x.cap
  max : x.cap ≤ 9223372036854775807
  row : TysIn w x.A x.types
theorem CoIn.ext {w w' : World} {x : CoD} (h : CoIn w x) (e : Ext w w') : CoIn w' x := ⟨h.txt, h.le, h.max, h.row.ext e⟩
structure CosIn (w : World) (A : Option Addr) (l : List CoD) : Prop where
  row : RowOf coC w A l
  all : ∀ x ∈ l, CoIn w x
theorem CosIn.ext {w w' : World} {A : Option Addr} {l : List CoD} (h : CosIn w A l) (e : Ext w w') : CosIn w' A l := ⟨RowOf.ext coC h.row e, fun x hx => (h.all x hx).ext e⟩
theorem CosIn.nil (w : World) (A : Option Addr) : CosIn w A [] := ⟨RowOf.nil _ _ _, by simp⟩
theorem CosIn.at_ {w : World} {A : Option Addr} {l : List CoD} (h : CosIn w A l) {i : Nat} (hi : i < l.length) :
    ∃ b o, A = some ⟨b, o, none⟩ ∧ b < w.heap.size ∧ w.cell? ⟨b, o + i * 2, none⟩ = some (.string ⟨(l[i]'hi).name.toArray⟩) ∧ w.cell? ⟨b, o + i * 2 + 1, none⟩ = some (.slice (l[i]'hi).A (l[i]'hi).types.length (l[i]'hi).cap) := by
  obtain ⟨b, o, e, hb, hc⟩ := RowOf.at_ coC h.row hi
  refine ⟨b, o, e, hb, ?_, ?_⟩
  · have := hc 0 (by decide); simpa [coC, CoD.cells] using this
  · have := hc 1 (by decide); simpa [coC, CoD.cells] using this
def CoBox (w : World) (b : Nat) (x : CoD) : Prop := w.heap[b]? = some (.cells #[encStr x.name, .slice x.A x.types.length x.cap] 57 (0, 0))
theorem CoBox.lt {w : World} {b : Nat} {x : CoD} (h : CoBox w b x) : b < w.heap.size := lt_of_obj h
theorem CoBox.ext {w w' : World} {b : Nat} {x : CoD} (h : CoBox w b x) (e : Ext w w') : CoBox w' b x := (e.heap h.lt).trans h
theorem CoBox.cells {w : World} {b : Nat} {x : CoD} (h : CoBox w b x) : w.cell? ⟨b, 0, none⟩ = some (encStr x.name) ∧ w.cell? ⟨b, 1, none⟩ = some (.slice x.A x.types.length x.cap) := ⟨bytes_block h 0, bytes_block h 1⟩
theorem CoBox.new (w : World) (x : CoD) : CoBox (w.alloc (.cells #[encStr x.name, .slice x.A x.types.length x.cap] 57)) w.heap.size x := at_newB _ _ _ rfl
/-- A data type. -/
structure DaD where
  name : Str
  n : Int
  A : Option Addr
  cap : Nat
  cons : List CoD
def DaD.cells (x : DaD) : List Value := [encStr x.name, .int .i64 x.n, .slice x.A x.cons.length x.cap]
def daC : Coder DaD := ⟨3, DaD.cells, fun _ => rfl, by omega⟩
@[go_sem] def daV (x : DaD) : Value := .agg #[encStr x.name, .int .i64 x.n, .slice x.A x.cons.length x.cap]
structure DaIn (w : World) (x : DaD) : Prop where
  txt : x.name.length ≤ 1000000000000000000
  le : x.cons.length ≤ x.cap
  max : x.cap ≤ 9223372036854775807
  row : CosIn w x.A x.cons
theorem DaIn.ext {w w' : World} {x : DaD} (h : DaIn w x) (e : Ext w w') : DaIn w' x := ⟨h.txt, h.le, h.max, h.row.ext e⟩
structure DasIn (w : World) (A : Option Addr) (l : List DaD) : Prop where
  row : RowOf daC w A l
  all : ∀ x ∈ l, DaIn w x
theorem DasIn.ext {w w' : World} {A : Option Addr} {l : List DaD} (h : DasIn w A l) (e : Ext w w') : DasIn w' A l := ⟨RowOf.ext daC h.row e, fun x hx => (h.all x hx).ext e⟩
theorem DasIn.nil (w : World) (A : Option Addr) : DasIn w A [] := ⟨RowOf.nil _ _ _, by simp⟩
theorem DasIn.at_ {w : World} {A : Option Addr} {l : List DaD} (h : DasIn w A l) {i : Nat} (hi : i < l.length) :
    ∃ b o, A = some ⟨b, o, none⟩ ∧ b < w.heap.size ∧ w.cell? ⟨b, o + i * 3, none⟩ = some (.string ⟨(l[i]'hi).name.toArray⟩) ∧ w.cell? ⟨b, o + i * 3 + 1, none⟩ = some (.int .i64 (l[i]'hi).n) ∧ w.cell? ⟨b, o + i * 3 + 2, none⟩ = some (.slice (l[i]'hi).A (l[i]'hi).cons.length (l[i]'hi).cap) := by
  obtain ⟨b, o, e, hb, hc⟩ := RowOf.at_ daC h.row hi
  refine ⟨b, o, e, hb, ?_, ?_, ?_⟩
  · have := hc 0 (by decide); simpa [daC, DaD.cells] using this
  · have := hc 1 (by decide); simpa [daC, DaD.cells] using this
  · have := hc 2 (by decide); simpa [daC, DaD.cells] using this
def DaBox (w : World) (b : Nat) (x : DaD) : Prop := w.heap[b]? = some (.cells #[encStr x.name, .int .i64 x.n, .slice x.A x.cons.length x.cap] 55 (0, 0))
theorem DaBox.lt {w : World} {b : Nat} {x : DaD} (h : DaBox w b x) : b < w.heap.size := lt_of_obj h
theorem DaBox.ext {w w' : World} {b : Nat} {x : DaD} (h : DaBox w b x) (e : Ext w w') : DaBox w' b x := (e.heap h.lt).trans h
theorem DaBox.cells {w : World} {b : Nat} {x : DaD} (h : DaBox w b x) : w.cell? ⟨b, 0, none⟩ = some (encStr x.name) ∧ w.cell? ⟨b, 1, none⟩ = some (.int .i64 x.n) ∧ w.cell? ⟨b, 2, none⟩ = some (.slice x.A x.cons.length x.cap) := ⟨bytes_block h 0, bytes_block h 1, bytes_block h 2⟩
theorem DaBox.new (w : World) (x : DaD) : DaBox (w.alloc (.cells #[encStr x.name, .int .i64 x.n, .slice x.A x.cons.length x.cap] 55)) w.heap.size x := at_newB _ _ _ rfl
/-- A method. -/
structure MeD where
  name : Str
  n : Int
  ty : Ty
def MeD.cells (x : MeD) : List Value := [encStr x.name, .int .i64 x.n, encStr x.ty.con, .int .i64 x.ty.var, .slice x.ty.A x.ty.args.length x.ty.cap]
def meC : Coder MeD := ⟨5, MeD.cells, fun _ => rfl, by omega⟩
@[go_sem] def meV (x : MeD) : Value := .agg #[encStr x.name, .int .i64 x.n, encStr x.ty.con, .int .i64 x.ty.var, .slice x.ty.A x.ty.args.length x.ty.cap]
structure MeIn (w : World) (x : MeD) : Prop where
  txt : x.name.length ≤ 1000000000000000000
  row : TyIn w x.ty
theorem MeIn.ext {w w' : World} {x : MeD} (h : MeIn w x) (e : Ext w w') : MeIn w' x := ⟨h.txt, h.row.ext e⟩
structure MesIn (w : World) (A : Option Addr) (l : List MeD) : Prop where
  row : RowOf meC w A l
  all : ∀ x ∈ l, MeIn w x
theorem MesIn.ext {w w' : World} {A : Option Addr} {l : List MeD} (h : MesIn w A l) (e : Ext w w') : MesIn w' A l := ⟨RowOf.ext meC h.row e, fun x hx => (h.all x hx).ext e⟩
theorem MesIn.nil (w : World) (A : Option Addr) : MesIn w A [] := ⟨RowOf.nil _ _ _, by simp⟩
theorem MesIn.at_ {w : World} {A : Option Addr} {l : List MeD} (h : MesIn w A l) {i : Nat} (hi : i < l.length) :
    ∃ b o, A = some ⟨b, o, none⟩ ∧ b < w.heap.size ∧ w.cell? ⟨b, o + i * 5, none⟩ = some (.string ⟨(l[i]'hi).name.toArray⟩) ∧ w.cell? ⟨b, o + i * 5 + 1, none⟩ = some (.int .i64 (l[i]'hi).n) ∧ w.cell? ⟨b, o + i * 5 + 2, none⟩ = some (.string ⟨(l[i]'hi).ty.con.toArray⟩) ∧ w.cell? ⟨b, o + i * 5 + 3, none⟩ = some (.int .i64 (l[i]'hi).ty.var) ∧ w.cell? ⟨b, o + i * 5 + 4, none⟩ = some (.slice (l[i]'hi).ty.A (l[i]'hi).ty.args.length (l[i]'hi).ty.cap) := by
  obtain ⟨b, o, e, hb, hc⟩ := RowOf.at_ meC h.row hi
  refine ⟨b, o, e, hb, ?_, ?_, ?_, ?_, ?_⟩
  · have := hc 0 (by decide); simpa [meC, MeD.cells] using this
  · have := hc 1 (by decide); simpa [meC, MeD.cells] using this
  · have := hc 2 (by decide); simpa [meC, MeD.cells] using this
  · have := hc 3 (by decide); simpa [meC, MeD.cells] using this
  · have := hc 4 (by decide); simpa [meC, MeD.cells] using this
def MeBox (w : World) (b : Nat) (x : MeD) : Prop := w.heap[b]? = some (.cells #[encStr x.name, .int .i64 x.n, encStr x.ty.con, .int .i64 x.ty.var, .slice x.ty.A x.ty.args.length x.ty.cap] 66 (0, 0))
theorem MeBox.lt {w : World} {b : Nat} {x : MeD} (h : MeBox w b x) : b < w.heap.size := lt_of_obj h
theorem MeBox.ext {w w' : World} {b : Nat} {x : MeD} (h : MeBox w b x) (e : Ext w w') : MeBox w' b x := (e.heap h.lt).trans h
theorem MeBox.cells {w : World} {b : Nat} {x : MeD} (h : MeBox w b x) : w.cell? ⟨b, 0, none⟩ = some (encStr x.name) ∧ w.cell? ⟨b, 1, none⟩ = some (.int .i64 x.n) ∧ w.cell? ⟨b, 2, none⟩ = some (encStr x.ty.con) ∧ w.cell? ⟨b, 3, none⟩ = some (.int .i64 x.ty.var) ∧ w.cell? ⟨b, 4, none⟩ = some (.slice x.ty.A x.ty.args.length x.ty.cap) := ⟨bytes_block h 0, bytes_block h 1, bytes_block h 2, bytes_block h 3, bytes_block h 4⟩
theorem MeBox.new (w : World) (x : MeD) : MeBox (w.alloc (.cells #[encStr x.name, .int .i64 x.n, encStr x.ty.con, .int .i64 x.ty.var, .slice x.ty.A x.ty.args.length x.ty.cap] 66)) w.heap.size x := at_newB _ _ _ rfl
/-- A class. -/
structure KlD where
  name : Str
  S : Option Addr
  sc : Nat
  sups : List Str
  A : Option Addr
  cap : Nat
  meths : List MeD
def KlD.cells (x : KlD) : List Value := [encStr x.name, .slice x.S x.sups.length x.sc, .slice x.A x.meths.length x.cap]
def klC : Coder KlD := ⟨3, KlD.cells, fun _ => rfl, by omega⟩
@[go_sem] def klV (x : KlD) : Value := .agg #[encStr x.name, .slice x.S x.sups.length x.sc, .slice x.A x.meths.length x.cap]
structure KlIn (w : World) (x : KlD) : Prop where
  txt : x.name.length ≤ 1000000000000000000
  sle : x.sups.length ≤ x.sc
  smax : x.sc ≤ 9223372036854775807
  srow : Strs w x.S x.sups
  stxt : ∀ s ∈ x.sups, s.length ≤ 1000000000000000000
  le : x.meths.length ≤ x.cap
  max : x.cap ≤ 9223372036854775807
  row : MesIn w x.A x.meths
theorem KlIn.ext {w w' : World} {x : KlD} (h : KlIn w x) (e : Ext w w') : KlIn w' x := ⟨h.txt, h.sle, h.smax, strs_iff.2 (RowOf.ext strC (strs_iff.1 h.srow) e), h.stxt, h.le, h.max, h.row.ext e⟩
structure KlsIn (w : World) (A : Option Addr) (l : List KlD) : Prop where
  row : RowOf klC w A l
  all : ∀ x ∈ l, KlIn w x
theorem KlsIn.ext {w w' : World} {A : Option Addr} {l : List KlD} (h : KlsIn w A l) (e : Ext w w') : KlsIn w' A l := ⟨RowOf.ext klC h.row e, fun x hx => (h.all x hx).ext e⟩
theorem KlsIn.nil (w : World) (A : Option Addr) : KlsIn w A [] := ⟨RowOf.nil _ _ _, by simp⟩
theorem KlsIn.at_ {w : World} {A : Option Addr} {l : List KlD} (h : KlsIn w A l) {i : Nat} (hi : i < l.length) :
    ∃ b o, A = some ⟨b, o, none⟩ ∧ b < w.heap.size ∧ w.cell? ⟨b, o + i * 3, none⟩ = some (.string ⟨(l[i]'hi).name.toArray⟩) ∧ w.cell? ⟨b, o + i * 3 + 1, none⟩ = some (.slice (l[i]'hi).S (l[i]'hi).sups.length (l[i]'hi).sc) ∧ w.cell? ⟨b, o + i * 3 + 2, none⟩ = some (.slice (l[i]'hi).A (l[i]'hi).meths.length (l[i]'hi).cap) := by
  obtain ⟨b, o, e, hb, hc⟩ := RowOf.at_ klC h.row hi
  refine ⟨b, o, e, hb, ?_, ?_, ?_⟩
  · have := hc 0 (by decide); simpa [klC, KlD.cells] using this
  · have := hc 1 (by decide); simpa [klC, KlD.cells] using this
  · have := hc 2 (by decide); simpa [klC, KlD.cells] using this
def KlBox (w : World) (b : Nat) (x : KlD) : Prop := w.heap[b]? = some (.cells #[encStr x.name, .slice x.S x.sups.length x.sc, .slice x.A x.meths.length x.cap] 64 (0, 0))
theorem KlBox.lt {w : World} {b : Nat} {x : KlD} (h : KlBox w b x) : b < w.heap.size := lt_of_obj h
theorem KlBox.ext {w w' : World} {b : Nat} {x : KlD} (h : KlBox w b x) (e : Ext w w') : KlBox w' b x := (e.heap h.lt).trans h
theorem KlBox.cells {w : World} {b : Nat} {x : KlD} (h : KlBox w b x) : w.cell? ⟨b, 0, none⟩ = some (encStr x.name) ∧ w.cell? ⟨b, 1, none⟩ = some (.slice x.S x.sups.length x.sc) ∧ w.cell? ⟨b, 2, none⟩ = some (.slice x.A x.meths.length x.cap) := ⟨bytes_block h 0, bytes_block h 1, bytes_block h 2⟩
theorem KlBox.new (w : World) (x : KlD) : KlBox (w.alloc (.cells #[encStr x.name, .slice x.S x.sups.length x.sc, .slice x.A x.meths.length x.cap] 64)) w.heap.size x := at_newB _ _ _ rfl
/-- An instance. -/
structure InD where
  cls : Str
  con : Str
  n : Int
  A : Option Addr
  cap : Nat
  preds : List Pd
def InD.cells (x : InD) : List Value := [encStr x.cls, encStr x.con, .int .i64 x.n, .slice x.A x.preds.length x.cap]
def inC : Coder InD := ⟨4, InD.cells, fun _ => rfl, by omega⟩
@[go_sem] def inV (x : InD) : Value := .agg #[encStr x.cls, encStr x.con, .int .i64 x.n, .slice x.A x.preds.length x.cap]
structure InIn (w : World) (x : InD) : Prop where
  txt : x.cls.length ≤ 1000000000000000000
  ctxt : x.con.length ≤ 1000000000000000000
  le : x.preds.length ≤ x.cap
  max : x.cap ≤ 9223372036854775807
  row : PdsIn w x.A x.preds
theorem InIn.ext {w w' : World} {x : InD} (h : InIn w x) (e : Ext w w') : InIn w' x := ⟨h.txt, h.ctxt, h.le, h.max, h.row.ext e⟩
structure InsIn (w : World) (A : Option Addr) (l : List InD) : Prop where
  row : RowOf inC w A l
  all : ∀ x ∈ l, InIn w x
theorem InsIn.ext {w w' : World} {A : Option Addr} {l : List InD} (h : InsIn w A l) (e : Ext w w') : InsIn w' A l := ⟨RowOf.ext inC h.row e, fun x hx => (h.all x hx).ext e⟩
theorem InsIn.nil (w : World) (A : Option Addr) : InsIn w A [] := ⟨RowOf.nil _ _ _, by simp⟩
theorem InsIn.at_ {w : World} {A : Option Addr} {l : List InD} (h : InsIn w A l) {i : Nat} (hi : i < l.length) :
    ∃ b o, A = some ⟨b, o, none⟩ ∧ b < w.heap.size ∧ w.cell? ⟨b, o + i * 4, none⟩ = some (.string ⟨(l[i]'hi).cls.toArray⟩) ∧ w.cell? ⟨b, o + i * 4 + 1, none⟩ = some (.string ⟨(l[i]'hi).con.toArray⟩) ∧ w.cell? ⟨b, o + i * 4 + 2, none⟩ = some (.int .i64 (l[i]'hi).n) ∧ w.cell? ⟨b, o + i * 4 + 3, none⟩ = some (.slice (l[i]'hi).A (l[i]'hi).preds.length (l[i]'hi).cap) := by
  obtain ⟨b, o, e, hb, hc⟩ := RowOf.at_ inC h.row hi
  refine ⟨b, o, e, hb, ?_, ?_, ?_, ?_⟩
  · have := hc 0 (by decide); simpa [inC, InD.cells] using this
  · have := hc 1 (by decide); simpa [inC, InD.cells] using this
  · have := hc 2 (by decide); simpa [inC, InD.cells] using this
  · have := hc 3 (by decide); simpa [inC, InD.cells] using this
def InBox (w : World) (b : Nat) (x : InD) : Prop := w.heap[b]? = some (.cells #[encStr x.cls, encStr x.con, .int .i64 x.n, .slice x.A x.preds.length x.cap] 71 (0, 0))
theorem InBox.lt {w : World} {b : Nat} {x : InD} (h : InBox w b x) : b < w.heap.size := lt_of_obj h
theorem InBox.ext {w w' : World} {b : Nat} {x : InD} (h : InBox w b x) (e : Ext w w') : InBox w' b x := (e.heap h.lt).trans h
theorem InBox.cells {w : World} {b : Nat} {x : InD} (h : InBox w b x) : w.cell? ⟨b, 0, none⟩ = some (encStr x.cls) ∧ w.cell? ⟨b, 1, none⟩ = some (encStr x.con) ∧ w.cell? ⟨b, 2, none⟩ = some (.int .i64 x.n) ∧ w.cell? ⟨b, 3, none⟩ = some (.slice x.A x.preds.length x.cap) := ⟨bytes_block h 0, bytes_block h 1, bytes_block h 2, bytes_block h 3⟩
theorem InBox.new (w : World) (x : InD) : InBox (w.alloc (.cells #[encStr x.cls, encStr x.con, .int .i64 x.n, .slice x.A x.preds.length x.cap] 71)) w.heap.size x := at_newB _ _ _ rfl
/-- All that is declared. -/
structure EnD where
  D : Option Addr
  dc : Nat
  datas : List DaD
  C : Option Addr
  cc : Nat
  classes : List KlD
  I : Option Addr
  ic : Nat
  insts : List InD
@[go_sem] def enV (x : EnD) : Value := .agg #[.slice x.D x.datas.length x.dc, .slice x.C x.classes.length x.cc, .slice x.I x.insts.length x.ic]
structure EnIn (w : World) (x : EnD) : Prop where
  dle : x.datas.length ≤ x.dc
  dmax : x.dc ≤ 9223372036854775807
  datas : DasIn w x.D x.datas
  cle : x.classes.length ≤ x.cc
  cmax : x.cc ≤ 9223372036854775807
  classes : KlsIn w x.C x.classes
  ile : x.insts.length ≤ x.ic
  imax : x.ic ≤ 9223372036854775807
  insts : InsIn w x.I x.insts
theorem EnIn.ext {w w' : World} {x : EnD} (h : EnIn w x) (e : Ext w w') : EnIn w' x := ⟨h.dle, h.dmax, h.datas.ext e, h.cle, h.cmax, h.classes.ext e, h.ile, h.imax, h.insts.ext e⟩
def EnBox (w : World) (b : Nat) (x : EnD) : Prop := w.heap[b]? = some (.cells #[.slice x.D x.datas.length x.dc, .slice x.C x.classes.length x.cc, .slice x.I x.insts.length x.ic] 26 (0, 0))
theorem EnBox.lt {w : World} {b : Nat} {x : EnD} (h : EnBox w b x) : b < w.heap.size := lt_of_obj h
theorem EnBox.ext {w w' : World} {b : Nat} {x : EnD} (h : EnBox w b x) (e : Ext w w') : EnBox w' b x := (e.heap h.lt).trans h
theorem EnBox.cells {w : World} {b : Nat} {x : EnD} (h : EnBox w b x) : w.cell? ⟨b, 0, none⟩ = some (.slice x.D x.datas.length x.dc) ∧ w.cell? ⟨b, 1, none⟩ = some (.slice x.C x.classes.length x.cc) ∧ w.cell? ⟨b, 2, none⟩ = some (.slice x.I x.insts.length x.ic) := ⟨bytes_block h 0, bytes_block h 1, bytes_block h 2⟩
theorem EnBox.new (w : World) (x : EnD) : EnBox (w.alloc (.cells #[.slice x.D x.datas.length x.dc, .slice x.C x.classes.length x.cc, .slice x.I x.insts.length x.ic] 26)) w.heap.size x := at_newB _ _ _ rfl

end Go.Proofs.YtnomibjbjplieaaGreat

/- Arguments that are all that a program declares, opened. (A program of ours has printed this.) -/
namespace Go.Proofs.YtnomibjbjplieaaGreat
open Go.RowKit Go.ChangeShapes Go.WideShapes Go.Deep

section
variable {H : Type} {enc : TypeId × Value → H} {w : World} {base : Nat} {spare : Nat → Bool} {held : Bool}
set_option maxRecDepth 100000 in
theorem con_reads (fuel : Nat) (cs : List Value) (x : DataW H × List MemPlace) (h : DataW.trod enc Tryz.prog w base spare held fuel 57 cs = some x) (hz : Sized Tryz.prog 57 x.1) :
    ∃ p : CoD, cs = coC.f p ∧ CoIn w p := by
  obtain ⟨hl, n, hn, hf⟩ := fields_manyZ Tryz.underlying57 h
  have hlN : cs.length = 2 := hl.trans (by kernel_rfl)
  obtain ⟨y0, r0, z0⟩ := hf 0 _ rfl
  obtain ⟨y1, r1, z1⟩ := hf 1 _ rfl
  match cs, hlN with
  | [a0, a1], _ =>
    have e0 : ((([a0, a1] : List Value).drop 0).take (Tryz.prog.cellsOf 9)) = [a0] := by rw [show Tryz.prog.cellsOf 9 = 1 from by kernel_rfl]; rfl
    have r0' : DataW.trod enc Tryz.prog w base spare held n 9 [a0] = some y0 := by rw [← e0]; exact r0
    have e1 : ((([a0, a1] : List Value).drop 1).take (Tryz.prog.cellsOf 30)) = [a1] := by rw [show Tryz.prog.cellsOf 30 = 1 from by kernel_rfl]; rfl
    have r1' : DataW.trod enc Tryz.prog w base spare held n 30 [a1] = some y1 := by rw [← e1]; exact r1
    obtain ⟨s0, q0, hs0⟩ := str_readsZ Tryz.underlying9 _ _ _ r0' (z0 hz)
    simp only [List.cons.injEq, and_true, strC] at q0
    subst q0
    obtain ⟨A1, cp1, l1, q1, ka1, kb1, kc1, kd1, ke1⟩ := open_cellsZ tyC (fun t => TyIn w t ∧ okI t = true) Tryz.underlying30 (by kernel_rfl) (fun m hm cs x hh hz => type_reads m cs x hh hz) r1' (z1 hz)
    subst q1
    exact ⟨⟨s0, A1, cp1, l1⟩, rfl, ⟨Nat.le_trans hs0 (by decide), ka1, kb1, ⟨kc1, fun p hp => (kd1 p hp).1⟩⟩⟩
set_option maxRecDepth 100000 in
theorem data_reads (fuel : Nat) (cs : List Value) (x : DataW H × List MemPlace) (h : DataW.trod enc Tryz.prog w base spare held fuel 55 cs = some x) (hz : Sized Tryz.prog 55 x.1) :
    ∃ p : DaD, cs = daC.f p ∧ DaIn w p := by
  obtain ⟨hl, n, hn, hf⟩ := fields_manyZ Tryz.underlying55 h
  have hlN : cs.length = 3 := hl.trans (by kernel_rfl)
  obtain ⟨y0, r0, z0⟩ := hf 0 _ rfl
  obtain ⟨y1, r1, z1⟩ := hf 1 _ rfl
  obtain ⟨y2, r2, z2⟩ := hf 2 _ rfl
  match cs, hlN with
  | [a0, a1, a2], _ =>
    have e0 : ((([a0, a1, a2] : List Value).drop 0).take (Tryz.prog.cellsOf 9)) = [a0] := by rw [show Tryz.prog.cellsOf 9 = 1 from by kernel_rfl]; rfl
    have r0' : DataW.trod enc Tryz.prog w base spare held n 9 [a0] = some y0 := by rw [← e0]; exact r0
    have e1 : ((([a0, a1, a2] : List Value).drop 1).take (Tryz.prog.cellsOf 3)) = [a1] := by rw [show Tryz.prog.cellsOf 3 = 1 from by kernel_rfl]; rfl
    have r1' : DataW.trod enc Tryz.prog w base spare held n 3 [a1] = some y1 := by rw [← e1]; exact r1
    have e2 : ((([a0, a1, a2] : List Value).drop 2).take (Tryz.prog.cellsOf 53)) = [a2] := by rw [show Tryz.prog.cellsOf 53 = 1 from by kernel_rfl]; rfl
    have r2' : DataW.trod enc Tryz.prog w base spare held n 53 [a2] = some y2 := by rw [← e2]; exact r2
    obtain ⟨s0, q0, hs0⟩ := str_readsZ Tryz.underlying9 _ _ _ r0' (z0 hz)
    simp only [List.cons.injEq, and_true, strC] at q0
    subst q0
    obtain ⟨m1, q1, hi1⟩ := int_reads Tryz.underlying3 _ _ _ r1'
    simp only [List.cons.injEq, and_true] at q1
    subst q1
    obtain ⟨A2, cp2, l2, q2, ka2, kb2, kc2, kd2, ke2⟩ := open_cellsZ coC (CoIn w) Tryz.underlying53 (by kernel_rfl) (fun m hm cs x hh hz => con_reads m cs x hh hz) r2' (z2 hz)
    subst q2
    exact ⟨⟨s0, m1, A2, cp2, l2⟩, rfl, ⟨Nat.le_trans hs0 (by decide), ka2, kb2, ⟨kc2, kd2⟩⟩⟩
set_option maxRecDepth 100000 in
theorem meth_reads (fuel : Nat) (cs : List Value) (x : DataW H × List MemPlace) (h : DataW.trod enc Tryz.prog w base spare held fuel 66 cs = some x) (hz : Sized Tryz.prog 66 x.1) :
    ∃ p : MeD, cs = meC.f p ∧ MeIn w p := by
  obtain ⟨hl, n, hn, hf⟩ := fields_manyZ Tryz.underlying66 h
  have hlN : cs.length = 5 := hl.trans (by kernel_rfl)
  obtain ⟨y0, r0, z0⟩ := hf 0 _ rfl
  obtain ⟨y1, r1, z1⟩ := hf 1 _ rfl
  obtain ⟨y2, r2, z2⟩ := hf 2 _ rfl
  match cs, hlN with
  | [a0, a1, a2, a3, a4], _ =>
    have e0 : ((([a0, a1, a2, a3, a4] : List Value).drop 0).take (Tryz.prog.cellsOf 9)) = [a0] := by rw [show Tryz.prog.cellsOf 9 = 1 from by kernel_rfl]; rfl
    have r0' : DataW.trod enc Tryz.prog w base spare held n 9 [a0] = some y0 := by rw [← e0]; exact r0
    have e1 : ((([a0, a1, a2, a3, a4] : List Value).drop 1).take (Tryz.prog.cellsOf 3)) = [a1] := by rw [show Tryz.prog.cellsOf 3 = 1 from by kernel_rfl]; rfl
    have r1' : DataW.trod enc Tryz.prog w base spare held n 3 [a1] = some y1 := by rw [← e1]; exact r1
    have e2 : ((([a0, a1, a2, a3, a4] : List Value).drop 2).take (Tryz.prog.cellsOf 32)) = [a2, a3, a4] := by rw [show Tryz.prog.cellsOf 32 = 3 from by kernel_rfl]; rfl
    have r2' : DataW.trod enc Tryz.prog w base spare held n 32 [a2, a3, a4] = some y2 := by rw [← e2]; exact r2
    obtain ⟨s0, q0, hs0⟩ := str_readsZ Tryz.underlying9 _ _ _ r0' (z0 hz)
    simp only [List.cons.injEq, and_true, strC] at q0
    subst q0
    obtain ⟨m1, q1, hi1⟩ := int_reads Tryz.underlying3 _ _ _ r1'
    simp only [List.cons.injEq, and_true] at q1
    subst q1
    obtain ⟨t2, q2, ht2, ok2⟩ := type_reads _ _ _ r2' (z2 hz)
    have q2' : [a2, a3, a4] = [encStr t2.con, .int .i64 t2.var, .slice t2.A t2.args.length t2.cap] := q2
    simp only [List.cons.injEq, and_true] at q2'
    obtain ⟨rfl, rfl, rfl⟩ := q2'
    exact ⟨⟨s0, m1, t2⟩, rfl, ⟨Nat.le_trans hs0 (by decide), ht2⟩⟩
set_option maxRecDepth 100000 in
theorem klass_reads (fuel : Nat) (cs : List Value) (x : DataW H × List MemPlace) (h : DataW.trod enc Tryz.prog w base spare held fuel 64 cs = some x) (hz : Sized Tryz.prog 64 x.1) :
    ∃ p : KlD, cs = klC.f p ∧ KlIn w p ∧ p.meths.length ≤ 2000000000000 := by
  obtain ⟨hl, n, hn, hf⟩ := fields_manyZ Tryz.underlying64 h
  have hlN : cs.length = 3 := hl.trans (by kernel_rfl)
  obtain ⟨y0, r0, z0⟩ := hf 0 _ rfl
  obtain ⟨y1, r1, z1⟩ := hf 1 _ rfl
  obtain ⟨y2, r2, z2⟩ := hf 2 _ rfl
  match cs, hlN with
  | [a0, a1, a2], _ =>
    have e0 : ((([a0, a1, a2] : List Value).drop 0).take (Tryz.prog.cellsOf 9)) = [a0] := by rw [show Tryz.prog.cellsOf 9 = 1 from by kernel_rfl]; rfl
    have r0' : DataW.trod enc Tryz.prog w base spare held n 9 [a0] = some y0 := by rw [← e0]; exact r0
    have e1 : ((([a0, a1, a2] : List Value).drop 1).take (Tryz.prog.cellsOf 61)) = [a1] := by rw [show Tryz.prog.cellsOf 61 = 1 from by kernel_rfl]; rfl
    have r1' : DataW.trod enc Tryz.prog w base spare held n 61 [a1] = some y1 := by rw [← e1]; exact r1
    have e2 : ((([a0, a1, a2] : List Value).drop 2).take (Tryz.prog.cellsOf 62)) = [a2] := by rw [show Tryz.prog.cellsOf 62 = 1 from by kernel_rfl]; rfl
    have r2' : DataW.trod enc Tryz.prog w base spare held n 62 [a2] = some y2 := by rw [← e2]; exact r2
    obtain ⟨s0, q0, hs0⟩ := str_readsZ Tryz.underlying9 _ _ _ r0' (z0 hz)
    simp only [List.cons.injEq, and_true, strC] at q0
    subst q0
    obtain ⟨A1, cp1, l1, q1, ka1, kb1, kc1, kd1, _⟩ := open_cellsZ strC (fun s : Str => s.length ≤ 1000000000000000000) Tryz.underlying61 (by kernel_rfl) (fun m hm cs x hh hz => by
      obtain ⟨s, q, hs⟩ := str_readsZ Tryz.underlying9 _ _ _ hh hz
      exact ⟨s, q, Nat.le_trans hs (by decide)⟩) r1' (z1 hz)
    subst q1
    obtain ⟨A2, cp2, l2, q2, ka2, kb2, kc2, kd2, ke2⟩ := open_cellsZ meC (MeIn w) Tryz.underlying62 (by kernel_rfl) (fun m hm cs x hh hz => meth_reads m cs x hh hz) r2' (z2 hz)
    subst q2
    rw [show Tryz.prog.bytesOf 66 = 72 from by kernel_rfl] at ke2
    unfold reachBytes at ke2
    exact ⟨⟨s0, A1, cp1, l1, A2, cp2, l2⟩, rfl, ⟨Nat.le_trans hs0 (by decide), ka1, kb1, strs_iff.2 kc1, kd1, ka2, kb2, ⟨kc2, kd2⟩⟩, by show l2.length ≤ 2000000000000; omega⟩
set_option maxRecDepth 100000 in
theorem inst_reads (fuel : Nat) (cs : List Value) (x : DataW H × List MemPlace) (h : DataW.trod enc Tryz.prog w base spare held fuel 71 cs = some x) (hz : Sized Tryz.prog 71 x.1) :
    ∃ p : InD, cs = inC.f p ∧ InIn w p := by
  obtain ⟨hl, n, hn, hf⟩ := fields_manyZ Tryz.underlying71 h
  have hlN : cs.length = 4 := hl.trans (by kernel_rfl)
  obtain ⟨y0, r0, z0⟩ := hf 0 _ rfl
  obtain ⟨y1, r1, z1⟩ := hf 1 _ rfl
  obtain ⟨y2, r2, z2⟩ := hf 2 _ rfl
  obtain ⟨y3, r3, z3⟩ := hf 3 _ rfl
  match cs, hlN with
  | [a0, a1, a2, a3], _ =>
    have e0 : ((([a0, a1, a2, a3] : List Value).drop 0).take (Tryz.prog.cellsOf 9)) = [a0] := by rw [show Tryz.prog.cellsOf 9 = 1 from by kernel_rfl]; rfl
    have r0' : DataW.trod enc Tryz.prog w base spare held n 9 [a0] = some y0 := by rw [← e0]; exact r0
    have e1 : ((([a0, a1, a2, a3] : List Value).drop 1).take (Tryz.prog.cellsOf 9)) = [a1] := by rw [show Tryz.prog.cellsOf 9 = 1 from by kernel_rfl]; rfl
    have r1' : DataW.trod enc Tryz.prog w base spare held n 9 [a1] = some y1 := by rw [← e1]; exact r1
    have e2 : ((([a0, a1, a2, a3] : List Value).drop 2).take (Tryz.prog.cellsOf 3)) = [a2] := by rw [show Tryz.prog.cellsOf 3 = 1 from by kernel_rfl]; rfl
    have r2' : DataW.trod enc Tryz.prog w base spare held n 3 [a2] = some y2 := by rw [← e2]; exact r2
    have e3 : ((([a0, a1, a2, a3] : List Value).drop 3).take (Tryz.prog.cellsOf 37)) = [a3] := by rw [show Tryz.prog.cellsOf 37 = 1 from by kernel_rfl]; rfl
    have r3' : DataW.trod enc Tryz.prog w base spare held n 37 [a3] = some y3 := by rw [← e3]; exact r3
    obtain ⟨s0, q0, hs0⟩ := str_readsZ Tryz.underlying9 _ _ _ r0' (z0 hz)
    simp only [List.cons.injEq, and_true, strC] at q0
    subst q0
    obtain ⟨s1, q1, hs1⟩ := str_readsZ Tryz.underlying9 _ _ _ r1' (z1 hz)
    simp only [List.cons.injEq, and_true, strC] at q1
    subst q1
    obtain ⟨m2, q2, hi2⟩ := int_reads Tryz.underlying3 _ _ _ r2'
    simp only [List.cons.injEq, and_true] at q2
    subst q2
    obtain ⟨A3, cp3, l3, q3, ka3, kb3, kc3, kd3, ke3⟩ := open_cellsZ pdC (fun p => PdIn w p ∧ okI p.ty = true) Tryz.underlying37 (by kernel_rfl) (fun m hm cs x hh hz => pred_reads m cs x hh hz) r3' (z3 hz)
    subst q3
    exact ⟨⟨s0, s1, m2, A3, cp3, l3⟩, rfl, ⟨Nat.le_trans hs0 (by decide), Nat.le_trans hs1 (by decide), ka3, kb3, ⟨kc3, fun p hp => (kd3 p hp).1⟩⟩⟩
set_option maxRecDepth 100000 in
theorem env_reads (fuel : Nat) (cs : List Value) (x : DataW H × List MemPlace) (h : DataW.trod enc Tryz.prog w base spare held fuel 26 cs = some x) (hz : Sized Tryz.prog 26 x.1) :
    ∃ p : EnD, cs = [.slice p.D p.datas.length p.dc, .slice p.C p.classes.length p.cc, .slice p.I p.insts.length p.ic] ∧ EnIn w p ∧ ∀ c ∈ p.classes, c.meths.length ≤ 2000000000000 := by
  obtain ⟨hl, n, hn, hf⟩ := fields_manyZ Tryz.underlying26 h
  have hlN : cs.length = 3 := hl.trans (by kernel_rfl)
  obtain ⟨y0, r0, z0⟩ := hf 0 _ rfl
  obtain ⟨y1, r1, z1⟩ := hf 1 _ rfl
  obtain ⟨y2, r2, z2⟩ := hf 2 _ rfl
  match cs, hlN with
  | [a0, a1, a2], _ =>
    have e0 : ((([a0, a1, a2] : List Value).drop 0).take (Tryz.prog.cellsOf 22)) = [a0] := by rw [show Tryz.prog.cellsOf 22 = 1 from by kernel_rfl]; rfl
    have r0' : DataW.trod enc Tryz.prog w base spare held n 22 [a0] = some y0 := by rw [← e0]; exact r0
    have e1 : ((([a0, a1, a2] : List Value).drop 1).take (Tryz.prog.cellsOf 23)) = [a1] := by rw [show Tryz.prog.cellsOf 23 = 1 from by kernel_rfl]; rfl
    have r1' : DataW.trod enc Tryz.prog w base spare held n 23 [a1] = some y1 := by rw [← e1]; exact r1
    have e2 : ((([a0, a1, a2] : List Value).drop 2).take (Tryz.prog.cellsOf 24)) = [a2] := by rw [show Tryz.prog.cellsOf 24 = 1 from by kernel_rfl]; rfl
    have r2' : DataW.trod enc Tryz.prog w base spare held n 24 [a2] = some y2 := by rw [← e2]; exact r2
    obtain ⟨A0, cp0, l0, q0, ka0, kb0, kc0, kd0, ke0⟩ := open_cellsZ daC (DaIn w) Tryz.underlying22 (by kernel_rfl) (fun m hm cs x hh hz => data_reads m cs x hh hz) r0' (z0 hz)
    subst q0
    obtain ⟨A1, cp1, l1, q1, ka1, kb1, kc1, kd1, ke1⟩ := open_cellsZ klC (fun c => KlIn w c ∧ c.meths.length ≤ 2000000000000) Tryz.underlying23 (by kernel_rfl) (fun m hm cs x hh hz => klass_reads m cs x hh hz) r1' (z1 hz)
    subst q1
    obtain ⟨A2, cp2, l2, q2, ka2, kb2, kc2, kd2, ke2⟩ := open_cellsZ inC (InIn w) Tryz.underlying24 (by kernel_rfl) (fun m hm cs x hh hz => inst_reads m cs x hh hz) r2' (z2 hz)
    subst q2
    exact ⟨⟨A0, cp0, l0, A1, cp1, l1, A2, cp2, l2⟩, rfl, ⟨ka0, kb0, ⟨kc0, kd0⟩, ka1, kb1, ⟨kc1, fun p hp => (kd1 p hp).1⟩, ka2, kb2, ⟨kc2, kd2⟩⟩, fun c hc => (kd1 c hc).2⟩
theorem open_env {v : Value} {d : DataW H} {p : List MemPlace} (h : DataW.Trod enc Tryz.prog w base spare held 26 v d p) (hv : ∃ cs, v = .agg cs) (hz : Sized Tryz.prog 26 d) : ∃ t : EnD, v = enV t ∧ EnIn w t ∧ ∀ c ∈ t.classes, c.meths.length ≤ 2000000000000 := by
  obtain ⟨arr, rfl⟩ := hv
  obtain ⟨fuel, hf⟩ := h
  obtain ⟨t, e, ht⟩ := env_reads fuel _ _ hf hz
  refine ⟨t, ?_, ht⟩
  have e1 : arr.toList = [.slice t.D t.datas.length t.dc, .slice t.C t.classes.length t.cc, .slice t.I t.insts.length t.ic] := by simpa [Value.cells] using e
  have e2 : arr = ([.slice t.D t.datas.length t.dc, .slice t.C t.classes.length t.cc, .slice t.I t.insts.length t.ic] : List Value).toArray := by rw [← e1]
  rw [e2]
  rfl
theorem open_strZ {v : Value} {d : DataW H} {p : List MemPlace} (h : DataW.Trod enc Tryz.prog w base spare held 9 v d p) (hv : ∃ s, v = .string s) (hz : Sized Tryz.prog 9 d) : ∃ n : Str, v = .string ⟨n.toArray⟩ ∧ n.length ≤ 140737488351232 := by
  obtain ⟨s, rfl⟩ := hv
  obtain ⟨fuel, hf⟩ := h
  have hf2 : DataW.trod enc Tryz.prog w base spare held fuel 9 [.string s] = some (d, p) := by simpa [Value.cells] using hf
  obtain ⟨a, e, ha⟩ := str_readsZ Tryz.underlying9 fuel _ _ hf2 hz
  have e2 : Value.string s = encStr a := by simpa [strC] using e
  exact ⟨a, e2, ha⟩
end

end Go.Proofs.YtnomibjbjplieaaGreat
