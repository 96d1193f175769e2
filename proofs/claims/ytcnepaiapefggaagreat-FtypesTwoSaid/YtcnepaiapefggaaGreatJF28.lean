/- Contracts on the reference: what is free in a type for all of some variables; whether some are; variables as types. -/
import Derived.Test.YtcnepaiapefggaaGreatJF27
/- Contracts on the reference: what is free in a type for all of some variables; whether some are; variables as types. -/
namespace Go.Proofs.YtcnepaiapefggaaGreat
open Go.RowKit

theorem free_take (l vars : List Int) {k : Nat} (h : k < l.length) : ((l.take (k + 1)).filter fun v => !(vars.any (· == v))) = ((l.take k).filter fun v => !(vars.any (· == v))) ++ if vars.any (· == l[k]'h) then [] else [l[k]'h] := by
  rw [List.take_succ_eq_append_getElem h, List.filter_append]
  congr 1
  cases hb : vars.any (· == l[k]'h) <;> simp [hb]
theorem meets_iff (vars l : List Int) : meetsI vars l = vars.any fun v => l.any (· == v) := by
  unfold meetsI
  rw [Bool.eq_iff_iff, List.any_eq_true, List.any_eq_true]
  constructor
  · rintro ⟨x, hx, h⟩
    obtain ⟨y, hy, e⟩ := List.any_eq_true.1 h
    exact ⟨y, hy, List.any_eq_true.2 ⟨x, hx, by simp at e ⊢; exact e.symm⟩⟩
  · rintro ⟨x, hx, h⟩
    obtain ⟨y, hy, e⟩ := List.any_eq_true.1 h
    exact ⟨y, hy, List.any_eq_true.2 ⟨x, hx, by simp at e ⊢; exact e.symm⟩⟩
theorem onceGo_full (l : List Int) : ∀ out, (onceGo out l).length = out.length + l.length ↔ l.Nodup ∧ ∀ x ∈ l, x ∉ out := by
  induction l with
  | nil => intro out; simp [onceGo]
  | cons x l ih =>
    intro out
    unfold onceGo
    by_cases hx : out.contains x = true
    · rw [if_pos hx]
      have h1 := onceGo_len l out
      rw [List.contains_iff_mem] at hx
      constructor
      · intro h; rw [List.length_cons] at h; omega
      · intro h; exact absurd hx (h.2 x (List.mem_cons_self))
    · rw [if_neg hx]
      rw [List.contains_iff_mem] at hx
      have h1 := ih (out ++ [x])
      rw [List.length_append, List.length_cons, List.length_nil] at h1
      rw [List.length_cons, List.nodup_cons, show out.length + (l.length + 1) = out.length + (0 + 1) + l.length by omega, h1]
      constructor
      · rintro ⟨h2, h3⟩
        refine ⟨⟨fun h => by have := h3 x h; simp at this, h2⟩, fun y hy => ?_⟩
        rcases List.mem_cons.1 hy with rfl | hy
        · exact hx
        · exact fun h => h3 y hy (List.mem_append.2 (.inl h))
      · rintro ⟨⟨h2, h3⟩, h4⟩
        refine ⟨h3, fun y hy h => ?_⟩
        rcases List.mem_append.1 h with h | h
        · exact h4 y (List.mem_cons_of_mem _ hy) h
        · rw [List.mem_singleton] at h; subst h; exact h2 hy
theorem onceI_full (l : List Int) : (onceI l).length = l.length ↔ l.Nodup := by
  have := onceGo_full l []
  unfold onceI
  simpa using this

set_option maxRecDepth 10000 in
set_option maxHeartbeats 2000000 in
theorem r_free31 (p : Po) (w : World) (h : PoIn w p) (hsz : p.ty.size ≤ 90000) (hn : p.vars.length ≤ 90000) : Calls Tryz.prog 23 #[poV p] w fun e w' => (∃ A' cap', e = .returned (.slice A' (freeL p).length cap') ∧ (freeL p).length ≤ cap' ∧ cap' ≤ 9223372036854775807 ∧ Ints w' A' (freeL p)) ∧ Ext w w' := by
  obtain ⟨i0, hi, hz0, hz1, hz2⟩ := info_parts int64_info
  have X0 : Hid (Ext w (w.alloc (.cells #[.slice p.A p.vars.length p.cap, encStr p.ty.con, .int .i64 p.ty.var, .slice p.ty.A p.ty.args.length p.ty.cap] 31))) := hide ((Ext.refl w).alloc _)
  have HB := hide (PBox.new w p)
  obtain ⟨c0, c1, c2, c3⟩ := HB.out.cells
  have HV := hide (r_vars16 p.ty _ (h.ty.ext X0.out) (by omega))
  have HF : Hid (freeL p = (onceI p.ty.vars).filter fun v => !(p.vars.any (· == v))) := hide rfl
  have HR := hide h.row
  have hmx := h.max
  have hle := h.le
  have hln : (onceI p.ty.vars).length ≤ 90000 := Nat.le_trans (onceI_len _) (Nat.le_trans (vars_len _) hsz)
  clear h
  unfold poV
  unfold tyV at *
  go_enter Tryz.func23, Tryz.ntmps23
  go_wp2_with fail
  refine HV.out.mono ?_
  rintro e w2 ⟨⟨A1, k1, rfl, r1, r2, r3⟩, hx2⟩
  have X2 := hide (X0.out.trans hx2)
  have HB2 := hide (HB.out.ext hx2)
  have R3 := hide r3
  have HT := hide (fun k (hk : k < (onceI p.ty.vars).length) => free_take (onceI p.ty.vars) p.vars hk)
  have HLn := hide (fun k => List.length_filter_le (fun v => !(p.vars.any (· == v))) ((onceI p.ty.vars).take k))
  clear hx2 r3 c0 c1 c2 c3
  go_wp2
  go_loopw [4, 5] (fun u i wr => ∃ k : Nat, k ≤ (onceI p.ty.vars).length ∧ i = .int .i64 k ∧ Hid (Ext w2 wr) ∧ Hid (wr.ownsRow w2.heap.size 3 1 u (((onceI p.ty.vars).take k).filter fun v => !(p.vars.any (· == v))).length ((((onceI p.ty.vars).take k).filter fun v => !(p.vars.any (· == v))).map (Value.int .i64)))) (fun _ i _ => (onceI p.ty.vars).length - (intOf i).toNat)
  case atStart => exact ⟨0, Nat.zero_le _, rfl, hide (Ext.refl _), hide (World.ownsRow_nil _ _ _ _)⟩
  case round =>
    obtain ⟨k, hk, rfl, HX, HO⟩ := hrel
    by_cases hlt : k < (onceI p.ty.vars).length
    · have hlt' : (k : Int) < ((onceI p.ty.vars).length : Int) := by omega
      have hk0 : (0 : Int) ≤ (k : Int) := by omega
      obtain ⟨b, o, rfl, hb, hc⟩ := Ints.at_ (RowOf.ext intC R3.out HX.out) hlt
      obtain ⟨c0, -, -, -⟩ := (HB2.out.ext HX.out).cells
      have Htk := hide (HT.out k hlt)
      have hn1 := HLn.out k
      rw [List.length_take] at hn1
      generalize (onceI p.ty.vars)[k]'hlt = x at *
      generalize (((onceI p.ty.vars).take k).filter fun v => !(p.vars.any (· == v))) = L at *
      have HI := hide (fun w' (e : Ext wr w') => hide (r_in16 p.A p.cap p.vars x w' (RowOf.ext intC HR.out (X2.out.trans (HX.out.trans e))) (by omega)))
      cases hb : p.vars.any (· == x)
      · rw [hb] at HI Htk
        clear hb
        go_wp2
        go_quiet ((go_at_call 59; exact Calls.quiet_of_same (HI.out _ (by repeat (first | exact Ext.refl _ | exact Ext.pre (by simp) | exact Ext.alloc (by assumption) _ | refine Ext.alloc ?_ _ |  refine Ext.more ?_ _ _ | refine Ext.drew ?_ | refine Ext.drewN ?_ _))).out))
        go_wp2_with (at_builtin; refine wpList_append_row _ rfl _ _ 29 rfl w2.heap.size 3 i0 _ 1 8 Tryz.underlying29 hi hz0 hz1 hz2 rfl (by decide) u4 L.length (L.map (Value.int .i64)) rfl (own_extB HO.out (by repeat (first | exact Ext.refl _ | exact Ext.pre (by simp) | exact Ext.alloc (by assumption) _ | refine Ext.alloc ?_ _ |  refine Ext.more ?_ _ _ | refine Ext.drew ?_ | refine Ext.drewN ?_ _))) _ 1 1 [.int .i64 x] rfl ?c2 ?c3 ?c4 ?c5 ?c6 ?_)
        case c2 => exact Row.boxI _ (at_newB _ _ _ (by simp))
        case c3 => first | rfl | (intro y hy; simp at hy; subst hy; rfl)
        case c4 => unfold maxLen; omega
        case c5 => omega
        case c6 => have := HX.out.size; simp; omega
        intro v4 w4 hown4 hg4 _
        have X4 := hide (Ext.app (show Ext w2 _ from HX.out.trans (by repeat (first | exact Ext.refl _ | exact Ext.pre (by simp) | exact Ext.alloc (by assumption) _ | refine Ext.alloc ?_ _ |  refine Ext.more ?_ _ _ | refine Ext.drew ?_ | refine Ext.drewN ?_ _))) hg4 (own_extB HO.out (by repeat (first | exact Ext.refl _ | exact Ext.pre (by simp) | exact Ext.alloc (by assumption) _ | refine Ext.alloc ?_ _ |  refine Ext.more ?_ _ _ | refine Ext.drew ?_ | refine Ext.drewN ?_ _))) (Nat.le_refl _))
        have O4 := hide hown4
        clear hown4 hg4
        go_wp2
        go_roundw
        case rel => exact ⟨k + 1, hlt, by go_num, X4, hide (by rw [Htk.out]; simpa using O4.out)⟩
        case measure => simp [intOf]; omega
      · rw [hb] at HI Htk
        clear hb
        go_wp2
        go_quiet ((go_at_call 59; exact Calls.quiet_of_same (HI.out _ (by repeat (first | exact Ext.refl _ | exact Ext.pre (by simp) | exact Ext.alloc (by assumption) _ | refine Ext.alloc ?_ _ |  refine Ext.more ?_ _ _ | refine Ext.drew ?_ | refine Ext.drewN ?_ _))).out))
        go_wp2
        go_roundw
        case rel => exact ⟨k + 1, hlt, by go_num, hide (HX.out.trans (by repeat (first | exact Ext.refl _ | exact Ext.pre (by simp) | exact Ext.alloc (by assumption) _ | refine Ext.alloc ?_ _ |  refine Ext.more ?_ _ _ | refine Ext.drew ?_ | refine Ext.drewN ?_ _))), hide (by rw [Htk.out]; simpa using own_extB HO.out (by repeat (first | exact Ext.refl _ | exact Ext.pre (by simp) | exact Ext.alloc (by assumption) _ | refine Ext.alloc ?_ _ |  refine Ext.more ?_ _ _ | refine Ext.drew ?_ | refine Ext.drewN ?_ _)))⟩
        case measure => simp [intOf]; omega
    · have hge : ¬ (k : Int) < ((onceI p.ty.vars).length : Int) := by omega
      rw [List.take_of_length_le (by omega), ← HF.out] at HO
      obtain ⟨A5, c5, rfl, p1, p2, p3, _⟩ := Ints.own HO.out
      have P3 := hide p3
      clear p3
      go_wp2
      go_ret
      exact ⟨⟨A5, c5, rfl, p1, p2, P3.out⟩, X2.out.trans HX.out⟩

set_option maxHeartbeats 1000000 in
theorem r_meets31 (A B : Option Addr) (cap cap' : Nat) (vars l : List Int) (w : World) (h : Ints w A vars) (h' : Ints w B l) (hle : vars.length ≤ 1000000) (hle' : l.length ≤ 1000000) :
    Calls Tryz.prog 51 #[.slice A vars.length cap, .slice B l.length cap'] w fun e w' => e = .returned (.bool (meetsI vars l)) ∧ w' = w := by
  have HM : Hid (meetsI vars l = vars.any fun v => l.any (· == v)) := hide (meets_iff vars l)
  have Hr := hide h
  have HI := hide (fun x => hide (r_in16 B cap' l x w h' hle'))
  clear h h'
  generalize meetsI vars l = R at *
  go_enter Tryz.func51, Tryz.ntmps51
  go_wp2
  go_loop [5] (fun i => ∃ j : Nat, j ≤ vars.length ∧ i = .int .i64 j ∧ Hid (((vars.take j).any fun v => l.any (· == v)) = false)) (fun i => vars.length - (intOf i).toNat)
  case atStart => exact ⟨0, Nat.zero_le _, rfl, hide (by simp)⟩
  case round =>
    obtain ⟨j, hj, rfl, Hj⟩ := hrel
    by_cases hlt : j < vars.length
    · obtain ⟨b, o, rfl, hb, hc⟩ := Hr.out.at_ hlt
      have hlt' : (j : Int) < (vars.length : Int) := by omega
      have hj0 : (0 : Int) ≤ (j : Int) := by omega
      have Htk : Hid (vars.take (j + 1) = vars.take j ++ [vars[j]'hlt]) := hide (List.take_succ_eq_append_getElem hlt)
      have Hmem : Hid (vars[j]'hlt ∈ vars) := hide (List.getElem_mem hlt)
      generalize vars[j]'hlt = y at *
      have HIy := hide (HI.out y).out
      cases hs : l.any (· == y)
      · rw [hs] at HIy
        have Hs := hide hs
        clear hs
        go_wp2_with fail
        refine HIy.out.mono ?_
        rintro e w ⟨rfl, rfl⟩
        go_wp2
        go_round
        case rel => exact ⟨j + 1, hlt, by go_num, hide (by rw [Htk.out, List.any_append, Hj.out]; simpa using Hs.out)⟩
        case measure => simp [intOf]; omega
      · rw [hs] at HIy
        have hR : R = true := by rw [HM.out, List.any_eq_true]; exact ⟨y, Hmem.out, hs⟩
        clear hs HM
        subst hR
        go_wp2_with fail
        refine HIy.out.mono ?_
        rintro e w ⟨rfl, rfl⟩
        go_wp2
        go_ret
        exact ⟨rfl, rfl⟩
    · have hge : ¬ (j : Int) < (vars.length : Int) := by omega
      have hR : R = false := by rw [HM.out]; have := Hj.out; rwa [List.take_of_length_le (by omega)] at this
      clear HM
      subst hR
      go_wp2
      go_ret
      exact ⟨rfl, rfl⟩

set_option maxRecDepth 10000 in
set_option maxHeartbeats 2000000 in
theorem r_vs31 (A : Option Addr) (cap : Nat) (l : List Int) (w : World) (h : Ints w A l) (hle : l.length ≤ 90000) :
    Calls Tryz.prog 53 #[.slice A l.length cap] w fun e w' => (∃ A', (∃ cap', e = .returned (.slice A' l.length cap')) ∧ TysIn w' A' (l.map varT)) ∧ Ext w w' := by
  obtain ⟨i1, hj, hy0, hy1, hy2⟩ := info_parts ty_info3
  have Hr := hide h
  have HV := hide (fun v w' => hide (r_V16 v w'))
  have HLm : Hid (∀ k, k ≤ l.length → ((l.take k).map varT).length = k) := hide (fun k hk => by rw [List.length_map, List.length_take]; omega)
  clear h
  unfold tyV at HV
  simp only [Ty.con, Ty.var, Ty.A, Ty.cap, Ty.args, List.length_nil, encStr] at HV
  go_enter Tryz.func53, Tryz.ntmps53
  go_wp2
  go_loopw [3, 4] (fun u i wr => ∃ k : Nat, k ≤ l.length ∧ i = .int .i64 k ∧ Hid (Ext w wr) ∧ Hid (wr.ownsRow w.heap.size 24 3 u k (((l.take k).map varT).flatMap tyC.f))) (fun _ i _ => l.length - (intOf i).toNat)
  case atStart => exact ⟨0, Nat.zero_le _, rfl, hide (Ext.refl _), hide (World.ownsRow_nil _ _ _ _)⟩
  case round =>
    obtain ⟨k, hk, rfl, HX, HO⟩ := hrel
    by_cases hlt : k < l.length
    · have hlt' : (k : Int) < (l.length : Int) := by omega
      have hk0 : (0 : Int) ≤ (k : Int) := by omega
      obtain ⟨b, o, rfl, hb, hc⟩ := Ints.at_ (RowOf.ext intC Hr.out HX.out) hlt
      have Htk : Hid (((l.take (k + 1)).map varT).flatMap tyC.f = ((l.take k).map varT).flatMap tyC.f ++ [.string ⟨#[]⟩, .int .i64 (l[k]'hlt), .slice none 0 0]) := hide (by
        rw [List.take_succ_eq_append_getElem hlt, List.map_append, List.map_singleton, flat_snoc]
        rfl)
      generalize l[k]'hlt = x at *
      generalize ((l.take k).map varT).flatMap tyC.f = L at *
      go_wp2_with fail
      refine (HV.out _ _).out.mono ?_
      rintro e w3 ⟨rfl, hx3⟩
      have X3 := hide (HX.out.trans hx3)
      have O3 := hide (own_extB HO.out hx3)
      have hs3 := X3.out.size
      clear hx3
      go_wp2_with (at_builtin; refine wpList_append_row _ rfl _ _ 22 rfl w.heap.size 24 i1 _ 3 48 Tryz.underlying22 hj hy0 hy1 hy2 rfl (by decide) u3 k L rfl (O3.out.alloc _) _ 1 1 [.string ⟨#[]⟩, .int .i64 x, .slice none 0 0] rfl ?c2 ?c3 ?c4 ?c5 ?c6 ?_)
      case c2 => exact Row.ty3 _ _ _ (at_newB _ _ _ (by simp))
      case c3 => first | exact ⟨rfl, rfl, rfl⟩ | (intro y hy; simp at hy; rcases hy with rfl | rfl | rfl <;> rfl)
      case c4 => unfold maxLen; omega
      case c5 => omega
      case c6 => simp; omega
      intro v4 w4 hown4 hg4 _
      have X4 := hide (Ext.app (X3.out.alloc _) hg4 (O3.out.alloc _) (Nat.le_refl _))
      have O4 := hide hown4
      clear hown4 hg4
      go_wp2
      go_roundw
      case rel => exact ⟨k + 1, hlt, by go_num, X4, hide (by rw [Htk.out]; exact O4.out)⟩
      case measure => simp [intOf]; omega
    · have hge : ¬ (k : Int) < (l.length : Int) := by omega
      have hkl : k = l.length := by omega
      have HO2 : Hid (wr.ownsRow w.heap.size 24 3 u3 (l.map varT).length ((l.map varT).flatMap tyC.f)) := hide (by
        have := HO.out
        rw [hkl, List.take_length] at this
        rwa [List.length_map])
      clear HO hkl
      obtain ⟨A5, c5, rfl, p1, p2, p3, _⟩ := RowOf.own tyC HO2.out
      have P3 := hide (varsT_in _ _ _ p3)
      clear p3
      rw [List.length_map] at *
      go_wp2
      go_ret
      exact ⟨⟨A5, ⟨c5, rfl⟩, P3.out⟩, HX.out⟩

end Go.Proofs.YtcnepaiapefggaaGreat

/- Contract on the reference: whether two types for all of some variables are alike. (A program of ours has printed a part.) -/
namespace Go.Proofs.YtcnepaiapefggaaGreat
open Go.RowKit

set_option maxRecDepth 10000 in
set_option maxHeartbeats 4000000 in
theorem r_alike31 (a b : Po) (w : World) (ha : PoIn w a) (hb : PoIn w b) (hsa : a.ty.size ≤ 90000) (hsb : b.ty.size ≤ 90000) (hna : a.vars.length ≤ 90000) (hnb : b.vars.length ≤ 90000) :
    Calls Tryz.prog 20 #[poV a, poV b] w fun e w' => e = .returned (.bool (alikeP a b)) ∧ Ext w w' := by
  obtain ⟨W, hW⟩ : ∃ W, W = (w.alloc (.cells #[.slice a.A a.vars.length a.cap, encStr a.ty.con, .int .i64 a.ty.var, .slice a.ty.A a.ty.args.length a.ty.cap] 31)).alloc (.cells #[.slice b.A b.vars.length b.cap, encStr b.ty.con, .int .i64 b.ty.var, .slice b.ty.A b.ty.args.length b.ty.cap] 31) := ⟨_, rfl⟩
  have XW : Hid (Ext w W) := hide (by rw [hW]; exact ((Ext.refl _).alloc _).alloc _)
  have HBa : Hid (PBox W w.heap.size a) := hide (by rw [hW]; exact (PBox.new w a).ext ((Ext.refl _).alloc _))
  have HBb : Hid (PBox W (w.heap.size + 1) b) := hide (by rw [hW]; have := PBox.new (w.alloc (.cells #[.slice a.A a.vars.length a.cap, encStr a.ty.con, .int .i64 a.ty.var, .slice a.ty.A a.ty.args.length a.ty.cap] 31)) b; rwa [World.size_alloc] at this)
  have HW := hide hW.symm
  have HA := hide ha
  have HB := hide hb
  have HOa := hide (fun w' (e : Ext w w') => hide (r_once16 a.A a.cap a.vars w' (RowOf.ext intC ha.row e) (by omega)))
  have HOb := hide (fun w' (e : Ext w w') => hide (r_once16 b.A b.cap b.vars w' (RowOf.ext intC hb.row e) (by omega)))
  have HFa := hide (fun w' (e : Ext w w') => hide (r_free31 a w' (ha.ext e) hsa hna))
  have HFb := hide (fun w' (e : Ext w w') => hide (r_free31 b w' (hb.ext e) hsb hnb))
  have HMa := hide (fun B c' w' (e : Ext w w') (h : Ints w' B (freeL b)) => hide (r_meets31 a.A B a.cap c' a.vars (freeL b) w' (RowOf.ext intC ha.row e) h (by omega) (by have := freeL_len b; omega)))
  have HMb := hide (fun B c' w' (e : Ext w w') (h : Ints w' B (freeL a)) => hide (r_meets31 b.A B b.cap c' b.vars (freeL a) w' (RowOf.ext intC hb.row e) h (by omega) (by have := freeL_len a; omega)))
  have HP : Hid (alikeP a b = (decide (a.vars.length = b.vars.length) && decide a.vars.Nodup && decide b.vars.Nodup && !meetsI a.vars (freeL b) && !meetsI b.vars (freeL a) && eqP a.ty.pure (putP b.vars (a.vars.map varT) b.ty))) := hide rfl
  have HNa : Hid ((onceI a.vars).length = a.vars.length ↔ decide a.vars.Nodup = true) := hide (by rw [onceI_full]; simp)
  have HNb : Hid ((onceI b.vars).length = b.vars.length ↔ decide b.vars.Nodup = true) := hide (by rw [onceI_full]; simp)
  obtain ⟨a0, a1, a2, a3⟩ := HBa.out.cells
  obtain ⟨b0, b1, b2, b3⟩ := HBb.out.cells
  have hla := ha.le
  have hma := ha.max
  have hlb := hb.le
  have hmb := hb.max
  clear ha hb hW
  unfold poV at *
  generalize alikeP a b = R at *
  generalize decide a.vars.Nodup = NA at *
  generalize decide b.vars.Nodup = NB at *
  generalize meetsI a.vars (freeL b) = MA at *
  generalize meetsI b.vars (freeL a) = MB at *
  generalize onceI a.vars = oa at *
  generalize onceI b.vars = ob at *
  generalize freeL a = fa at *
  generalize freeL b = fb at *
  by_cases hl : ¬ a.vars.length = b.vars.length
  · have hR : R = false := by rw [HP.out, decide_eq_false hl]; rfl
    have hne : ((a.vars.length : Int) != (b.vars.length : Int)) = true := by rw [bne_iff_ne]; omega
    clear HP HOa HOb HMa HMb HFa HFb HNa HNb hl
    subst hR
    go_enter Tryz.func20, Tryz.ntmps20
    go_upto_region 1 with fail
    rw [HW.out]
    go_wp2
    go_quiet (fail)
    go_wp2
    go_ret
    exact ⟨rfl, XW.out.trans (by repeat (first | exact Ext.refl _ | exact Ext.pre (by simp) | exact Ext.alloc (by assumption) _ | refine Ext.alloc ?_ _ |  refine Ext.more ?_ _ _ | refine Ext.drew ?_ | refine Ext.drewN ?_ _))⟩
  replace hl := Classical.not_not.1 hl
  have HL : Hid (b.vars.length = a.vars.length) := hide hl.symm
  rw [decide_eq_true hl, Bool.true_and] at HP
  clear hl
  rw [HL.out] at b0 HOb HMb HFb HW hlb hnb HNb ⊢
  have HS := hide (fun w' (e : Ext W w') => by
    have g1 := (HBa.out.ext e).cells
    have g2 := (HBb.out.ext e).cells
    rw [HL.out] at g2
    exact And.intro g1.1 (And.intro g1.2.1 (And.intro g1.2.2.1 (And.intro g1.2.2.2 (And.intro g2.1 (And.intro g2.2.1 (And.intro g2.2.2.1 g2.2.2.2)))))))
  have HS0 := hide (fun w' (e : Ext W w') => And.intro (HS.out w' e).1 (HS.out w' e).2.2.2.2.1)
  rcases (Bool.eq_false_or_eq_true NA).symm with h0 | h0
  · subst h0
    have hR : R = false := by rw [HP.out]; simp
    subst hR
    have hne : ((oa.length : Int) != (a.vars.length : Int)) = true := by
      have := HNa.out
      rw [bne_iff_ne]
      intro e
      exact absurd (this.1 (by omega)) (by decide)
    clear HP HNa HNb HMa HMb HFa HFb HOb
    go_enter Tryz.func20, Tryz.ntmps20
    go_upto_region 1 with fail
    rw [HW.out]
    go_wp2
    have hS0 := HS0.out _ (Ext.refl W).drew
    refine but_startN 99 27 #[false, false, false, false, false, false, false, false, false, false, false, false, false, false, false, false, false, false, false, false, false, false, false, false, false, false, false] (fun w' => w'.cell? ⟨w.heap.size, 0, none⟩ = some (.slice a.A a.vars.length a.cap) ∧ w'.cell? ⟨w.heap.size + 1, 0, none⟩ = some (.slice b.A a.vars.length b.cap)) (by kernel_rfl) (by kernel_rfl) (by kernel_rfl) ?_
    (refine but_takeL (i := 0) (v := ?_) rfl (by kernel_rfl) (by kernel_rfl) (by kernel_rfl) (by kernel_rfl) (fun _ _ _ h => h) (Or.inl ⟨by kernel_rfl, ?_⟩) (by assumption) ?_; rotate_left 1; (focus (intro w hSw; (try dsimp only at hSw); (try obtain ⟨g1, g2, g3⟩ := hSw); (try obtain ⟨g1, g2⟩ := hSw); go_simp; try with_reducible rfl)); simp only [Act.put, List.setIfInBounds_toArray, List.set_cons_zero, List.set_cons_succ])
    (refine but_takeL (i := 1) (v := ?_) rfl (by kernel_rfl) (by kernel_rfl) (by kernel_rfl) (by kernel_rfl) (fun _ _ _ h => h) (Or.inl ⟨by kernel_rfl, ?_⟩) (by assumption) ?_; rotate_left 1; (focus (intro w hSw; (try dsimp only at hSw); (try obtain ⟨g1, g2, g3⟩ := hSw); (try obtain ⟨g1, g2⟩ := hSw); go_simp; try with_reducible rfl)); simp only [Act.put, List.setIfInBounds_toArray, List.set_cons_zero, List.set_cons_succ])
    (refine but_takeL (i := 2) (v := ?_) rfl (by kernel_rfl) (by kernel_rfl) (by kernel_rfl) (by kernel_rfl) (fun _ _ _ h => h) (Or.inl ⟨by kernel_rfl, ?_⟩) (by assumption) ?_; rotate_left 1; (focus (intro w hSw; (try dsimp only at hSw); (try obtain ⟨g1, g2, g3⟩ := hSw); (try obtain ⟨g1, g2⟩ := hSw); go_simp; try with_reducible rfl)); simp only [Act.put, List.setIfInBounds_toArray, List.set_cons_zero, List.set_cons_succ])
    (refine but_takeL (i := 3) (v := ?_) rfl (by kernel_rfl) (by kernel_rfl) (by kernel_rfl) (by kernel_rfl) (fun _ _ _ h => h) (Or.inl ⟨by kernel_rfl, ?_⟩) (by assumption) ?_; rotate_left 1; (focus (intro w hSw; (try dsimp only at hSw); (try obtain ⟨g1, g2, g3⟩ := hSw); (try obtain ⟨g1, g2⟩ := hSw); go_simp; try with_reducible rfl)); simp only [Act.put, List.setIfInBounds_toArray, List.set_cons_zero, List.set_cons_succ])
    (refine but_takeL (i := 4) (v := ?_) rfl (by kernel_rfl) (by kernel_rfl) (by kernel_rfl) (by kernel_rfl) (fun _ _ _ h => h) (Or.inl ⟨by kernel_rfl, ?_⟩) (by assumption) ?_; rotate_left 1; (focus (intro w hSw; (try dsimp only at hSw); (try obtain ⟨g1, g2, g3⟩ := hSw); (try obtain ⟨g1, g2⟩ := hSw); go_simp; try with_reducible rfl)); simp only [Act.put, List.setIfInBounds_toArray, List.set_cons_zero, List.set_cons_succ])
    (refine but_takeL (i := 5) (v := ?_) rfl (by kernel_rfl) (by kernel_rfl) (by kernel_rfl) (by kernel_rfl) (fun _ _ _ h => h) (Or.inl ⟨by kernel_rfl, ?_⟩) (by assumption) ?_; rotate_left 1; (focus (intro w hSw; (try dsimp only at hSw); (try obtain ⟨g1, g2, g3⟩ := hSw); (try obtain ⟨g1, g2⟩ := hSw); go_simp; try with_reducible rfl)); simp only [Act.put, List.setIfInBounds_toArray, List.set_cons_zero, List.set_cons_succ])
    (refine but_takeL (i := 6) (v := ?_) rfl (by kernel_rfl) (by kernel_rfl) (by kernel_rfl) (by kernel_rfl) (fun _ _ _ h => h) (Or.inl ⟨by kernel_rfl, ?_⟩) (by assumption) ?_; rotate_left 1; (focus (intro w hSw; (try dsimp only at hSw); (try obtain ⟨g1, g2, g3⟩ := hSw); (try obtain ⟨g1, g2⟩ := hSw); go_simp; try with_reducible rfl)); simp only [Act.put, List.setIfInBounds_toArray, List.set_cons_zero, List.set_cons_succ])
    (refine but_takeL (i := 7) (v := ?_) rfl (by kernel_rfl) (by kernel_rfl) (by kernel_rfl) (by kernel_rfl) (fun _ _ _ h => h) (Or.inl ⟨by kernel_rfl, ?_⟩) (by assumption) ?_; rotate_left 1; (focus (intro w hSw; (try dsimp only at hSw); (try obtain ⟨g1, g2, g3⟩ := hSw); (try obtain ⟨g1, g2⟩ := hSw); go_simp; try with_reducible rfl)); simp only [Act.put, List.setIfInBounds_toArray, List.set_cons_zero, List.set_cons_succ])
    (refine but_takeL (i := 8) (v := ?_) rfl (by kernel_rfl) (by kernel_rfl) (by kernel_rfl) (by kernel_rfl) (fun _ _ _ h => h) (Or.inl ⟨by kernel_rfl, ?_⟩) (by assumption) ?_; rotate_left 1; (focus (intro w hSw; (try dsimp only at hSw); (try obtain ⟨g1, g2, g3⟩ := hSw); (try obtain ⟨g1, g2⟩ := hSw); go_simp; try with_reducible rfl)); simp only [Act.put, List.setIfInBounds_toArray, List.set_cons_zero, List.set_cons_succ])
    (refine but_takeL (i := 9) (v := ?_) rfl (by kernel_rfl) (by kernel_rfl) (by kernel_rfl) (by kernel_rfl) (fun _ _ _ h => h) (Or.inl ⟨by kernel_rfl, ?_⟩) (by assumption) ?_; rotate_left 1; (focus (intro w hSw; (try dsimp only at hSw); (try obtain ⟨g1, g2, g3⟩ := hSw); (try obtain ⟨g1, g2⟩ := hSw); go_simp; try with_reducible rfl)); simp only [Act.put, List.setIfInBounds_toArray, List.set_cons_zero, List.set_cons_succ])
    (refine but_takeL (i := 12) (v := ?_) rfl (by kernel_rfl) (by kernel_rfl) (by kernel_rfl) (by kernel_rfl) (fun _ _ _ h => h) (Or.inl ⟨by kernel_rfl, ?_⟩) (by assumption) ?_; rotate_left 1; (focus (intro w hSw; (try dsimp only at hSw); (try obtain ⟨g1, g2, g3⟩ := hSw); (try obtain ⟨g1, g2⟩ := hSw); go_simp; try with_reducible rfl)); simp only [Act.put, List.setIfInBounds_toArray, List.set_cons_zero, List.set_cons_succ])
    (refine but_takeL (i := 13) (v := ?_) rfl (by kernel_rfl) (by kernel_rfl) (by kernel_rfl) (by kernel_rfl) (fun _ _ _ h => h) (Or.inl ⟨by kernel_rfl, ?_⟩) (by assumption) ?_; rotate_left 1; (focus (intro w hSw; (try dsimp only at hSw); (try obtain ⟨g1, g2, g3⟩ := hSw); (try obtain ⟨g1, g2⟩ := hSw); go_simp; try with_reducible rfl)); simp only [Act.put, List.setIfInBounds_toArray, List.set_cons_zero, List.set_cons_succ])
    (refine but_takeL (i := 14) (v := ?_) rfl (by kernel_rfl) (by kernel_rfl) (by kernel_rfl) (by kernel_rfl) (fun _ _ _ h => h) (Or.inl ⟨by kernel_rfl, ?_⟩) (by assumption) ?_; rotate_left 1; (focus (intro w hSw; (try dsimp only at hSw); (try obtain ⟨g1, g2, g3⟩ := hSw); (try obtain ⟨g1, g2⟩ := hSw); go_simp; try with_reducible rfl)); simp only [Act.put, List.setIfInBounds_toArray, List.set_cons_zero, List.set_cons_succ])
    refine but_step (i := 10) (by kernel_rfl) rfl (fun KK hK => ?_)
    go_simp
    refine Calls.mono (HOa.out _ (XW.out.trans (Ext.refl _).drew)).out ?_
    rintro e w2 ⟨⟨Ao, co, rfl, -⟩, hx2⟩
    have X2 := hide (((Ext.refl W).drew).trans hx2)
    have hS2 := HS0.out _ X2.out
    clear hx2 hS0
    refine hK.out _ _ (fun _ => hS2) ?_
    clear hK KK
    simp only [List.setIfInBounds_toArray, List.set_cons_zero, List.set_cons_succ]
    (refine but_takeL (i := 11) (v := ?_) rfl (by kernel_rfl) (by kernel_rfl) (by kernel_rfl) (by kernel_rfl) (fun _ _ _ h => h) (Or.inl ⟨by kernel_rfl, ?_⟩) (by assumption) ?_; rotate_left 1; (focus (intro w hSw; (try dsimp only at hSw); (try obtain ⟨g1, g2, g3⟩ := hSw); (try obtain ⟨g1, g2⟩ := hSw); go_simp; try with_reducible rfl)); simp only [Act.put, List.setIfInBounds_toArray, List.set_cons_zero, List.set_cons_succ])
    (refine but_takeL (i := 15) (v := ?_) rfl (by kernel_rfl) (by kernel_rfl) (by kernel_rfl) (by kernel_rfl) (fun _ _ _ h => h) (Or.inl ⟨by kernel_rfl, ?_⟩) (by assumption) ?_; rotate_left 1; (focus (intro w hSw; (try dsimp only at hSw); (try obtain ⟨g1, g2, g3⟩ := hSw); (try obtain ⟨g1, g2⟩ := hSw); go_simp; try with_reducible rfl)); simp only [Act.put, List.setIfInBounds_toArray, List.set_cons_zero, List.set_cons_succ])
    (refine but_takeL (i := 16) (v := ?_) rfl (by kernel_rfl) (by kernel_rfl) (by kernel_rfl) (by kernel_rfl) (fun _ _ _ h => h) (Or.inl ⟨by kernel_rfl, ?_⟩) (by assumption) ?_; rotate_left 1; (focus (intro w hSw; (try dsimp only at hSw); (try obtain ⟨g1, g2, g3⟩ := hSw); (try obtain ⟨g1, g2⟩ := hSw); go_simp; try with_reducible rfl)); simp only [Act.put, List.setIfInBounds_toArray, List.set_cons_zero, List.set_cons_succ])
    (refine but_takeL (i := 17) (v := ?_) rfl (by kernel_rfl) (by kernel_rfl) (by kernel_rfl) (by kernel_rfl) (fun _ _ _ h => h) (Or.inl ⟨by kernel_rfl, ?_⟩) (by assumption) ?_; rotate_left 1; (focus (intro w hSw; (try dsimp only at hSw); (try obtain ⟨g1, g2, g3⟩ := hSw); (try obtain ⟨g1, g2⟩ := hSw); go_simp; try with_reducible rfl)); simp only [Act.put, List.setIfInBounds_toArray, List.set_cons_zero, List.set_cons_succ])
    (refine but_takeL (i := 18) (v := undef) rfl (by kernel_rfl) (by kernel_rfl) (by kernel_rfl) (by kernel_rfl) (fun _ _ _ h => h) (Or.inr ⟨by kernel_rfl, rfl⟩) (by assumption) ?_; simp only [Act.put, List.setIfInBounds_toArray, List.set_cons_zero, List.set_cons_succ])
    (refine but_takeL (i := 19) (v := undef) rfl (by kernel_rfl) (by kernel_rfl) (by kernel_rfl) (by kernel_rfl) (fun _ _ _ h => h) (Or.inr ⟨by kernel_rfl, rfl⟩) (by assumption) ?_; simp only [Act.put, List.setIfInBounds_toArray, List.set_cons_zero, List.set_cons_succ])
    (refine but_takeL (i := 20) (v := undef) rfl (by kernel_rfl) (by kernel_rfl) (by kernel_rfl) (by kernel_rfl) (fun _ _ _ h => h) (Or.inr ⟨by kernel_rfl, rfl⟩) (by assumption) ?_; simp only [Act.put, List.setIfInBounds_toArray, List.set_cons_zero, List.set_cons_succ])
    (refine but_takeL (i := 21) (v := undef) rfl (by kernel_rfl) (by kernel_rfl) (by kernel_rfl) (by kernel_rfl) (fun _ _ _ h => h) (Or.inr ⟨by kernel_rfl, rfl⟩) (by assumption) ?_; simp only [Act.put, List.setIfInBounds_toArray, List.set_cons_zero, List.set_cons_succ])
    (refine but_takeL (i := 22) (v := undef) rfl (by kernel_rfl) (by kernel_rfl) (by kernel_rfl) (by kernel_rfl) (fun _ _ _ h => h) (Or.inr ⟨by kernel_rfl, rfl⟩) (by assumption) ?_; simp only [Act.put, List.setIfInBounds_toArray, List.set_cons_zero, List.set_cons_succ])
    (refine but_takeL (i := 23) (v := undef) rfl (by kernel_rfl) (by kernel_rfl) (by kernel_rfl) (by kernel_rfl) (fun _ _ _ h => h) (Or.inr ⟨by kernel_rfl, rfl⟩) (by assumption) ?_; simp only [Act.put, List.setIfInBounds_toArray, List.set_cons_zero, List.set_cons_succ])
    (refine but_takeL (i := 24) (v := undef) rfl (by kernel_rfl) (by kernel_rfl) (by kernel_rfl) (by kernel_rfl) (fun _ _ _ h => h) (Or.inr ⟨by kernel_rfl, rfl⟩) (by assumption) ?_; simp only [Act.put, List.setIfInBounds_toArray, List.set_cons_zero, List.set_cons_succ])
    (refine but_takeL (i := 25) (v := undef) rfl (by kernel_rfl) (by kernel_rfl) (by kernel_rfl) (by kernel_rfl) (fun _ _ _ h => h) (Or.inr ⟨by kernel_rfl, rfl⟩) (by assumption) ?_; simp only [Act.put, List.setIfInBounds_toArray, List.set_cons_zero, List.set_cons_succ])
    (refine but_takeL (i := 26) (v := ?_) rfl (by kernel_rfl) (by kernel_rfl) (by kernel_rfl) (by kernel_rfl) (fun _ _ _ h => h) (Or.inl ⟨by kernel_rfl, ?_⟩) (by assumption) ?_; rotate_left 1; (focus (intro w hSw; (try dsimp only at hSw); (try obtain ⟨g1, g2, g3⟩ := hSw); (try obtain ⟨g1, g2⟩ := hSw); go_simp; try with_reducible rfl)); simp only [Act.put, List.setIfInBounds_toArray, List.set_cons_zero, List.set_cons_succ])
    refine but_done (by kernel_rfl) ?_ _
    clear hS2
    go_wp2
    go_ret
    exact ⟨rfl, XW.out.trans X2.out⟩
  subst h0
  have hoa := HNa.out.2 rfl
  rw [hoa] at HOa
  clear hoa HNa
  rcases (Bool.eq_false_or_eq_true NB).symm with h1 | h1
  · subst h1
    have hR : R = false := by rw [HP.out]; simp
    subst hR
    have hne : ((ob.length : Int) != (a.vars.length : Int)) = true := by
      have := HNb.out
      rw [bne_iff_ne]
      intro e
      exact absurd (this.1 (by omega)) (by decide)
    clear HP HNb HMa HMb HFa HFb
    go_enter Tryz.func20, Tryz.ntmps20
    go_upto_region 1 with fail
    rw [HW.out]
    go_wp2
    go_region_held3 (fun w' => w'.cell? ⟨w.heap.size, 0, none⟩ = some (.slice a.A a.vars.length a.cap) ∧ w'.cell? ⟨w.heap.size + 1, 0, none⟩ = some (.slice b.A a.vars.length b.cap)) (first | assumption | go_keep) (first
      | (go_at_call 50
         with_reducible refine Calls.mono (HOa.out _ (XW.out.trans (Ext.refl _).drew)).out ?_
         rintro e w2 ⟨⟨Ao, co, rfl, -⟩, hx2⟩
         have X2 := hide (((Ext.refl W).drew).trans hx2)
         have k2 := HS0.out _ X2.out
         clear hx2)
      | (go_at_call 50
         with_reducible refine Calls.mono (HOb.out _ (XW.out.trans X2.out)).out ?_
         rintro e w3 ⟨⟨Ap, cp, rfl, -⟩, hx3⟩
         have X3 := hide (X2.out.trans hx3)
         have k3 := HS0.out _ X3.out
         clear hx3))
    clear k2 k3
    go_wp2
    go_ret
    exact ⟨rfl, XW.out.trans X3.out⟩
  subst h1
  have hob := HNb.out.2 rfl
  rw [hob] at HOb
  clear hob HNb
  rcases Bool.eq_false_or_eq_true MA with h2 | h2
  · subst h2
    have hR : R = false := by rw [HP.out]; simp
    subst hR
    clear HP HFa HMb
    go_enter Tryz.func20, Tryz.ntmps20
    go_upto_region 1 with fail
    rw [HW.out]
    go_wp2
    go_region_held3 (fun w' => w'.cell? ⟨w.heap.size, 0, none⟩ = some (.slice a.A a.vars.length a.cap) ∧ w'.cell? ⟨w.heap.size + 1, 0, none⟩ = some (.slice b.A a.vars.length b.cap)) (first | assumption | go_keep) (first
      | (go_at_call 50
         with_reducible refine Calls.mono (HOa.out _ (XW.out.trans (Ext.refl _).drew)).out ?_
         rintro e w2 ⟨⟨Ao, co, rfl, -⟩, hx2⟩
         have X2 := hide (((Ext.refl W).drew).trans hx2)
         have k2 := HS0.out _ X2.out
         clear hx2)
      | (go_at_call 50
         with_reducible refine Calls.mono (HOb.out _ (XW.out.trans X2.out)).out ?_
         rintro e w3 ⟨⟨Ap, cp, rfl, -⟩, hx3⟩
         have X3 := hide (X2.out.trans hx3)
         have k3 := HS0.out _ X3.out
         clear hx3))
    clear k2 k3 a0 a1 a2 a3 b0 b1 b2 b3
    obtain ⟨a0, a1, a2, a3, b0, b1, b2, b3⟩ := HS.out w3 X3.out
    go_wp2
    have hS0 := HS.out _ (X3.out.trans (Ext.refl w3).drew)
    refine but_startN 99 12 #[false, false, false, false, false, false, false, false, false, false, false, false] (fun w' => w'.cell? ⟨w.heap.size, 0, none⟩ = some (.slice a.A a.vars.length a.cap) ∧ w'.cell? ⟨w.heap.size, 1, none⟩ = some (encStr a.ty.con) ∧ w'.cell? ⟨w.heap.size, 2, none⟩ = some (.int .i64 a.ty.var) ∧ w'.cell? ⟨w.heap.size, 3, none⟩ = some (.slice a.ty.A a.ty.args.length a.ty.cap) ∧ w'.cell? ⟨w.heap.size + 1, 0, none⟩ = some (.slice b.A a.vars.length b.cap) ∧ w'.cell? ⟨w.heap.size + 1, 1, none⟩ = some (encStr b.ty.con) ∧ w'.cell? ⟨w.heap.size + 1, 2, none⟩ = some (.int .i64 b.ty.var) ∧ w'.cell? ⟨w.heap.size + 1, 3, none⟩ = some (.slice b.ty.A b.ty.args.length b.ty.cap)) (by kernel_rfl) (by kernel_rfl) (by kernel_rfl) ?_
    (refine but_takeL (i := 0) (v := ?_) rfl (by kernel_rfl) (by kernel_rfl) (by kernel_rfl) (by kernel_rfl) (fun _ _ _ h => h) (Or.inl ⟨by kernel_rfl, ?_⟩) (by assumption) ?_; rotate_left 1; (focus (intro w hSw; (try dsimp only at hSw); (try obtain ⟨g1, g2, g3⟩ := hSw); (try obtain ⟨g1, g2⟩ := hSw); go_simp; try with_reducible rfl)); simp only [Act.put, List.setIfInBounds_toArray, List.set_cons_zero, List.set_cons_succ])
    (refine but_takeL (i := 1) (v := ?_) rfl (by kernel_rfl) (by kernel_rfl) (by kernel_rfl) (by kernel_rfl) (fun _ _ _ h => h) (Or.inl ⟨by kernel_rfl, ?_⟩) (by assumption) ?_; rotate_left 1; (focus (intro w hSw; (try dsimp only at hSw); (try obtain ⟨g1, g2, g3⟩ := hSw); (try obtain ⟨g1, g2⟩ := hSw); go_simp; try with_reducible rfl)); simp only [Act.put, List.setIfInBounds_toArray, List.set_cons_zero, List.set_cons_succ])
    (refine but_takeL (i := 2) (v := ?_) rfl (by kernel_rfl) (by kernel_rfl) (by kernel_rfl) (by kernel_rfl) (fun _ _ _ h => h) (Or.inl ⟨by kernel_rfl, ?_⟩) (by assumption) ?_; rotate_left 1; (focus (intro w hSw; (try dsimp only at hSw); (try obtain ⟨g1, g2, g3⟩ := hSw); (try obtain ⟨g1, g2⟩ := hSw); go_simp; try with_reducible rfl)); simp only [Act.put, List.setIfInBounds_toArray, List.set_cons_zero, List.set_cons_succ])
    refine but_step (i := 3) (by kernel_rfl) rfl (fun KK hK => ?_)
    go_simp
    refine Calls.mono (HFb.out _ (XW.out.trans (X3.out.trans (Ext.refl _).drew))).out ?_
    rintro e w4 ⟨⟨Af, cf, rfl, q1, q2, q3⟩, hx4⟩
    have X4 := hide (X3.out.trans ((Ext.refl w3).drew.trans hx4))
    have hS4 := HS.out _ X4.out
    have Q3 := hide q3
    clear hx4 q3 hS0
    refine hK.out _ _ (fun _ => hS4) ?_
    clear hK KK
    simp only [List.setIfInBounds_toArray, List.set_cons_zero, List.set_cons_succ]
    refine but_step (i := 4) (by kernel_rfl) rfl (fun KK hK => ?_)
    go_simp
    refine Calls.mono (HMa.out _ _ _ (XW.out.trans X4.out) Q3.out).out ?_
    rintro e w4 ⟨rfl, rfl⟩
    refine hK.out _ _ (fun _ => hS4) ?_
    clear hK KK
    simp only [List.setIfInBounds_toArray, List.set_cons_zero, List.set_cons_succ]
    (refine but_takeL (i := 5) (v := ?_) rfl (by kernel_rfl) (by kernel_rfl) (by kernel_rfl) (by kernel_rfl) (fun _ _ _ h => h) (Or.inl ⟨by kernel_rfl, ?_⟩) (by assumption) ?_; rotate_left 1; (focus (intro w hSw; (try dsimp only at hSw); (try obtain ⟨g1, g2, g3⟩ := hSw); (try obtain ⟨g1, g2⟩ := hSw); go_simp; try with_reducible rfl)); simp only [Act.put, List.setIfInBounds_toArray, List.set_cons_zero, List.set_cons_succ])
    (refine but_takeL (i := 6) (v := undef) rfl (by kernel_rfl) (by kernel_rfl) (by kernel_rfl) (by kernel_rfl) (fun _ _ _ h => h) (Or.inr ⟨by kernel_rfl, rfl⟩) (by assumption) ?_; simp only [Act.put, List.setIfInBounds_toArray, List.set_cons_zero, List.set_cons_succ])
    (refine but_takeL (i := 7) (v := undef) rfl (by kernel_rfl) (by kernel_rfl) (by kernel_rfl) (by kernel_rfl) (fun _ _ _ h => h) (Or.inr ⟨by kernel_rfl, rfl⟩) (by assumption) ?_; simp only [Act.put, List.setIfInBounds_toArray, List.set_cons_zero, List.set_cons_succ])
    (refine but_takeL (i := 8) (v := undef) rfl (by kernel_rfl) (by kernel_rfl) (by kernel_rfl) (by kernel_rfl) (fun _ _ _ h => h) (Or.inr ⟨by kernel_rfl, rfl⟩) (by assumption) ?_; simp only [Act.put, List.setIfInBounds_toArray, List.set_cons_zero, List.set_cons_succ])
    (refine but_takeL (i := 9) (v := undef) rfl (by kernel_rfl) (by kernel_rfl) (by kernel_rfl) (by kernel_rfl) (fun _ _ _ h => h) (Or.inr ⟨by kernel_rfl, rfl⟩) (by assumption) ?_; simp only [Act.put, List.setIfInBounds_toArray, List.set_cons_zero, List.set_cons_succ])
    (refine but_takeL (i := 10) (v := undef) rfl (by kernel_rfl) (by kernel_rfl) (by kernel_rfl) (by kernel_rfl) (fun _ _ _ h => h) (Or.inr ⟨by kernel_rfl, rfl⟩) (by assumption) ?_; simp only [Act.put, List.setIfInBounds_toArray, List.set_cons_zero, List.set_cons_succ])
    (refine but_takeL (i := 11) (v := ?_) rfl (by kernel_rfl) (by kernel_rfl) (by kernel_rfl) (by kernel_rfl) (fun _ _ _ h => h) (Or.inl ⟨by kernel_rfl, ?_⟩) (by assumption) ?_; rotate_left 1; (focus (intro w hSw; (try dsimp only at hSw); (try obtain ⟨g1, g2, g3⟩ := hSw); (try obtain ⟨g1, g2⟩ := hSw); go_simp; try with_reducible rfl)); simp only [Act.put, List.setIfInBounds_toArray, List.set_cons_zero, List.set_cons_succ])
    refine but_done (by kernel_rfl) ?_ _
    clear hS4
    go_wp2
    go_ret
    exact ⟨rfl, XW.out.trans X4.out⟩
  subst h2
  rcases Bool.eq_false_or_eq_true MB with h3 | h3
  · subst h3
    have hR : R = false := by rw [HP.out]; simp
    subst hR
    clear HP
    go_enter Tryz.func20, Tryz.ntmps20
    go_upto_region 1 with fail
    rw [HW.out]
    go_wp2
    go_region_held3 (fun w' => w'.cell? ⟨w.heap.size, 0, none⟩ = some (.slice a.A a.vars.length a.cap) ∧ w'.cell? ⟨w.heap.size + 1, 0, none⟩ = some (.slice b.A a.vars.length b.cap)) (first | assumption | go_keep) (first
      | (go_at_call 50
         with_reducible refine Calls.mono (HOa.out _ (XW.out.trans (Ext.refl _).drew)).out ?_
         rintro e w2 ⟨⟨Ao, co, rfl, -⟩, hx2⟩
         have X2 := hide (((Ext.refl W).drew).trans hx2)
         have k2 := HS0.out _ X2.out
         clear hx2)
      | (go_at_call 50
         with_reducible refine Calls.mono (HOb.out _ (XW.out.trans X2.out)).out ?_
         rintro e w3 ⟨⟨Ap, cp, rfl, -⟩, hx3⟩
         have X3 := hide (X2.out.trans hx3)
         have k3 := HS0.out _ X3.out
         clear hx3))
    clear k2 k3 a0 a1 a2 a3 b0 b1 b2 b3
    obtain ⟨a0, a1, a2, a3, b0, b1, b2, b3⟩ := HS.out w3 X3.out
    go_wp2
    go_region_held3 (fun w' => w'.cell? ⟨w.heap.size, 0, none⟩ = some (.slice a.A a.vars.length a.cap) ∧ w'.cell? ⟨w.heap.size, 1, none⟩ = some (encStr a.ty.con) ∧ w'.cell? ⟨w.heap.size, 2, none⟩ = some (.int .i64 a.ty.var) ∧ w'.cell? ⟨w.heap.size, 3, none⟩ = some (.slice a.ty.A a.ty.args.length a.ty.cap) ∧ w'.cell? ⟨w.heap.size + 1, 0, none⟩ = some (.slice b.A a.vars.length b.cap) ∧ w'.cell? ⟨w.heap.size + 1, 1, none⟩ = some (encStr b.ty.con) ∧ w'.cell? ⟨w.heap.size + 1, 2, none⟩ = some (.int .i64 b.ty.var) ∧ w'.cell? ⟨w.heap.size + 1, 3, none⟩ = some (.slice b.ty.A b.ty.args.length b.ty.cap)) (first | assumption | go_keep) (first
      | (go_at_call 23
         with_reducible refine Calls.mono (HFb.out _ (XW.out.trans (X3.out.trans (Ext.refl _).drew))).out ?_
         rintro e w4 ⟨⟨Af, cf, rfl, q1, q2, q3⟩, hx4⟩
         have X4 := hide (X3.out.trans ((Ext.refl w3).drew.trans hx4))
         have k4 := HS.out _ X4.out
         have Q3 := hide q3
         clear hx4 q3)
      | (go_at_call 51
         with_reducible refine Calls.mono (HMa.out _ _ _ (XW.out.trans X4.out) Q3.out).out ?_
         rintro e w4 ⟨rfl, rfl⟩)
      | (go_at_call 23
         with_reducible refine Calls.mono (HFa.out _ (XW.out.trans X4.out)).out ?_
         rintro e w5 ⟨⟨Ag, cg, rfl, s1, s2, s3⟩, hx5⟩
         have X5 := hide (X4.out.trans hx5)
         have k5 := HS.out _ X5.out
         have S3 := hide s3
         clear hx5 s3)
      | (go_at_call 51
         with_reducible refine Calls.mono (HMb.out _ _ _ (XW.out.trans X5.out) S3.out).out ?_
         rintro e w5 ⟨rfl, rfl⟩))
    clear k4 k5
    go_wp2
    go_ret
    exact ⟨rfl, XW.out.trans X5.out⟩
  subst h3
  have HR : Hid (R = eqP a.ty.pure (putP b.vars (a.vars.map varT) b.ty)) := hide (by rw [HP.out]; simp)
  clear HP
  go_enter Tryz.func20, Tryz.ntmps20
  go_upto_region 1 with fail
  rw [HW.out]
  go_wp2
  go_region_held3 (fun w' => w'.cell? ⟨w.heap.size, 0, none⟩ = some (.slice a.A a.vars.length a.cap) ∧ w'.cell? ⟨w.heap.size + 1, 0, none⟩ = some (.slice b.A a.vars.length b.cap)) (first | assumption | go_keep) (first
    | (go_at_call 50
       with_reducible refine Calls.mono (HOa.out _ (XW.out.trans (Ext.refl _).drew)).out ?_
       rintro e w2 ⟨⟨Ao, co, rfl, -⟩, hx2⟩
       have X2 := hide (((Ext.refl W).drew).trans hx2)
       have k2 := HS0.out _ X2.out
       clear hx2)
    | (go_at_call 50
       with_reducible refine Calls.mono (HOb.out _ (XW.out.trans X2.out)).out ?_
       rintro e w3 ⟨⟨Ap, cp, rfl, -⟩, hx3⟩
       have X3 := hide (X2.out.trans hx3)
       have k3 := HS0.out _ X3.out
       clear hx3))
  clear k2 k3 a0 a1 a2 a3 b0 b1 b2 b3
  obtain ⟨a0, a1, a2, a3, b0, b1, b2, b3⟩ := HS.out w3 X3.out
  go_wp2
  go_region_held3 (fun w' => w'.cell? ⟨w.heap.size, 0, none⟩ = some (.slice a.A a.vars.length a.cap) ∧ w'.cell? ⟨w.heap.size, 1, none⟩ = some (encStr a.ty.con) ∧ w'.cell? ⟨w.heap.size, 2, none⟩ = some (.int .i64 a.ty.var) ∧ w'.cell? ⟨w.heap.size, 3, none⟩ = some (.slice a.ty.A a.ty.args.length a.ty.cap) ∧ w'.cell? ⟨w.heap.size + 1, 0, none⟩ = some (.slice b.A a.vars.length b.cap) ∧ w'.cell? ⟨w.heap.size + 1, 1, none⟩ = some (encStr b.ty.con) ∧ w'.cell? ⟨w.heap.size + 1, 2, none⟩ = some (.int .i64 b.ty.var) ∧ w'.cell? ⟨w.heap.size + 1, 3, none⟩ = some (.slice b.ty.A b.ty.args.length b.ty.cap)) (first | assumption | go_keep) (first
    | (go_at_call 23
       with_reducible refine Calls.mono (HFb.out _ (XW.out.trans (X3.out.trans (Ext.refl _).drew))).out ?_
       rintro e w4 ⟨⟨Af, cf, rfl, q1, q2, q3⟩, hx4⟩
       have X4 := hide (X3.out.trans ((Ext.refl w3).drew.trans hx4))
       have k4 := HS.out _ X4.out
       have Q3 := hide q3
       clear hx4 q3)
    | (go_at_call 51
       with_reducible refine Calls.mono (HMa.out _ _ _ (XW.out.trans X4.out) Q3.out).out ?_
       rintro e w4 ⟨rfl, rfl⟩)
    | (go_at_call 23
       with_reducible refine Calls.mono (HFa.out _ (XW.out.trans X4.out)).out ?_
       rintro e w5 ⟨⟨Ag, cg, rfl, s1, s2, s3⟩, hx5⟩
       have X5 := hide (X4.out.trans hx5)
       have k5 := HS.out _ X5.out
       have S3 := hide s3
       clear hx5 s3)
    | (go_at_call 51
       with_reducible refine Calls.mono (HMb.out _ _ _ (XW.out.trans X5.out) S3.out).out ?_
       rintro e w5 ⟨rfl, rfl⟩))
  clear k4 k5 a0 a1 a2 a3 b0 b1 b2 b3
  obtain ⟨a0, a1, a2, a3, b0, b1, b2, b3⟩ := HS.out w5 X5.out
  have HVs := hide (fun w' (e : Ext W w') => hide (r_vs31 a.A a.cap a.vars w' (RowOf.ext intC HA.out.row (XW.out.trans e)) (by omega)))
  have hlm : (a.vars.map varT).length = a.vars.length := List.length_map _
  have HPut := hide (fun T tc w' (e : Ext W w') (h : TysIn w' T (a.vars.map varT)) => hide (r_put31 b.A T b.cap tc b.vars (a.vars.map varT) (by rw [HL.out]; omega) b.ty w' (HB.out.ty.ext (XW.out.trans e)) (RowOf.ext intC HB.out.row (XW.out.trans e)) h (by omega)))
  rw [hlm, HL.out] at HPut
  clear hlm
  have HSm := hide (fun (u : Ty) w' (e : Ext W w') (hu : TyIn w' u) => hide (r_same16 a.ty u w' (HA.out.ty.ext (XW.out.trans e)) hu))
  unfold tyV at HPut HSm
  go_wp2
  go_region_held3 (fun w' => w'.cell? ⟨w.heap.size, 0, none⟩ = some (.slice a.A a.vars.length a.cap) ∧ w'.cell? ⟨w.heap.size, 1, none⟩ = some (encStr a.ty.con) ∧ w'.cell? ⟨w.heap.size, 2, none⟩ = some (.int .i64 a.ty.var) ∧ w'.cell? ⟨w.heap.size, 3, none⟩ = some (.slice a.ty.A a.ty.args.length a.ty.cap) ∧ w'.cell? ⟨w.heap.size + 1, 0, none⟩ = some (.slice b.A a.vars.length b.cap) ∧ w'.cell? ⟨w.heap.size + 1, 1, none⟩ = some (encStr b.ty.con) ∧ w'.cell? ⟨w.heap.size + 1, 2, none⟩ = some (.int .i64 b.ty.var) ∧ w'.cell? ⟨w.heap.size + 1, 3, none⟩ = some (.slice b.ty.A b.ty.args.length b.ty.cap)) (first | assumption | go_keep) (first
    | (go_at_call 53
       with_reducible refine Calls.mono (HVs.out _ (X5.out.trans (Ext.refl _).drew)).out ?_
       rintro e w6 ⟨⟨At, ⟨ct, rfl⟩, tt⟩, hx6⟩
       have X6 := hide (X5.out.trans ((Ext.refl w5).drew.trans hx6))
       have k6 := HS.out _ X6.out
       have TT := hide tt
       clear hx6 tt)
    | (go_at_call 52
       with_reducible refine Calls.mono (HPut.out _ _ _ X6.out TT.out).out ?_
       rintro e w7 ⟨⟨u, rfl, hu⟩, hx7⟩
       have X7 := hide (X6.out.trans hx7)
       have k7 := HS.out _ X7.out
       have HU := hide hu
       clear hx7 hu)
    | (go_at_call 11
       with_reducible refine Calls.mono (HSm.out _ _ X7.out HU.out.ty).out ?_
       rintro e w8 ⟨rfl, hx8⟩
       have X8 := hide (X7.out.trans hx8)
       have k8 := HS.out _ X8.out
       clear hx8))
  clear k6 k7 k8
  go_wp2
  go_ret
  exact ⟨by rw [HR.out, ← eqP_same HU.out.is]; rfl, XW.out.trans X8.out⟩

end Go.Proofs.YtcnepaiapefggaaGreat

/- The law of two types for all of some variables. (A program of ours has printed a part.) -/
namespace Go.Proofs.YtcnepaiapefggaaGreat
open Go.RowKit

/-- All numbers are int's. -/
def okV (l : List Int) : Prop := ∀ v ∈ l, -9223372036854775808 ≤ v ∧ v ≤ 9223372036854775807
theorem f_TextA (p : Po) (w : World) (h : PoIn w p) (ok : okI p.ty = true) (hsz : p.ty.size ≤ 20000) (hn : p.vars.length ≤ 1000) (hv : okV p.vars) : Calls Tryz.prog 16 #[poV p] w fun e w' => e = .returned (encStr (polyS p)) ∧ Ext w w' := by
  by_cases h0 : p.vars = []
  · exact f_Text0 p w h ok hsz h0
  · exact f_Text1 p w h ok hsz h0 hn hv

set_option maxRecDepth 10000 in
set_option maxHeartbeats 2000000 in
theorem l_fewpoly (p : Po) (w : World) (h : PoIn w p) : Calls Tryz.prog 18 #[poV p] w fun e w' => (∃ r : Int, e = .returned (.int .i64 r) ∧ (r = 0 ∨ (r = 1 ∧ p.vars.length ≤ 50 ∧ p.ty.size ≤ 20000))) ∧ Ext w w' := by
  obtain ⟨W, hW⟩ : ∃ W, W = w.alloc (.cells #[.slice p.A p.vars.length p.cap, encStr p.ty.con, .int .i64 p.ty.var, .slice p.ty.A p.ty.args.length p.ty.cap] 31) := ⟨_, rfl⟩
  have HW := hide hW.symm
  have X0 : Hid (Ext w W) := hide (by rw [hW]; exact (Ext.refl _).alloc _)
  have HB : Hid (PBox W w.heap.size p) := hide (by rw [hW]; exact PBox.new w p)
  obtain ⟨c0, c1, c2, c3⟩ := HB.out.cells
  have E1 : Ext W (W.alloc (.cells #[encStr p.ty.con, .int .i64 p.ty.var, .slice p.ty.A p.ty.args.length p.ty.cap] 24)) := (Ext.refl _).alloc _
  have X1 := hide E1
  have HFew := hide (l_few16 (some ⟨W.heap.size, 0, none⟩) 1 [p.ty] (W.alloc (.cells #[encStr p.ty.con, .int .i64 p.ty.var, .slice p.ty.A p.ty.args.length p.ty.cap] 24)) (few_one ((h.ty.ext X0.out).ext E1) (at_newB _ _ _ rfl)) (by show 1 ≤ 100000; omega))
  simp only [List.length_cons, List.length_nil, Nat.zero_add] at HFew
  have hmx := h.max
  have hle := h.le
  clear h hW E1
  unfold poV
  by_cases hn : (p.vars.length : Int) > 50
  · go_enter Tryz.func18, Tryz.ntmps18
    go_upto_region 1 with fail
    rw [HW.out]
    go_wp2
    go_ret
    exact ⟨⟨0, rfl, .inl rfl⟩, X0.out⟩
  · go_enter Tryz.func18, Tryz.ntmps18
    go_upto_region 1 with fail
    rw [HW.out]
    go_wp2_with fail
    refine HFew.out.mono ?_
    rintro e w2 ⟨⟨r, rfl, hr⟩, hx2⟩
    have X2 := hide (X1.out.trans hx2)
    have HR : Hid (r = 0 ∨ (r = 1 ∧ p.vars.length ≤ 50 ∧ p.ty.size ≤ 20000)) := hide (by
      rcases hr with rfl | ⟨rfl, hsz, -⟩
      · exact .inl rfl
      · exact .inr ⟨rfl, by omega, by unfold tsizes at hsz; simpa using hsz⟩)
    clear hx2 hr
    go_wp2
    go_ret
    exact ⟨⟨r, rfl, HR.out⟩, X0.out.trans X2.out⟩

set_option maxRecDepth 10000 in
set_option maxHeartbeats 8000000 in
theorem law_two (a b : Po) (w : World) (ha : PoIn w a) (hb : PoIn w b) (oka : okI a.ty = true) (hva : okV a.vars) : Calls Tryz.prog 4 #[poV a, poV b] w fun e w' => e = .returned (.bool true) ∧ Ext w w' := by
  obtain ⟨W, hW⟩ : ∃ W, W = (w.alloc (.cells #[.slice a.A a.vars.length a.cap, encStr a.ty.con, .int .i64 a.ty.var, .slice a.ty.A a.ty.args.length a.ty.cap] 31)).alloc (.cells #[.slice b.A b.vars.length b.cap, encStr b.ty.con, .int .i64 b.ty.var, .slice b.ty.A b.ty.args.length b.ty.cap] 31) := ⟨_, rfl⟩
  have XW : Hid (Ext w W) := hide (by rw [hW]; exact ((Ext.refl _).alloc _).alloc _)
  have HBa : Hid (PBox W w.heap.size a) := hide (by rw [hW]; exact (PBox.new w a).ext ((Ext.refl _).alloc _))
  have HBb : Hid (PBox W (w.heap.size + 1) b) := hide (by rw [hW]; have := PBox.new (w.alloc (.cells #[.slice a.A a.vars.length a.cap, encStr a.ty.con, .int .i64 a.ty.var, .slice a.ty.A a.ty.args.length a.ty.cap] 31)) b; rwa [World.size_alloc] at this)
  have HW := hide hW.symm
  have HA := hide ha
  have HB := hide hb
  have HAw := hide (fun w' => hide (l_awake31 w'))
  have HF1 := hide (l_fewpoly a W (ha.ext XW.out))
  have HF2 := hide (fun w' (e : Ext w w') => hide (l_fewpoly b w' (hb.ext e)))
  obtain ⟨a0, a1, a2, a3⟩ := HBa.out.cells
  obtain ⟨b0, b1, b2, b3⟩ := HBb.out.cells
  have hla := ha.le
  have hma := ha.max
  have hlb := hb.le
  have hmb := hb.max
  clear ha hb hW
  unfold poV at *
  go_enter Tryz.func4, Tryz.ntmps4
  go_upto_region 1 with fail
  rw [HW.out]
  go_wp2_with fail
  refine HF1.out.mono ?_
  rintro e w2 ⟨⟨r, rfl, hr⟩, hx2⟩
  have X2 := hide hx2
  clear hx2 HF1
  rcases hr with rfl | ⟨rfl, hna, hsa⟩
  · go_wp2_with fail
    refine (HAw.out _).out.mono ?_
    rintro e w3 ⟨rfl, hx⟩
    go_wp2
    go_ret
    exact ⟨rfl, XW.out.trans (X2.out.trans hx)⟩
  clear a0 a1 a2 a3 b0 b1 b2 b3
  obtain ⟨a0, a1, a2, a3⟩ := (HBa.out.ext X2.out).cells
  obtain ⟨b0, b1, b2, b3⟩ := (HBb.out.ext X2.out).cells
  go_wp2_with fail
  refine (HF2.out _ (XW.out.trans X2.out)).out.mono ?_
  rintro e w3 ⟨⟨r, rfl, hr⟩, hx3⟩
  have X3 := hide (X2.out.trans hx3)
  clear hx3 HF2
  rcases hr with rfl | ⟨rfl, hnb, hsb⟩
  · go_wp2_with fail
    refine (HAw.out _).out.mono ?_
    rintro e w4 ⟨rfl, hx⟩
    go_wp2
    go_ret
    exact ⟨rfl, XW.out.trans (X3.out.trans hx)⟩
  clear a0 a1 a2 a3 b0 b1 b2 b3
  have HA1 := hide (fun w' (e : Ext w w') => hide (f_alike a b w' (HA.out.ext e) (HB.out.ext e) (by omega) (by omega) (by omega) (by omega)))
  have HR1 := hide (fun w' (e : Ext w w') => hide (r_alike31 a b w' (HA.out.ext e) (HB.out.ext e) (by omega) (by omega) (by omega) (by omega)))
  have HA2 := hide (fun w' (e : Ext w w') => hide (f_alike b a w' (HB.out.ext e) (HA.out.ext e) (by omega) (by omega) (by omega) (by omega)))
  have HR2 := hide (fun w' (e : Ext w w') => hide (r_alike31 b a w' (HB.out.ext e) (HA.out.ext e) (by omega) (by omega) (by omega) (by omega)))
  have HF := hide (fun w' (e : Ext w w') => hide (f_free a w' (HA.out.ext e) (by omega)))
  have HG := hide (fun w' (e : Ext w w') => hide (r_free31 a w' (HA.out.ext e) (by omega) (by omega)))
  have HI := hide (fun A B c c' w' (h : Ints w' A (freeL a)) (h' : Ints w' B (freeL a)) => hide (ref_ints A B c c' (freeL a) (freeL a) w' h h' (by have := freeL_len a; omega)))
  simp only [decide_true] at HI
  have HT := hide (fun w' (e : Ext w w') => hide (f_TextA a w' (HA.out.ext e) oka (by omega) (by omega) hva))
  have HU := hide (fun w' (e : Ext w w') => hide (r_Text a w' (HA.out.ext e) oka (by omega) (by omega) hva))
  generalize alikeP a b = AB at *
  generalize alikeP b a = BA at *
  generalize freeL a = fl at *
  generalize polyS a = S at *
  unfold poV at HA1 HR1 HA2 HR2 HF HG HT HU
  have HS := hide (fun w' (e : Ext W w') => And.intro ((HBa.out.ext e).cells.1) (And.intro ((HBa.out.ext e).cells.2.1) (And.intro ((HBa.out.ext e).cells.2.2.1) (And.intro ((HBa.out.ext e).cells.2.2.2) (And.intro ((HBb.out.ext e).cells.1) (And.intro ((HBb.out.ext e).cells.2.1) (And.intro ((HBb.out.ext e).cells.2.2.1) ((HBb.out.ext e).cells.2.2.2))))))))
  obtain ⟨s0, s1, s2, s3, s4, s5, s6, s7⟩ := HS.out w3 X3.out
  clear oka hva
  go_wp2
  go_region_held3 (fun w' => w'.cell? ⟨w.heap.size, 0, none⟩ = some (.slice a.A a.vars.length a.cap) ∧ w'.cell? ⟨w.heap.size, 1, none⟩ = some (encStr a.ty.con) ∧ w'.cell? ⟨w.heap.size, 2, none⟩ = some (.int .i64 a.ty.var) ∧ w'.cell? ⟨w.heap.size, 3, none⟩ = some (.slice a.ty.A a.ty.args.length a.ty.cap) ∧ w'.cell? ⟨w.heap.size + 1, 0, none⟩ = some (.slice b.A b.vars.length b.cap) ∧ w'.cell? ⟨w.heap.size + 1, 1, none⟩ = some (encStr b.ty.con) ∧ w'.cell? ⟨w.heap.size + 1, 2, none⟩ = some (.int .i64 b.ty.var) ∧ w'.cell? ⟨w.heap.size + 1, 3, none⟩ = some (.slice b.ty.A b.ty.args.length b.ty.cap)) (first | assumption | go_keep) (first
  | (go_at_call 19
     with_reducible refine Calls.mono (HA1.out _ (XW.out.trans (X3.out.trans (Ext.refl _).drew))).out ?_
     rintro e y0 ⟨rfl, hx⟩
     have Y0 := hide ((X3.out.trans (Ext.refl w3).drew).trans hx)
     have k0 := HS.out _ Y0.out
     clear hx)
  | (go_at_call 20
     with_reducible refine Calls.mono (HR1.out _ (XW.out.trans Y0.out)).out ?_
     rintro e y1 ⟨rfl, hx⟩
     have Y1 := hide (Y0.out.trans hx)
     have k1 := HS.out _ Y1.out
     clear hx)
  | (go_at_call 19
     with_reducible refine Calls.mono (HA2.out _ (XW.out.trans Y1.out)).out ?_
     rintro e y2 ⟨rfl, hx⟩
     have Y2 := hide (Y1.out.trans hx)
     have k2 := HS.out _ Y2.out
     clear hx)
  | (go_at_call 20
     with_reducible refine Calls.mono (HR2.out _ (XW.out.trans Y2.out)).out ?_
     rintro e y3 ⟨rfl, hx⟩
     have Y3 := hide (Y2.out.trans hx)
     have k3 := HS.out _ Y3.out
     clear hx)
  | (go_at_call 22
     with_reducible refine Calls.mono (HF.out _ (XW.out.trans Y3.out)).out ?_
     rintro e y4 ⟨⟨A1, c1, rfl, q1, q2, q3⟩, hx⟩
     have Y4 := hide (Y3.out.trans hx)
     have k4 := HS.out _ Y4.out
     have Q3 := hide q3
     clear hx)
  | (go_at_call 23
     with_reducible refine Calls.mono (HG.out _ (XW.out.trans Y4.out)).out ?_
     rintro e y5 ⟨⟨A2, c2, rfl, s1, s2, s3⟩, hx⟩
     have Y5 := hide (Y4.out.trans hx)
     have k5 := HS.out _ Y5.out
     have S3 := hide s3
     have Q3b := hide (RowOf.ext intC Q3.out hx)
     clear hx)
  | (go_at_call 21
     with_reducible refine Calls.mono (HI.out _ _ _ _ _ Q3b.out S3.out).out ?_
     rintro e y6 ⟨rfl, hx⟩
     have Y6 := hide (Y5.out.trans hx)
     have k6 := HS.out _ Y6.out
     clear hx)
  | (go_at_call 16
     with_reducible refine Calls.mono (HT.out _ (XW.out.trans Y6.out)).out ?_
     rintro e y7 ⟨rfl, hx⟩
     have Y7 := hide (Y6.out.trans hx)
     have k7 := HS.out _ Y7.out
     clear hx)
  | (go_at_call 17
     with_reducible refine Calls.mono (HU.out _ (XW.out.trans Y7.out)).out ?_
     rintro e y8 ⟨rfl, hx⟩
     have Y8 := hide (Y7.out.trans hx)
     have k8 := HS.out _ Y8.out
     clear hx)
  | (go_at_call 8
     with_reducible refine Calls.mono (HAw.out _).out ?_
     rintro e y9 ⟨rfl, hx⟩
     have Y9 := hide (Y8.out.trans hx)
     have k9 := HS.out _ Y9.out
     clear hx))
  clear k0 k1 k2 k3 k4 k5 k6 k7 k8 k9
  go_wp2
  go_ret
  exact ⟨rfl, XW.out.trans Y9.out⟩

end Go.Proofs.YtcnepaiapefggaaGreat
