/- Contracts: all variables of a type; of the program. -/
import Derived.Test.YtmjiljhcjfnfpaaGreatJS11
import Derived.Deep.Cut
/- Contracts: all variables of a type; of the program. -/
namespace Go.Proofs.YtmjiljhcjfnfpaaGreat
open Go.RowKit Go.Shelf

theorem own_mono {w : World} {base base' : Nat} {e : TypeId} {size : Nat} {v : Value} {n : Nat} {xs : List Value} (h : w.ownsRow base e size v n xs) (hb : base' ≤ base) : w.ownsRow base' e size v n xs := by
  refine ⟨h.1, h.2.imp id ?_⟩
  rintro ⟨g, cap, cur, h1, h2, h3⟩
  exact ⟨g, cap, cur, h1, Nat.le_trans hb h2, h3⟩
/-- Numbers that have been told, in block `c`. -/
structure IntsAt (c base : Nat) (w : World) (v : Value) (l : List Int) : Prop where
  cell : w.heap[c]? = some (.cells #[v] 31 (0, 0))
  own : w.ownsRow base 3 1 v l.length (l.map (Value.int .i64))
  lt : c < base
  le : base ≤ w.heap.size
section
variable {c base : Nat} {w w' : World} {v : Value} {us : List Int}
theorem IntsAt.ext (h : IntsAt c base w v us) (e : Ext w w') : IntsAt c base w' v us := ⟨(e.heap (lt_of_obj h.cell)).trans h.cell, own_extB h.own e, h.lt, Nat.le_trans h.le e.size⟩
theorem IntsAt.ltc (h : IntsAt c base w v us) : c < w.heap.size := lt_of_obj h.cell
theorem IntsAt.ne (h : IntsAt c base w v us) : v.ownBlock ≠ some c := fun e => by have := (h.own.lt c e).1; have := h.lt; omega
end
theorem int64_info : (Tryz.prog.info? 3).map (fun i => (i.zero, i.size, i.bytes)) = some (some (.int .i64 0), 1, 8) := by kernel_rfl
theorem Row.boxI {w : World} {b : Nat} {t : TypeId} {fr : Nat × Nat} (v : Value) (h : w.heap[b]? = some (.cells #[v] t fr)) : Row w (some ⟨b, 0, none⟩) 1 1 [v] := by
  refine ⟨rfl, fun _ => ⟨b, 0, rfl, lt_of_obj h, fun j u hu => ?_⟩⟩
  rw [Nat.zero_add]
  simp only [World.cell?, h]
  simpa using hu
/-- The variable of a type that is one, if it is new. -/
def tellV (out : List Int) (t : Ty) : List Int := if t.con = [] ∧ out.contains t.var = false then out ++ [t.var] else out

set_option maxRecDepth 10000 in
set_option maxHeartbeats 2000000 in
theorem t_vars1 (t : Ty) (d c base : Nat) (v : Value) (us : List Int) (w : World) (h : IntsAt c base w v us) (hl : us.length ≤ 100000) :
    Calls Tryz.prog 116 #[tyV t, .int .i64 d, .pointer (some ⟨c, 0, none⟩)] w fun e w' => e = .returned (.bool true) ∧ ∃ v', IntsAt c base w' v' (tellV us t) ∧ Tr c w v w' v' := by
  obtain ⟨i0, hi, hz0, hz1, hz2⟩ := info_parts int64_info
  obtain ⟨W, hW⟩ : ∃ W, W = w.alloc (.cells #[encStr t.con, .int .i64 t.var, .slice t.A t.args.length t.cap] 25) := ⟨_, rfl⟩
  have X0 : Ext w W := by rw [hW]; exact (Ext.refl w).alloc _
  have HO := hide (h.ext X0)
  have HB : Hid (TBox W w.heap.size t) := hide (by rw [hW]; exact TBox.new w t)
  have T0 : Hid (Tr c w v W v) := hide (Tr.of_ext X0)
  have HW := hide hW.symm
  have hc := HO.out.ltc
  obtain ⟨A, cap, hv, hle, hmx, hrow, -⟩ := Ints.own HO.out.own
  have c0 := HB.out.c0
  have c1 := HB.out.c1
  have hcc : W.cell? ⟨c, 0, none⟩ = some v := by simp [World.cell?, HO.out.cell]
  unfold tyV at *
  clear h X0
  subst hv
  clear hW
  cases ht : (t.con == ([] : Str))
  · have hT : tellV us t = us := by unfold tellV; rw [if_neg]; simp at ht; exact fun e => ht e.1
    rw [hT]
    go_enter Tryz.func116, Tryz.ntmps116
    go_upto_region 1 with fail
    rw [HW.out]
    go_wp2
    go_ret
    exact ⟨rfl, _, HO.out, T0.out⟩
  · have HI := hide (has_i A cap us t.var W hrow (by omega))
    cases hb : us.any (· == t.var)
    · have hT : tellV us t = us ++ [t.var] := by unfold tellV; rw [if_pos]; simp at ht hb; exact ⟨ht, by simp; intro e; exact hb _ e rfl⟩
      rw [hb] at HI
      rw [hT]
      go_enter Tryz.func116, Tryz.ntmps116
      go_upto_region 1 with fail
      rw [HW.out]
      go_wp2_with fail
      refine HI.out.mono ?_
      rintro e W ⟨rfl, rfl⟩
      go_wp2_with (at_builtin; refine wpList_append_row _ rfl _ _ 31 rfl base 3 i0 _ 1 8 Tryz.underlying31 hi hz0 hz1 hz2 rfl (by decide) (.slice A us.length cap) us.length (us.map (Value.int .i64)) rfl (own_extB HO.out.own ((Ext.refl _).alloc _)) _ 1 1 [.int .i64 t.var] rfl ?c2 ?c3 ?c4 ?c5 ?c6 ?_)
      case c2 => exact Row.boxI _ (at_newB _ _ _ (by simp))
      case c3 => first | rfl | (intro y hy; simp at hy; subst hy; rfl)
      case c4 => unfold maxLen; omega
      case c5 => omega
      case c6 => have := HO.out.le; (first | omega | (simp; omega))
      intro v4 w4 hown4 hg4 hat4
      have hown5 : w4.ownsRow base 3 1 v4 (us ++ [t.var]).length ((us ++ [t.var]).map (Value.int .i64)) := by rw [List.length_append, List.map_append]; exact hown4
      obtain ⟨A4, cp4, hv4, -⟩ := Ints.own hown5
      have hv5 : v4 = .slice A4 (us.length + 1) cp4 := by rw [hv4]; simp
      clear hv4
      subst hv5
      have E1 : Ext W (W.alloc (.cells #[.int .i64 t.var] 3)) := (Ext.refl _).alloc _
      have T1 : Tr c W (.slice A us.length cap) w4 (.slice A4 (us.length + 1) cp4) := ⟨hg4.os.trans E1.below.os, hg4.tape.trans E1.below.tape, hg4.output.trans E1.below.output, Nat.le_trans E1.size hg4.size,
        fun k hk hkc hkv => (hg4.block k (Nat.lt_of_lt_of_le hk E1.size) (fun e => hkv e.symm)).trans (E1.heap hk),
        by
          rcases hat4 with h1 | h1
          · exact .inl h1
          · exact .inr (fun k hk => by rw [h1] at hk; injection hk with hk; have := E1.size; omega)⟩
      have hc4 : w4.heap[c]? = some (.cells #[.slice A us.length cap] 31 (0, 0)) := (hg4.block c (Nat.lt_of_lt_of_le hc E1.size) (fun e => HO.out.ne e.symm)).trans ((E1.heap hc).trans HO.out.cell)
      have O4 : Hid (IntsAt c base (w4.setCell ⟨c, 0, none⟩ (.slice A4 (us.length + 1) cp4)) (.slice A4 (us.length + 1) cp4) (us ++ [t.var])) := hide ⟨by have := blk_setCell hc4 0 (.slice A4 (us.length + 1) cp4); simpa using this, ownsRow_setCell_below (a := ⟨c, 0, none⟩) hown5 HO.out.lt (.slice A4 (us.length + 1) cp4), HO.out.lt, by have := HO.out.le; have := T1.size; simp [World.setCell]; omega⟩
      have T4 : Hid (Tr c w (.slice A us.length cap) (w4.setCell ⟨c, 0, none⟩ (.slice A4 (us.length + 1) cp4)) (.slice A4 (us.length + 1) cp4)) := hide (T0.out.trans ⟨T1.os, T1.tape, T1.output, by have := T1.size; simpa [World.setCell] using this,
        fun k hk hkc hkv => (Below.heap_setCell w4 ⟨c, 0, none⟩ (.slice A4 (us.length + 1) cp4) k hkc).trans (T1.blk k hk hkc hkv), T1.own⟩)
      have hcc4 : w4.cell? ⟨c, 0, none⟩ = some (.slice A us.length cap) := by simp [World.cell?, hc4]
      have hcf4 : w4.frozen? ⟨c, 0, none⟩ = false := by simp [World.frozen?, hc4]
      clear T1 E1 hown4 hown5 hg4 hat4 hcc
      go_wp2
      go_ret
      exact ⟨rfl, _, O4.out, T4.out⟩
    · have hT : tellV us t = us := by unfold tellV; rw [if_neg]; simp at hb; intro e; have := e.2; simp at this; exact this hb
      rw [hb] at HI
      rw [hT]
      go_enter Tryz.func116, Tryz.ntmps116
      go_upto_region 1 with fail
      rw [HW.out]
      go_wp2_with fail
      refine HI.out.mono ?_
      rintro e W ⟨rfl, rfl⟩
      go_wp2
      go_ret
      exact ⟨rfl, _, HO.out, T0.out⟩

theorem tvars1_opens : Opens 116 := enters_of Tryz.func116 (by kernel_rfl) rfl
/-- What has been told of some parts. -/
def tellsV (pre : List (Nat × Ty)) : List Int := pre.foldl (fun out p => tellV out p.2) []
theorem tellsV_snoc (pre : List (Nat × Ty)) (x : Nat × Ty) : tellsV (pre ++ [x]) = tellV (tellsV pre) x.2 := by unfold tellsV; rw [List.foldl_append]; rfl
theorem tellV_len (l : List Int) (t : Ty) : (tellV l t).length ≤ l.length + 1 := by unfold tellV; split <;> simp
theorem tellsV_once (pre : List (Nat × Ty)) (out : List Int) : pre.foldl (fun out p => tellV out p.2) out = onceGo out (pre.map fun p => if p.2.con = [] then [p.2.var] else []).flatten := by
  induction pre generalizing out with
  | nil => rfl
  | cons x pre ih =>
    rw [List.foldl_cons, ih, List.map_cons, List.flatten_cons, onceGo_app]
    congr 1
    unfold tellV
    by_cases h : x.2.con = []
    · rw [if_pos h]
      show _ = if out.contains x.2.var then out else out ++ [x.2.var]
      cases hc : out.contains x.2.var
      · rw [if_pos ⟨h, rfl⟩]; rfl
      · rw [if_neg (fun e => by cases e.2)]; rfl
    · rw [if_neg h, if_neg (fun e => h e.1)]; rfl
theorem tellsV_all (t : Ty) : tellsV (t.lev 1) = onceI t.vars := by unfold tellsV; rw [tellsV_once, ← vars_lev t 1]; rfl

set_option maxRecDepth 10000 in
set_option maxHeartbeats 2000000 in
theorem t_vars (t : Ty) (w : World) (h : TyIn w t) (hsz : t.size ≤ 90000) : Calls Tryz.prog 84 #[tyV t] w fun e w' => (∃ v, e = .returned v ∧ w'.ownsRow w.heap.size 3 1 v (onceI t.vars).length ((onceI t.vars).map (Value.int .i64))) ∧ Ext w w' := by
  have HB := hide (TBox.new w t)
  have X1 : Ext w ((w.alloc (.cells #[encStr t.con, .int .i64 t.var, .slice t.A t.args.length t.cap] 25)).alloc (.cells #[.slice none 0 0] 31)) := ((Ext.refl w).alloc _).alloc _
  have hs : (w.alloc (.cells #[encStr t.con, .int .i64 t.var, .slice t.A t.args.length t.cap] 25)).heap.size = w.heap.size + 1 := by simp
  have hc : ((w.alloc (.cells #[encStr t.con, .int .i64 t.var, .slice t.A t.args.length t.cap] 25)).alloc (.cells #[.slice none 0 0] 31)).heap[w.heap.size + 1]? = some (.cells #[.slice none 0 0] 31 (0, 0)) := at_newB _ _ _ (by simp)
  have HW := hide (t_walk 116 #[.pointer (some ⟨w.heap.size + 1, 0, none⟩)] tvars1_opens w (w.heap.size + 1) 90000
    (fun pre w' v => IntsAt (w.heap.size + 1) (w.heap.size + 2) w' v (tellsV pre) ∧ (tellsV pre).length ≤ pre.length)
    (fun _ _ _ => False)
    (fun pre w1 w2 v hj e => ⟨hj.1.ext e, hj.2⟩)
    (fun pre w1 v hj => ⟨by omega, hj.1.ltc, fun k hk => by have := hj.1.own.lt k hk; omega⟩)
    (fun pre x w1 v hj hN hx ht => by
      refine (t_vars1 x.2 x.1 (w.heap.size + 1) (w.heap.size + 2) v (tellsV pre) w1 hj.1 (by have := hj.2; omega)).mono ?_
      rintro e w2 ⟨rfl, v2, h2, hT⟩
      refine ⟨v2, hT, .inl ⟨rfl, by rw [tellsV_snoc]; exact h2, ?_⟩⟩
      rw [tellsV_snoc, List.length_append]
      have := tellV_len (tellsV pre) x.2
      have := hj.2
      simp
      omega)
    t 1 [] ((w.alloc (.cells #[encStr t.con, .int .i64 t.var, .slice t.A t.args.length t.cap] 25)).alloc (.cells #[.slice none 0 0] 31)) (.slice none 0 0) h X1.below ⟨⟨hc, World.ownsRow_nil _ _ _ _, by omega, by simp⟩, by simp [tellsV]⟩ (by omega) (by simp; omega))
  have HL := hide (tellsV_all t)
  have HX := hide X1
  clear h hc hs X1
  unfold tyV at *
  go_enter Tryz.func84, Tryz.ntmps84
  go_wp2_with fail
  refine HW.out.mono ?_
  rintro e w2 ⟨v2, hT, (⟨rfl, hj⟩ | ⟨rfl, q, hq, hx⟩)⟩
  · have HE := hide (Ext.of_below (HX.out.below.trans (hT.below HX.out.size (by omega) (fun k e => by cases e))) (Nat.le_refl _))
    have hJ := hj.1
    rw [List.nil_append, HL.out] at hJ
    have HJ := hide hJ
    have c1 : w2.cell? ⟨w.heap.size + 1, 0, none⟩ = some v2 := by simp [World.cell?, hJ.cell]
    obtain ⟨A, cp, hv, -⟩ := Ints.own hJ.own
    clear hT hj hJ
    subst hv
    go_wp2
    go_ret
    exact ⟨⟨_, rfl, own_mono HJ.out.own (by omega)⟩, HE.out⟩
  · exact absurd hx id

end Go.Proofs.YtmjiljhcjfnfpaaGreat
