/- Contract: a scheme's type; of the program. -/
import Derived.Test.YtifbkknijialgaaGreatJB24
import Derived.Deep.Cut
/- Contract: a scheme's type; of the program. -/
namespace Go.Proofs.YtifbkknijialgaaGreat
open Go.RowKit

def dictP (c : Str) (p : Ty.Pure) : Ty.Pure := .mk ([123] ++ c ++ [125]) 0 [p]
theorem dictT_pure (c : Str) (t : Ty) (b : Nat) : (dictT c t b).pure = dictP c t.pure := by rw [Ty.pure_eq]; rfl
theorem dictT_away {c : Str} {t : Ty} {b k : Nat} (hb : b ≠ k) (ht : awayB k t = true) : awayB k (dictT c t b) = true :=
  awayB_mk (fun _ a e => by injection e with e; subst e; exact hb) (by intro x hx; simp at hx; subst hx; exact ht)
def funPP (l : List Ty.Pure) (q : Ty.Pure) : Ty.Pure := l.foldr arrP q
theorem funP_eq (l : List Ty) (q : Ty.Pure) : funP l q = funPP (l.map Ty.pure) q := by
  unfold funP funPP
  rw [List.foldr_map]
def rangeI (k : Nat) : List Int := (List.range k).map fun i => ((i : Nat) : Int)
theorem rangeI_succ (k : Nat) : rangeI (k + 1) = rangeI k ++ [(k : Int)] := by unfold rangeI; rw [List.range_succ, List.map_append]; rfl
theorem rangeI_len (k : Nat) : (rangeI k).length = k := by unfold rangeI; simp
noncomputable def ofVs (s : Sc) : List Int := if scB s then rangeI s.n.toNat else []
noncomputable def ofTyP (s : Sc) : Ty.Pure := if scB s then funPP (s.preds.map fun p => dictP p.cls p.ty.pure) s.ty.pure else Ty.zero.pure
/-- A scheme's type, in memory. -/
structure OfOk (w0 w : World) (s : Sc) (p : Po) : Prop where
  po : PoIn w p
  vars : p.vars = ofVs s
  ty : p.ty.pure = ofTyP s
  new : p.vars ≠ [] → ∀ a, p.A = some a → w0.heap.size ≤ a.block
  away : ∀ c, c < w0.heap.size → awayB c s.ty = true → (∀ x ∈ s.preds, awayB c x.ty = true) → awayB c p.ty = true
theorem away_zero (c : Nat) : awayB c Ty.zero = true := awayB_mk (fun h => absurd rfl h) (by simp)
/-- Types of what is known, made of predicates, in memory. -/
structure DsOk (w0 wB w : World) (row : Option Nat) (l : List Pd) (ds : List Ty) : Prop where
  len : ds.length = l.length
  ty : ∀ d ∈ ds, TyIn w d
  is : ds.map Ty.pure = l.map fun p => dictP p.cls p.ty.pure
  row : ∀ d ∈ ds, ∀ c, row = some c → awayB c d = true
  away : ∀ d ∈ ds, ∀ c, c < wB.heap.size → (∀ p ∈ l, awayB c p.ty = true) → awayB c d = true
theorem DsOk.nil (w0 wB w : World) (row : Option Nat) : DsOk w0 wB w row [] [] := ⟨rfl, by simp, rfl, by simp, by simp⟩
theorem DsOk.ext {w0 wB w w' : World} {row : Option Nat} {l : List Pd} {ds : List Ty} (h : DsOk w0 wB w row l ds) (e : Ext w w') : DsOk w0 wB w' row l ds := ⟨h.len, fun d hd => (h.ty d hd).ext e, h.is, h.row, h.away⟩
theorem DsOk.snoc {w0 wB w w' w4 : World} {row row' : Option Nat} {l : List Pd} {ds : List Ty} {p : Pd} {b : Nat} (h : DsOk w0 wB w row l ds) (e : Ext w w') (hd : TyIn w' (dictT p.cls p.ty b)) (hb : w.heap.size ≤ b) (hp : TyIn w0 p.ty) (h0 : w0.heap.size ≤ wB.heap.size) (hB : wB.heap.size ≤ w.heap.size)
    (hr : ∀ c, row = some c → wB.heap.size ≤ c ∧ c < w.heap.size) (hg : w'.grownBy w4 row) (hr' : row' = row ∨ ∀ c, row' = some c → w'.heap.size ≤ c) : DsOk w0 wB w4 row' (l ++ [p]) (ds ++ [dictT p.cls p.ty b]) := by
  have hall : ∀ d ∈ ds ++ [dictT p.cls p.ty b], TyIn w' d ∧ (∀ c, row = some c → awayB c d = true) ∧ ∀ c, c < wB.heap.size → (∀ x ∈ l ++ [p], awayB c x.ty = true) → awayB c d = true := by
    intro d hd2
    rcases List.mem_append.1 hd2 with hd2 | hd2
    · exact ⟨(h.ty d hd2).ext e, h.row d hd2, fun c h1 h2 => h.away d hd2 c h1 (fun x hx => h2 x (List.mem_append.2 (.inl hx)))⟩
    · rw [List.mem_singleton] at hd2
      subst hd2
      exact ⟨hd, fun c hc => dictT_away (by have := hr c hc; omega) (away_new hp (by have := hr c hc; omega)), fun c h1 h2 => dictT_away (by omega) (h2 p (by simp))⟩
  refine ⟨by simp [h.len], fun d hd2 => (hall d hd2).1.grown hg (hall d hd2).2.1, by rw [List.map_append, List.map_append, h.is]; simp [dictT_pure], fun d hd2 c hc => ?_, fun d hd2 => (hall d hd2).2.2⟩
  rcases hr' with rfl | hr'
  · exact (hall d hd2).2.1 c hc
  · exact away_new (hall d hd2).1 (hr' c hc)
theorem zero_pure : Ty.zero.pure = .mk [] 0 [] := by rw [Ty.pure_eq]; rfl
def zeroPo : Array Value := #[.slice none 0 0, .string ⟨#[]⟩, .int .i64 0, .slice none 0 0]
theorem grown2 {a b c : World} {row : Option Nat} (h : a.grownBy b row) (k : b.grownBy c row) : a.grownBy c row := ⟨k.os.trans h.os, k.tape.trans h.tape, k.output.trans h.output, Nat.le_trans h.size k.size, fun j hj hne => (k.block j (Nat.lt_of_lt_of_le hj h.size) hne).trans (h.block j hj hne)⟩

set_option maxRecDepth 10000 in
set_option maxHeartbeats 4000000 in
theorem f_of (s : Sc) (w : World) (h : ScIn w s) (hl : s.preds.length ≤ 1000) (hsz : s.ty.size + psz s.preds ≤ 50000) (hcl : ∀ p ∈ s.preds, p.cls.length ≤ 1000000000000000000) :
    Calls Tryz.prog 10 #[scV s] w fun e w' => (∃ p, e = .returned (poV p) ∧ OfOk w w' s p) ∧ Ext w w' := by
  obtain ⟨i0, hi, hz0, hz1, hz2⟩ := info_parts int64_info
  obtain ⟨i1, hj, hy0, hy1, hy2⟩ := info_parts ty_info3
  obtain ⟨W, hW⟩ : ∃ W, W = (w.alloc (.cells #[.int .i64 s.n, .slice s.A s.preds.length s.cap, encStr s.ty.con, .int .i64 s.ty.var, .slice s.ty.A s.ty.args.length s.ty.cap] 27)).alloc (.cells #[.slice none 0 0, .string ⟨#[]⟩, .int .i64 0, .slice none 0 0] 32) := ⟨_, rfl⟩
  have HW := hide hW.symm
  have X0 : Hid (Ext w W) := hide (by rw [hW]; exact ((Ext.refl _).alloc _).alloc _)
  have B1 : Hid (ScBox W w.heap.size s) := hide (by rw [hW]; exact (ScBox.new w s).ext ((Ext.refl _).alloc _))
  have B2 : Hid (W.heap[w.heap.size + 1]? = some (.cells zeroPo 32 (0, 0))) := hide (by rw [hW]; exact at_newB _ _ _ (by simp))
  have HL := hide (s_legal s W (h.ext X0.out) (by omega) hsz)
  have H := hide h
  have Hcl := hide hcl
  have HV : Hid (ofVs s = if scB s then rangeI s.n.toNat else []) := hide rfl
  have HTy : Hid (ofTyP s = if scB s then funPP (s.preds.map fun p => dictP p.cls p.ty.pure) s.ty.pure else Ty.zero.pure) := hide rfl
  have hn : Hid (scB s = true → 0 ≤ s.n ∧ s.n ≤ 4096) := hide (fun e => by unfold scB at e; simp only [Bool.and_eq_true, decide_eq_true_eq] at e; exact ⟨e.1.1.2, e.1.2⟩)
  obtain ⟨c0, c1, c2, c3, c4⟩ := B1.out.cells
  have hle := h.le
  have hmx := h.max
  clear h hW hcl
  unfold scV poV at *
  cases hb : scB s
  · rw [hb] at HL HV HTy
    have XF : ∀ w2, Ext W w2 → Hid (Ext w ((((w2.setCell ⟨w.heap.size + 1, 0, none⟩ (.slice none 0 0)).setCell ⟨w.heap.size + 1, 1, none⟩ (.string ⟨#[]⟩)).setCell ⟨w.heap.size + 1, 2, none⟩ (.int .i64 0)).setCell ⟨w.heap.size + 1, 3, none⟩ (.slice none 0 0))) := fun w2 e => hide ((((((X0.out.trans e).setCell (by simp) _).setCell (by simp) _).setCell (by simp) _).setCell (by simp) _))
    go_enter Tryz.func10, Tryz.ntmps10
    go_upto_region 1 with fail
    rw [HW.out]
    go_wp2_with fail
    refine HL.out.mono ?_
    rintro e w2 ⟨rfl, hx⟩
    have B2' := hide ((hx.heap (lt_of_obj B2.out)).trans B2.out)
    have f0 := free_block B2'.out 0
    have f1 := free_block B2'.out 1
    have f2 := free_block B2'.out 2
    have f3 := free_block B2'.out 3
    have k0 := bytes_block B2'.out 0
    have k1 := bytes_block B2'.out 1
    have k2 := bytes_block B2'.out 2
    have k3 := bytes_block B2'.out 3
    simp only [zeroPo, List.getElem?_toArray, List.getElem?_cons_zero, List.getElem?_cons_succ] at k0 k1 k2 k3
    go_wp2
    refine bodyPost_ret (v := .agg #[.slice none 0 0, .string ⟨#[]⟩, .int .i64 0, .slice none 0 0]) ?_ rfl ⟨⟨⟨[], none, 0, Ty.zero⟩, rfl, ⟨⟨Nat.le_refl _, Nat.zero_le _, RowOf.nil _ _ _, TyIn.zero _⟩, by rw [HV.out]; rfl, by rw [HTy.out]; rfl, fun h => absurd rfl h, fun c _ _ _ => away_zero c⟩⟩, (XF w2 hx).out⟩
    simp [results, Tryz.f10, go_sem, k0, k1, k2, k3]
  · rw [hb] at HL HV HTy
    obtain ⟨hn0, hn1⟩ := hn.out hb
    obtain ⟨m, hm⟩ : ∃ m : Nat, s.n = (m : Int) := ⟨s.n.toNat, by omega⟩
    have HMn := hide hm
    have hm4 : m ≤ 4096 := by omega
    have HV2 : Hid (ofVs s = rangeI m) := hide (by rw [HV.out, hm]; rfl)
    clear hm HV
    go_enter Tryz.func10, Tryz.ntmps10
    go_upto_region 1 with fail
    rw [HW.out]
    go_wp2_with fail
    refine HL.out.mono ?_
    rintro e w2 ⟨rfl, hx⟩
    have X2 := hide hx
    have B12 := hide (B1.out.ext hx)
    have B22 := hide ((hx.heap (lt_of_obj B2.out)).trans B2.out)
    clear hx c0 c1 c2 c3 c4
    obtain ⟨W3, hW3⟩ : ∃ W3, W3 = w2.alloc (.cells #[.slice none 0 0, .string ⟨#[]⟩, .int .i64 0, .slice none 0 0] 32) := ⟨_, rfl⟩
    have X3 : Hid (Ext w2 W3) := hide (by rw [hW3]; exact (Ext.refl _).alloc _)
    have B3 : Hid (W3.heap[w2.heap.size]? = some (.cells #[.slice none 0 0, .string ⟨#[]⟩, .int .i64 0, .slice none 0 0] 32 (0, 0))) := hide (by rw [hW3]; exact at_newB _ _ _ rfl)
    have hs2 : w.heap.size + 1 < w2.heap.size := lt_of_obj B22.out
    obtain ⟨c0, -, -, -, -⟩ := (B12.out.ext X3.out).cells
    have HW3 := hide hW3.symm
    clear hW3
    go_upto_region 4 with fail
    rw [HW3.out]
    have hs3 : W3.heap.size = w2.heap.size + 1 := by rw [← HW3.out]; simp
    have O0 : Hid (W3.ownsRow (w2.heap.size + 1) 3 1 (.slice none 0 0) 0 ((rangeI 0).map (Value.int .i64))) := hide (World.ownsRow_nil _ _ _ _)
    go_wp2
    go_loopw [14] (fun i wr => ∃ (k : Nat) (v : Value), k ≤ m ∧ i = .int .i64 k ∧ Hid (Ext w2 wr) ∧ Hid (wr.heap[w2.heap.size]? = some (.cells #[v, .string ⟨#[]⟩, .int .i64 0, .slice none 0 0] 32 (0, 0))) ∧ Hid (wr.ownsRow (w2.heap.size + 1) 3 1 v k ((rangeI k).map (Value.int .i64)))) (fun i _ => m - (intOf i).toNat)
    case atStart => exact ⟨0, .slice none 0 0, Nat.zero_le _, rfl, X3, B3, O0⟩
    case round =>
      obtain ⟨k, v, hk, rfl, HX, HB, HO⟩ := hrel
      by_cases hlt : k < m
      · have hlt' : (k : Int) < s.n := by rw [HMn.out]; omega
        have k0 := bytes_block HB.out 0
        simp only [List.getElem?_toArray, List.getElem?_cons_zero] at k0
        have hul := lt_of_obj HB.out
        have hnv : v.ownBlock ≠ some w2.heap.size := fun e => by have := (HO.out.lt _ e).1; omega
        have Hrk := hide (rangeI_succ k)
        generalize rangeI k = L at *
        go_wp2_with (at_builtin; refine wpList_append_row _ rfl _ _ 30 rfl (w2.heap.size + 1) 3 i0 _ 1 8 Tryz.underlying30 hi hz0 hz1 hz2 rfl (by decide) v k (L.map (Value.int .i64)) rfl (HO.out.alloc _) _ 1 1 [.int .i64 (k : Int)] rfl ?c2 ?c3 ?c4 ?c5 ?c6 ?_)
        case c2 => exact Row.boxI _ (at_newB _ _ _ (by simp))
        case c3 => first | rfl | (intro y hy; simp at hy; subst hy; rfl)
        case c4 => unfold maxLen; omega
        case c5 => omega
        case c6 => simp; omega
        intro v4 w4 hown4 hg4 hat4
        have hown5 : w4.ownsRow (w2.heap.size + 1) 3 1 v4 (k + 1) ((rangeI (k + 1)).map (Value.int .i64)) := by rw [Hrk.out, List.map_append]; exact hown4
        have hown6 : w4.ownsRow (w2.heap.size + 1) 3 1 v4 (rangeI (k + 1)).length ((rangeI (k + 1)).map (Value.int .i64)) := by rw [rangeI_len]; exact hown5
        obtain ⟨A4, cp4, hv4, -⟩ := Ints.own hown6
        rw [rangeI_len] at hv4
        have E1 : Ext w2 (wr.alloc (.cells #[.int .i64 (k : Int)] 3)) := HX.out.alloc _
        have X4 : Ext w2 w4 := E1.grown hg4 (fun c e => by have := (HO.out.lt c e).1; omega)
        have hc4 : w4.heap[w2.heap.size]? = some (.cells #[v, .string ⟨#[]⟩, .int .i64 0, .slice none 0 0] 32 (0, 0)) := (hg4.block _ (by simp; omega) (fun e => hnv e.symm)).trans ((((Ext.refl wr).alloc _).heap hul).trans HB.out)
        subst hv4
        have Xn := hide (X4.setCell (p := ⟨w2.heap.size, 0, none⟩) (Nat.le_refl _) (.slice A4 (k + 1) cp4))
        have Bn : Hid ((w4.setCell ⟨w2.heap.size, 0, none⟩ (.slice A4 (k + 1) cp4)).heap[w2.heap.size]? = some (.cells #[.slice A4 (k + 1) cp4, .string ⟨#[]⟩, .int .i64 0, .slice none 0 0] 32 (0, 0))) := hide (by have := blk_setCell hc4 0 (.slice A4 (k + 1) cp4); simpa using this)
        have On := hide (ownsRow_setCell_below (a := ⟨w2.heap.size, 0, none⟩) hown5 (Nat.lt_succ_self _) (.slice A4 (k + 1) cp4))
        have hcc := bytes_block hc4 0
        have hcf := free_block hc4 0
        simp only [List.getElem?_toArray, List.getElem?_cons_zero] at hcc
        clear hown4 hown5 hown6 hg4 hat4 E1 X4
        go_wp2
        go_roundw
        case rel => exact ⟨k + 1, .slice A4 (k + 1) cp4, hlt, by go_num, Xn, Bn, On⟩
        case measure => simp [intOf]; omega
      · have hge : ¬ (k : Int) < s.n := by rw [HMn.out]; omega
        have hkm : k = m := by omega
        have HO2 : Hid (wr.ownsRow (w2.heap.size + 1) 3 1 v (rangeI m).length ((rangeI m).map (Value.int .i64))) := hide (by have := HO.out; rw [hkm] at this; rwa [rangeI_len])
        obtain ⟨A5, c5, hv5, p1, p2', p3, -⟩ := Ints.own HO2.out
        subst hv5
        have PA : Hid (∀ a, A5 = some a → w2.heap.size + 1 ≤ a.block) := hide (fun a e => by
          subst e
          rcases own_some HO2.out with ⟨h1, -⟩ | ⟨g, cp, h1, h2, -⟩
          · cases h1
          · injection h1 with h1; injection h1 with h1; subst h1; exact h2)
        have P1 := hide p1
        have P3 := hide p3
        have B1r := hide (B12.out.ext HX.out)
        have B2r := hide ((HX.out.heap (lt_of_obj B22.out)).trans B22.out)
        have HXr := hide HX.out
        have hszr := HX.out.size
        have hpb := lt_of_obj HB.out
        clear hkm HO HO2 p1 p3 c0
        rename World => wB
        obtain ⟨c0, c1, c2, c3, c4⟩ := B1r.out.cells
        go_wp2
        go_loopw [4, 27] (fun u i wr => ∃ (k : Nat) (ds : List Ty), k ≤ s.preds.length ∧ i = .int .i64 k ∧ Hid (Ext wB wr) ∧ Hid (wr.ownsRow wB.heap.size 25 3 u ds.length (ds.flatMap tyC.f)) ∧ Hid (DsOk w wB wr u.ownBlock (s.preds.take k) ds)) (fun _ i _ => s.preds.length - (intOf i).toNat)
        case atStart => exact ⟨0, [], Nat.zero_le _, rfl, hide (Ext.refl _), hide (World.ownsRow_nil _ _ _ _), hide (DsOk.nil _ _ _ _)⟩
        case round =>
          obtain ⟨k, ds, hk, rfl, HX, HO, HD⟩ := hrel
          have hdl : ds.length ≤ s.preds.length := by have := HD.out.len; rw [List.length_take] at this; omega
          by_cases hlt : k < s.preds.length
          · have hlt' : (k : Int) < (s.preds.length : Int) := by omega
            have hk0 : (0 : Int) ≤ (k : Int) := by omega
            have XR := hide (X0.out.trans (X2.out.trans (HXr.out.trans HX.out)))
            obtain ⟨b, o, hA, hb, q0, q1, q2, q3⟩ := (H.out.row.ext XR.out).at_ hlt
            have hm := List.getElem_mem hlt
            have HC := hide (fun w' (e : Ext w w') => hide (f_dict (s.preds[k]'hlt).cls (s.preds[k]'hlt).ty w' ((H.out.row.all _ hm).ty.ext e) (Hcl.out _ hm)))
            have Hpt := hide (H.out.row.all _ hm).ty
            have Htk : Hid (s.preds.take (k + 1) = s.preds.take k ++ [s.preds[k]'hlt]) := hide (List.take_succ_eq_append_getElem hlt)
            generalize s.preds[k]'hlt = x at *
            obtain ⟨A6, c6, rfl, -, -, -, -⟩ := RowOf.own tyC (l := ds) HO.out
            unfold tyV at HC
            have hszB := HX.out.size
            clear hm
            rw [hA]
            clear hA
            go_wp2_with fail
            refine (HC.out _ (XR.out.trans ((Ext.refl _).alloc _))).out.mono ?_
            rintro e w5 ⟨⟨g, rfl, hd, hgs⟩, hx5⟩
            have X5 := hide (((Ext.refl wr).alloc (.cells #[encStr x.cls, encStr x.ty.con, .int .i64 x.ty.var, .slice x.ty.A x.ty.args.length x.ty.cap] 63)).trans hx5)
            have O5 := hide (own_extB HO.out X5.out)
            have hgs' : wr.heap.size ≤ g := by simp at hgs; omega
            have Hd := hide hd
            have hs5 := (HX.out.trans X5.out).size
            obtain ⟨D, hD⟩ : ∃ D, D = dictT x.cls x.ty g := ⟨_, rfl⟩
            rw [← hD]
            have HDe := hide hD
            clear hx5 hd hgs hD
            go_wp2_with (at_builtin; refine wpList_append_row _ rfl _ _ 23 rfl wB.heap.size 25 i1 _ 3 48 Tryz.underlying23 hj hy0 hy1 hy2 rfl (by decide) (.slice A6 ds.length c6) ds.length (ds.flatMap tyC.f) rfl (O5.out.alloc _) _ 1 1 [encStr D.con, .int .i64 D.var, .slice D.A D.args.length D.cap] rfl ?c2 ?c3 ?c4 ?c5 ?c6 ?_)
            case c2 => exact Row.ty3 _ _ _ (at_newB _ _ _ (by simp))
            case c3 => first | exact ⟨rfl, rfl, rfl⟩ | (intro y hy; simp at hy; rcases hy with rfl | rfl | rfl <;> rfl)
            case c4 => unfold maxLen; omega
            case c5 => omega
            case c6 => simp; omega
            intro v4 w4 hown4 hg4 hat4
            have X4 := hide (Ext.app ((HX.out.trans X5.out).alloc _) hg4 (O5.out.alloc _) (Nat.le_refl _))
            have O4 : Hid (w4.ownsRow wB.heap.size 25 3 v4 (ds ++ [D]).length ((ds ++ [D]).flatMap tyC.f)) := hide (by rw [flat_snoc, List.length_append]; exact hown4)
            have D4 : Hid (DsOk w wB w4 v4.ownBlock (s.preds.take (k + 1)) (ds ++ [D])) := hide (by
              rw [Htk.out, HDe.out]
              refine HD.out.snoc (w' := w5.alloc (.cells #[encStr D.con, .int .i64 D.var, .slice D.A D.args.length D.cap] 25)) (X5.out.alloc _) (Hd.out.ext ((Ext.refl _).alloc _)) hgs' Hpt.out (by have := XR.out.size; have := (X0.out.trans (X2.out.trans HXr.out)).size; omega) hszB (fun c e => HO.out.lt c e) hg4 ?_
              rcases hat4 with e | e
              · exact .inl e
              · exact .inr (fun c hc => by rw [e] at hc; injection hc with hc; simp at hc ⊢; omega))
            clear hown4 hg4 hat4
            go_wp2
            go_roundw
            case rel => exact ⟨k + 1, ds ++ [D], hlt, by go_num, X4, O4, D4⟩
            case measure => simp [intOf]; omega
          · have hge : ¬ (k : Int) < (s.preds.length : Int) := by omega
            have HD2 : Hid (DsOk w wB wr u4.ownBlock s.preds ds) := hide (by have := HD.out; rwa [List.take_of_length_le (by omega)] at this)
            obtain ⟨A6, c6, rfl, d1, d2, d3, -⟩ := RowOf.own tyC (l := ds) HO.out
            have XR := hide (X0.out.trans (X2.out.trans (HXr.out.trans HX.out)))
            have hszw : w.heap.size + 1 < wB.heap.size := by omega
            have HT := hide (t_fun A6 c6 ds s.ty wr ⟨d3, HD2.out.ty⟩ (H.out.ty.ext XR.out) (by omega))
            have Bsc := hide (B1r.out.ext HX.out)
            have Brb := hide ((HX.out.heap (lt_of_obj B2r.out)).trans B2r.out)
            have Bpb := hide ((HX.out.heap hpb).trans HB.out)
            have HP5 := hide (RowOf.ext intC P3.out HX.out)
            have hszB := HX.out.size
            clear HD HO d3 c0 c1 c2 c3 c4
            obtain ⟨c0, c1, c2, c3, c4⟩ := Bsc.out.cells
            unfold tyV at HT
            go_wp2_with fail
            refine HT.out.mono ?_
            rintro e w7 ⟨⟨u, rfl, hu, hup, hua⟩, hx7⟩
            have X7 := hide (XR.out.trans hx7)
            have Brb7 := hide ((hx7.heap (lt_of_obj Brb.out)).trans Brb.out)
            have Bpb7 := hide ((hx7.heap (lt_of_obj Bpb.out)).trans Bpb.out)
            have HP7 := hide (RowOf.ext intC HP5.out hx7)
            have Hup : Hid (u.pure = ofTyP s) := hide (by rw [hup, funP_eq, HD2.out.is, HTy.out]; rfl)
            have Hua : Hid (awayB w2.heap.size u = true ∧ awayB (w.heap.size + 1) u = true) := hide ⟨hua _ ⟨by omega, away_new H.out.ty (by omega), fun a ha => HD2.out.away a ha _ (by omega) (fun x hx => away_new (H.out.row.all x hx).ty (by omega))⟩, hua _ ⟨by omega, away_new H.out.ty (by omega), fun a ha => HD2.out.away a ha _ (by omega) (fun x hx => away_new (H.out.row.all x hx).ty (by omega))⟩⟩
            have Haw : Hid (∀ c, c < w.heap.size → awayB c s.ty = true → (∀ x ∈ s.preds, awayB c x.ty = true) → awayB c u = true) := hide (fun c h1 h2 h3 => hua _ ⟨by omega, h2, fun a ha => HD2.out.away a ha _ (by omega) h3⟩)
            have Hu := hide hu
            clear hx7 hu hup hua c0 c1 c2 c3 c4
            have hne : w2.heap.size ≠ w.heap.size + 1 := by omega
            have hlw2 : w.heap.size ≤ w2.heap.size := by omega
            have p0 := bytes_block Bpb7.out 0
            have p1 := bytes_block Bpb7.out 1
            have p2 := bytes_block Bpb7.out 2
            have p3 := bytes_block Bpb7.out 3
            have pf0 := free_block Bpb7.out 0
            have pf1 := free_block Bpb7.out 1
            have pf2 := free_block Bpb7.out 2
            have pf3 := free_block Bpb7.out 3
            have k0 := bytes_block Brb7.out 0
            have k1 := bytes_block Brb7.out 1
            have k2 := bytes_block Brb7.out 2
            have k3 := bytes_block Brb7.out 3
            have f0 := free_block Brb7.out 0
            have f1 := free_block Brb7.out 1
            have f2 := free_block Brb7.out 2
            have f3 := free_block Brb7.out 3
            simp only [zeroPo, List.getElem?_toArray, List.getElem?_cons_zero, List.getElem?_cons_succ] at k0 k1 k2 k3 p0 p1 p2 p3
            rw [rangeI_len] at p0
            obtain ⟨WF, hWF⟩ : ∃ WF, WF = (((((((w7.setCell ⟨w2.heap.size, 1, none⟩ (.string ⟨u.con.toArray⟩)).setCell ⟨w2.heap.size, 2, none⟩ (.int .i64 u.var)).setCell ⟨w2.heap.size, 3, none⟩ (.slice u.A u.args.length u.cap)).setCell ⟨w.heap.size + 1, 0, none⟩ (.slice A5 m c5)).setCell ⟨w.heap.size + 1, 1, none⟩ (.string ⟨u.con.toArray⟩)).setCell ⟨w.heap.size + 1, 2, none⟩ (.int .i64 u.var)).setCell ⟨w.heap.size + 1, 3, none⟩ (.slice u.A u.args.length u.cap)) := ⟨_, rfl⟩
            have XF : Hid (Ext w WF) := hide (by
              rw [hWF]
              exact ((((((X7.out.setCell (by simp; omega) _).setCell (by simp; omega) _).setCell (by simp; omega) _).setCell (by simp) _).setCell (by simp) _).setCell (by simp) _).setCell (by simp) _)
            have HF : Hid (TyIn WF u ∧ Ints WF A5 (rangeI m)) := hide (by
              obtain ⟨V, hV⟩ : ∃ V, V = ((w7.setCell ⟨w2.heap.size, 1, none⟩ (.string ⟨u.con.toArray⟩)).setCell ⟨w2.heap.size, 2, none⟩ (.int .i64 u.var)).setCell ⟨w2.heap.size, 3, none⟩ (.slice u.A u.args.length u.cap) := ⟨_, rfl⟩
              have g1 : w7.grownBy V (some w2.heap.size) := by rw [hV]; exact put3_grown _ _ _ _ _ _ _ _
              have g2 : V.grownBy WF (some (w.heap.size + 1)) := by rw [hWF, ← hV]; exact grown2 (grown_cell _ _ _ _) (put3_grown _ _ _ _ _ _ _ _)
              refine ⟨(Hu.out.grown g1 (fun c e => by injection e with e; subst e; exact Hua.out.1)).grown g2 (fun c e => by injection e with e; subst e; exact Hua.out.2), ?_⟩
              exact row_grown (row_grown HP7.out g1 (fun _ a e e2 => by have := PA.out a e; injection e2 with e2; omega)) g2 (fun _ a e e2 => by have := PA.out a e; injection e2 with e2; omega))
            have hb8 : WF.heap[w.heap.size + 1]? = some (.cells #[.slice A5 m c5, .string ⟨u.con.toArray⟩, .int .i64 u.var, .slice u.A u.args.length u.cap] 32 (0, 0)) := by
              have h0 : (((w7.setCell ⟨w2.heap.size, 1, none⟩ (.string ⟨u.con.toArray⟩)).setCell ⟨w2.heap.size, 2, none⟩ (.int .i64 u.var)).setCell ⟨w2.heap.size, 3, none⟩ (.slice u.A u.args.length u.cap)).heap[w.heap.size + 1]? = some (.cells zeroPo 32 (0, 0)) := by
                rw [Below.heap_setCell _ _ _ _ (by simp; omega), Below.heap_setCell _ _ _ _ (by simp; omega), Below.heap_setCell _ _ _ _ (by simp; omega)]
                exact Brb7.out
              have := blk_setCell (blk_setCell (blk_setCell (blk_setCell h0 0 (.slice A5 m c5)) 1 (.string ⟨u.con.toArray⟩)) 2 (.int .i64 u.var)) 3 (.slice u.A u.args.length u.cap)
              rw [hWF]
              simpa [zeroPo] using this
            have m0 := bytes_block hb8 0
            have m1 := bytes_block hb8 1
            have m2 := bytes_block hb8 2
            have m3 := bytes_block hb8 3
            simp only [List.getElem?_toArray, List.getElem?_cons_zero, List.getElem?_cons_succ] at m0 m1 m2 m3
            go_wp2
            rw [← hWF]
            refine bodyPost_ret (v := .agg #[.slice A5 m c5, encStr u.con, .int .i64 u.var, .slice u.A u.args.length u.cap]) ?_ rfl ⟨⟨⟨rangeI m, A5, c5, u⟩, ?_, ⟨⟨P1.out, p2', HF.out.2, HF.out.1⟩, HV2.out.symm, Hup.out, fun _ a ha => by have := PA.out a ha; omega, Haw.out⟩⟩, XF.out⟩
            · simp [results, Tryz.f10, go_sem, m0, m1, m2, m3]
            · show _ = Ending.returned (Value.agg #[.slice A5 (rangeI m).length c5, _, _, _])
              rw [rangeI_len]

end Go.Proofs.YtifbkknijialgaaGreat

/- Contracts: what is free in a type for all of some variables; whether numbers are unlike; whether some are free; of the program. -/
namespace Go.Proofs.YtifbkknijialgaaGreat
open Go.RowKit Go.Sort Go.Shelf

/-- What is free. -/
noncomputable def freeL (p : Po) : List Int := (onceI p.ty.vars).filter fun v => !(p.vars.any (· == v))
theorem freeL_len (p : Po) : (freeL p).length ≤ p.ty.size := Nat.le_trans (List.length_filter_le _ _) (Nat.le_trans (onceI_len _) (vars_len _))
/-- Is one of some variables among others? -/
def meetsI (vars l : List Int) : Bool := l.any fun v => vars.any (· == v)

theorem f_free1 (A : Option Addr) (cap B : Nat) (vars : List Int) (x : Int) (w : World) (hc : w.cell? ⟨B, 0, none⟩ = some (.slice A vars.length cap)) (h : Ints w A vars) (hl : vars.length ≤ 9223372036854775807) :
    Calls Tryz.prog 84 #[.int .i64 x, .pointer (some ⟨B, 0, none⟩)] w fun e w' => e = .returned (.bool (vars.any (· == x))) ∧ w' = w := by
  have HI := hide (has_i A cap vars x w h hl)
  clear h
  generalize vars.any (· == x) = R at *
  go_enter Tryz.func84, Tryz.ntmps84
  go_wp2_with fail
  refine HI.out.mono ?_
  rintro e w ⟨rfl, rfl⟩
  go_wp2
  go_ret
  exact ⟨rfl, rfl⟩
theorem f_meets1 (A : Option Addr) (cap B : Nat) (vars : List Int) (x : Int) (w : World) (hc : w.cell? ⟨B, 0, none⟩ = some (.slice A vars.length cap)) (h : Ints w A vars) (hl : vars.length ≤ 9223372036854775807) :
    Calls Tryz.prog 99 #[.int .i64 x, .pointer (some ⟨B, 0, none⟩)] w fun e w' => e = .returned (.bool (vars.any (· == x))) ∧ w' = w := by
  have HI := hide (has_i A cap vars x w h hl)
  clear h
  generalize vars.any (· == x) = R at *
  go_enter Tryz.func99, Tryz.ntmps99
  go_wp2_with fail
  refine HI.out.mono ?_
  rintro e w ⟨rfl, rfl⟩
  go_wp2
  go_ret
  exact ⟨rfl, rfl⟩
theorem ffree1_opens : Opens 84 := enters_of Tryz.func84 (by kernel_rfl) rfl
theorem fmeets1_opens : Opens 99 := enters_of Tryz.func99 (by kernel_rfl) rfl
theorem ints_keep {w W : World} {A : Option Addr} {l : List Int} (h : Ints w A l) (hs : w.heap.size ≤ W.heap.size) (hb : ∀ k, k < w.heap.size → W.heap[k]? = w.heap[k]?) : Ints W A l := Row.old h hb hs

set_option maxRecDepth 10000 in
set_option maxHeartbeats 2000000 in
theorem f_free (p : Po) (w : World) (h : PoIn w p) (hsz : p.ty.size ≤ 90000) : Calls Tryz.prog 41 #[poV p] w fun e w' => (∃ A' cap', e = .returned (.slice A' (freeL p).length cap') ∧ (freeL p).length ≤ cap' ∧ cap' ≤ 9223372036854775807 ∧ Ints w' A' (freeL p)) ∧ Ext w w' := by
  have X0 : Hid (Ext w (w.alloc (.cells #[.slice p.A p.vars.length p.cap, encStr p.ty.con, .int .i64 p.ty.var, .slice p.ty.A p.ty.args.length p.ty.cap] 32))) := hide ((Ext.refl w).alloc _)
  have HB := hide (PBox.new w p)
  obtain ⟨c0, c1, c2, c3⟩ := HB.out.cells
  have HV := hide (t_vars p.ty _ (h.ty.ext X0.out) hsz)
  have HF : Hid (freeL p = (onceI p.ty.vars).filter fun v => !(p.vars.any (· == v))) := hide rfl
  have HR := hide h.row
  have hmx := h.max
  have hle := h.le
  clear h
  unfold poV
  generalize freeL p = R at *
  unfold tyV at *
  go_enter Tryz.func41, Tryz.ntmps41
  go_wp2_with fail
  refine HV.out.mono ?_
  rintro e w2 ⟨⟨v, rfl, ho⟩, hx2⟩
  have HO := hide ho
  have X2 := hide (X0.out.trans hx2)
  have hs0 : (w.alloc (.cells #[.slice p.A p.vars.length p.cap, encStr p.ty.con, .int .i64 p.ty.var, .slice p.ty.A p.ty.args.length p.ty.cap] 32)).heap.size = w.heap.size + 1 := by simp
  have HB2 := hide (HB.out.ext hx2)
  have HD := hide (del_i _ v _ (fun x => p.vars.any (· == x)) 84 #[.pointer (some ⟨w.heap.size, 0, none⟩)] w2 ffree1_opens ho (fun g hg W x hs hb => by
    have hgl := (ho.lt g hg).1
    have hxs := X2.out.size
    rw [hs0] at hgl
    refine f_free1 p.A p.cap w.heap.size p.vars x W ?_ ?_ (by omega)
    · have h1 := (hb w.heap.size HB2.out.lt (by omega)).trans HB2.out
      simp [World.cell?, h1]
    · exact Row.old HR.out (fun k hk => (hb k (by omega) (by omega)).trans (X2.out.heap hk)) (by omega)))
  have hgr : ∀ k, v.ownBlock = some k → w.heap.size ≤ k := fun k e => by have := (ho.lt k e).1; omega
  rcases own_some ho with ⟨hv, -⟩ | ⟨g, cap, hv, -⟩
  · clear ho hx2
    subst hv
    go_wp2_with fail
    refine HD.out.mono ?_
    rintro e w3 ⟨⟨A', cap', rfl, d1, d2, d3, -⟩, hg3⟩
    have X3 := hide (X2.out.grown hg3 hgr)
    have D3 := hide d3
    clear d3 hg3
    rw [← HF.out] at d1 D3 ⊢
    go_wp2
    go_ret
    exact ⟨⟨A', cap', rfl, d1, d2, D3.out⟩, X3.out⟩
  · clear ho hx2
    subst hv
    go_wp2_with fail
    refine HD.out.mono ?_
    rintro e w3 ⟨⟨A', cap', rfl, d1, d2, d3, -⟩, hg3⟩
    have X3 := hide (X2.out.grown hg3 hgr)
    have D3 := hide d3
    clear d3 hg3
    rw [← HF.out] at d1 D3 ⊢
    go_wp2
    go_ret
    exact ⟨⟨A', cap', rfl, d1, d2, D3.out⟩, X3.out⟩

set_option maxRecDepth 10000 in
set_option maxHeartbeats 1000000 in
theorem f_meets (A : Option Addr) (cap : Nat) (vars : List Int) (p : Po) (w : World) (hi : Ints w A vars) (hl : vars.length ≤ 1000000) (h : PoIn w p) (hsz : p.ty.size ≤ 90000) :
    Calls Tryz.prog 50 #[.slice A vars.length cap, poV p] w fun e w' => e = .returned (.bool (meetsI vars (freeL p))) ∧ Ext w w' := by
  have X1 : Hid (Ext w ((w.alloc (.cells #[.slice A vars.length cap] 30)).alloc (.cells #[.slice p.A p.vars.length p.cap, encStr p.ty.con, .int .i64 p.ty.var, .slice p.ty.A p.ty.args.length p.ty.cap] 32))) := hide (((Ext.refl w).alloc _).alloc _)
  have hb : ((w.alloc (.cells #[.slice A vars.length cap] 30)).alloc (.cells #[.slice p.A p.vars.length p.cap, encStr p.ty.con, .int .i64 p.ty.var, .slice p.ty.A p.ty.args.length p.ty.cap] 32)).heap[w.heap.size]? = some (.cells #[.slice A vars.length cap] 30 (0, 0)) :=
    (((Ext.refl _).alloc _).heap (by simp)).trans (at_newB _ _ _ rfl)
  have HB := hide hb
  have hp := PBox.new (w.alloc (.cells #[.slice A vars.length cap] 30)) p
  rw [World.size_alloc] at hp
  have HP := hide hp
  obtain ⟨c0, c1, c2, c3⟩ := HP.out.cells
  have HF := hide (f_free p _ (h.ext X1.out) hsz)
  have HR := hide hi
  have hn := freeL_len p
  clear h hi hb hp
  unfold poV at *
  generalize hL : freeL p = L at *
  have HLe := hide hL
  clear hL
  go_enter Tryz.func50, Tryz.ntmps50
  go_wp2_with fail
  refine HF.out.mono ?_
  rintro e w2 ⟨⟨A', cap', rfl, d1, d2, d3⟩, hx2⟩
  have X2 := hide (X1.out.trans hx2)
  have HB2 := hide ((hx2.heap (lt_of_obj HB.out)).trans HB.out)
  have HD := hide (hasf_i A' cap' L (fun x => vars.any (· == x)) 99 #[.pointer (some ⟨w.heap.size, 0, none⟩)] w2 fmeets1_opens d3 (by omega) (fun W x hs hb => by
    refine f_meets1 A cap w.heap.size vars x W ?_ ?_ (by omega)
    · have h1 := (hb w.heap.size (lt_of_obj HB2.out) (by have := lt_of_obj HB2.out; omega)).trans HB2.out
      simp [World.cell?, h1]
    · exact Row.old HR.out (fun k hk => (hb k (by have := X2.out.size; omega) (by have := X2.out.size; omega)).trans (X2.out.heap hk)) (by have := X2.out.size; omega)))
  clear d3 hx2
  go_wp2_with fail
  refine HD.out.mono ?_
  rintro e w3 ⟨rfl, hx3⟩
  have X3 := hide (X2.out.trans hx3)
  clear hx3
  go_wp2
  go_ret
  exact ⟨rfl, X3.out⟩

end Go.Proofs.YtifbkknijialgaaGreat

/- Contracts: whether numbers are unlike; whether two types for all of some variables are alike; of the program. -/
namespace Go.Proofs.YtifbkknijialgaaGreat
open Go.RowKit Go.Sort Go.Shelf

set_option maxRecDepth 10000 in
set_option maxHeartbeats 1000000 in
theorem clone_n (A : Option Addr) (cap : Nat) (l : List Int) (w : World) (h : Ints w A l) (hl : l.length ≤ 100000) :
    Calls Tryz.prog 95 #[.slice A l.length cap] w fun e w' => (∃ v, e = .returned v ∧ w'.ownsRow w.heap.size 3 1 v l.length (l.map (Value.int .i64))) ∧ Ext w w' := by
  obtain ⟨i0, hi, hz0, hz1, hz2⟩ := info_parts int64_info
  rcases A with _ | a
  · have hl0 : l = [] := by
      cases l with
      | nil => rfl
      | cons x l => obtain ⟨b, o, e, -⟩ := h.2 (by simp); cases e
    subst hl0
    have heq := fun (w : World) (a : Option Addr) (n c : Nat) => Lib.run_eql_slice_nil (P := Tryz.prog) w 30 3 a n c 0 0 Tryz.underlying30
    clear h
    go_enter Tryz.func95, Tryz.ntmps95
    go_wp2
    go_ret
    exact ⟨⟨_, rfl, World.ownsRow_nil _ _ _ _⟩, (by repeat (first | exact Ext.refl _ | exact Ext.pre (by simp) | exact Ext.alloc (by assumption) _ | refine Ext.alloc ?_ _ |  refine Ext.more ?_ _ _ | refine Ext.drew ?_ | refine Ext.drewN ?_ _))⟩
  · have Hr := hide h.row
    have Hown : Hid ((w.alloc (.cells #[] 3)).ownsRow w.heap.size 3 1 (.slice (some ⟨w.heap.size, 0, none⟩) 0 0) 0 []) := hide (World.ownsRow_made w #[] 0 (Nat.le_refl _) (by simp) (by simp))
    have heq := fun (w : World) (a : Option Addr) (n c : Nat) => Lib.run_eql_slice_nil (P := Tryz.prog) w 30 3 a n c 0 0 Tryz.underlying30
    clear h
    go_enter Tryz.func95, Tryz.ntmps95
    go_wp2_with (at_builtin; refine wpList_append_row _ rfl _ _ 30 rfl w.heap.size 3 i0 _ 1 8 Tryz.underlying30 hi hz0 hz1 hz2 rfl (by decide) _ 0 [] rfl Hown.out (some a) l.length cap (l.map (Value.int .i64)) rfl ?c2 ?c3 ?c4 ?c5 ?c6 ?_)
    case c2 => exact Row.ext Hr.out (Ext.alloc (Ext.refl _) _)
    case c3 => exact one_ints _
    case c4 => unfold maxLen; omega
    case c5 => omega
    case c6 => simp
    intro v4 w4 hown4 hg4 _
    have X4 : Hid (Ext w w4) := hide (Ext.app (Ext.alloc (Ext.refl _) _) hg4 Hown.out (Nat.le_refl _))
    have O4 : Hid (w4.ownsRow w.heap.size 3 1 v4 l.length (l.map (Value.int .i64))) := hide (by simpa using hown4)
    clear hown4 hg4
    go_wp2
    go_ret
    exact ⟨⟨_, rfl, O4.out⟩, X4.out⟩

set_option maxRecDepth 10000 in
set_option maxHeartbeats 1000000 in
theorem f_unlike (A : Option Addr) (cap : Nat) (l : List Int) (w : World) (h : Ints w A l) (hl : l.length ≤ 100000) :
    Calls Tryz.prog 49 #[.slice A l.length cap] w fun e w' => e = .returned (.bool (decide l.Nodup)) ∧ Ext w w' := by
  have HC := hide (clone_n A cap l w h hl)
  have HL := hide (compact_len l)
  clear h
  generalize hd : decide l.Nodup = D
  have HD : Hid (D = true ↔ l.Nodup) := hide (by rw [← hd]; simp)
  clear hd
  go_enter Tryz.func49, Tryz.ntmps49
  go_wp2_with fail
  refine HC.out.mono ?_
  rintro e w2 ⟨⟨v, rfl, ho⟩, hx2⟩
  have X2 := hide hx2
  have HS := hide (sort_i _ v l w2 ho (by omega))
  have hgr : ∀ k, v.ownBlock = some k → w.heap.size ≤ k := fun k e => (ho.lt k e).1
  clear hx2
  rcases own_some ho with ⟨hv, h0⟩ | ⟨g, cp, hv, hb, hg, hle, hmx⟩
  · have hD : D = true := HD.out.2 (by rw [h0]; simp)
    have h0' : Hid (l.length = 0) := hide (by rw [h0]; rfl)
    clear ho h0 HL HD
    subst hv hD
    go_wp2_with fail
    refine HS.out.mono ?_
    rintro e w3 ⟨rfl, hg3, -⟩
    have X3 := hide (X2.out.grown hg3 hgr)
    have HK : Hid (Calls Tryz.prog 97 #[.slice none 0 0] w3 fun e w' => e = .returned (.slice none 0 0) ∧ w' = w3) := hide (by
      go_enter Tryz.func97, Tryz.ntmps97
      go_wp2
      go_ret
      exact ⟨rfl, rfl⟩)
    clear hg3
    rw [h0'.out]
    go_wp2_with fail
    refine HK.out.mono ?_
    rintro e w3 ⟨rfl, rfl⟩
    go_wp2
    go_ret
    exact ⟨rfl, X3.out⟩
  · clear ho
    subst hv
    go_wp2_with fail
    refine HS.out.mono ?_
    rintro e w3 ⟨rfl, hg3, hH⟩
    have X3 := hide (X2.out.grown hg3 hgr)
    have HK := hide (compact_i g cp l.length (l.mergeSort fun x y => decide (x ≤ y)) w3 (List.length_mergeSort l) (hH g cp rfl) hle hmx)
    clear hg3 hH
    have hgr2 : ∀ k, some g = some k → w.heap.size ≤ k := fun k e => hgr k e
    have HL2 : Hid (((((Go.Lib.compactUpTo (l.mergeSort fun x y => decide (x ≤ y)).toArray l.length).length : Nat) : Int) == (l.length : Int)) = D) := hide (by
      rw [Bool.eq_iff_iff, HD.out, ← HL.out, beq_iff_eq]
      omega)
    clear HL HD HS
    generalize (Go.Lib.compactUpTo (l.mergeSort fun x y => decide (x ≤ y)).toArray l.length).length = m at *
    go_wp2_with fail
    refine HK.out.mono ?_
    rintro e w4 ⟨rfl, hg4⟩
    have X4 := hide (X3.out.grown hg4 hgr2)
    clear hg4
    go_wp2
    go_ret
    exact ⟨by rw [← HL2.out]; rfl, X4.out⟩

end Go.Proofs.YtifbkknijialgaaGreat

/- Contract: whether two types for all of some variables are alike; of the program. (A program of ours has printed a part.) -/
namespace Go.Proofs.YtifbkknijialgaaGreat
open Go.RowKit

noncomputable def eqP (x y : Ty.Pure) : Bool := @decide (x = y) (Classical.propDecidable _)
theorem eqP_same {a u : Ty} {x : Ty.Pure} (h : u.pure = x) : sameB a u = eqP a.pure x := by subst h; rfl
/-- Are two the same, but for the names of own variables? -/
noncomputable def alikeP (a b : Po) : Bool :=
  decide (a.vars.length = b.vars.length) && decide a.vars.Nodup && decide b.vars.Nodup && !meetsI a.vars (freeL b) && !meetsI b.vars (freeL a) && eqP a.ty.pure (putP b.vars (a.vars.map varT) b.ty)
theorem set1 (us : List Ty) (n : Nat) (v : Int) : (rowT us (n + 1)).setIfInBounds (us.length * 3 + 1) (.int .i64 v) = rowT (us ++ [varT v]) n := by
  unfold rowT
  have h1 : (us ++ List.replicate (n + 1) Ty.zero).flatMap tyC.f = us.flatMap tyC.f ++ (tyC.f Ty.zero ++ (List.replicate n Ty.zero).flatMap tyC.f) := by
    rw [List.flatMap_append, List.replicate_succ, List.flatMap_cons]
  have h2 : (us ++ [varT v] ++ List.replicate n Ty.zero).flatMap tyC.f = us.flatMap tyC.f ++ (tyC.f (varT v) ++ (List.replicate n Ty.zero).flatMap tyC.f) := by
    rw [List.flatMap_append, List.flatMap_append, List.flatMap_cons, List.flatMap_nil, List.append_nil, List.append_assoc]
  have hl : (us.flatMap tyC.f).length = us.length * 3 := flat_len _ _ tyC.hf _
  rw [h1, h2, ← hl]
  generalize us.flatMap tyC.f = a
  generalize (List.replicate n Ty.zero).flatMap tyC.f = b
  show ((a ++ (([.string ⟨#[]⟩, .int .i64 0, .slice none 0 0] : List Value) ++ b)).toArray.setIfInBounds _ _) = (a ++ (([.string ⟨#[]⟩, .int .i64 v, .slice none 0 0] : List Value) ++ b)).toArray
  simp only [List.setIfInBounds_toArray]
  congr 1
  rw [List.set_append_right _ _ (by omega)]
  simp
theorem varsT_in (w : World) (A : Option Addr) (l : List Int) (h : RowOf tyC w A (l.map varT)) : TysIn w A (l.map varT) := ⟨h, fun k hk => by obtain ⟨v, _, rfl⟩ := List.mem_map.1 hk; exact varT_in w v⟩

set_option maxRecDepth 10000 in
set_option maxHeartbeats 4000000 in
theorem f_alike (a b : Po) (w : World) (ha : PoIn w a) (hb : PoIn w b) (hsa : a.ty.size ≤ 90000) (hsb : b.ty.size ≤ 90000) (hna : a.vars.length ≤ 90000) (hnb : b.vars.length ≤ 90000) :
    Calls Tryz.prog 13 #[poV a, poV b] w fun e w' => e = .returned (.bool (alikeP a b)) ∧ Ext w w' := by
  obtain ⟨W, hW⟩ : ∃ W, W = (w.alloc (.cells #[.slice a.A a.vars.length a.cap, encStr a.ty.con, .int .i64 a.ty.var, .slice a.ty.A a.ty.args.length a.ty.cap] 32)).alloc (.cells #[.slice b.A b.vars.length b.cap, encStr b.ty.con, .int .i64 b.ty.var, .slice b.ty.A b.ty.args.length b.ty.cap] 32) := ⟨_, rfl⟩
  have XW : Hid (Ext w W) := hide (by rw [hW]; exact ((Ext.refl _).alloc _).alloc _)
  have HBa : Hid (PBox W w.heap.size a) := hide (by rw [hW]; exact (PBox.new w a).ext ((Ext.refl _).alloc _))
  have HBb : Hid (PBox W (w.heap.size + 1) b) := hide (by rw [hW]; have := PBox.new (w.alloc (.cells #[.slice a.A a.vars.length a.cap, encStr a.ty.con, .int .i64 a.ty.var, .slice a.ty.A a.ty.args.length a.ty.cap] 32)) b; rwa [World.size_alloc] at this)
  have HW := hide hW.symm
  have HA := hide ha
  have HB := hide hb
  have HUa := hide (fun w' (e : Ext w w') => hide (f_unlike a.A a.cap a.vars w' (RowOf.ext intC ha.row e) (by omega)))
  have HUb := hide (fun w' (e : Ext w w') => hide (f_unlike b.A b.cap b.vars w' (RowOf.ext intC hb.row e) (by omega)))
  have HMa := hide (fun w' (e : Ext w w') => hide (f_meets a.A a.cap a.vars b w' (RowOf.ext intC ha.row e) (by omega) (hb.ext e) hsb))
  have HMb := hide (fun w' (e : Ext w w') => hide (f_meets b.A b.cap b.vars a w' (RowOf.ext intC hb.row e) (by omega) (ha.ext e) hsa))
  have HP : Hid (alikeP a b = (decide (a.vars.length = b.vars.length) && decide a.vars.Nodup && decide b.vars.Nodup && !meetsI a.vars (freeL b) && !meetsI b.vars (freeL a) && eqP a.ty.pure (putP b.vars (a.vars.map varT) b.ty))) := hide rfl
  obtain ⟨a0, a1, a2, a3⟩ := HBa.out.cells
  obtain ⟨b0, b1, b2, b3⟩ := HBb.out.cells
  have hla := ha.le
  have hma := ha.max
  have hlb := hb.le
  have hmb := hb.max
  clear ha hb hW
  unfold poV at *
  generalize alikeP a b = R at *
  generalize decide a.vars.Nodup = NA at *
  generalize decide b.vars.Nodup = NB at *
  generalize meetsI a.vars (freeL b) = MA at *
  generalize meetsI b.vars (freeL a) = MB at *
  by_cases hl : ¬ a.vars.length = b.vars.length
  · have hR : R = false := by rw [HP.out, decide_eq_false hl]; rfl
    have hne : ((a.vars.length : Int) != (b.vars.length : Int)) = true := by rw [bne_iff_ne]; omega
    clear HP HUa HUb HMa HMb hl
    subst hR
    go_enter Tryz.func13, Tryz.ntmps13
    go_upto_region 1 with fail
    rw [HW.out]
    go_wp2
    go_ret
    exact ⟨rfl, XW.out⟩
  replace hl := Classical.not_not.1 hl
  have HL : Hid (b.vars.length = a.vars.length) := hide hl.symm
  rw [decide_eq_true hl, Bool.true_and] at HP
  clear hl
  rw [HL.out] at b0 HUb HMa HMb HW hlb hnb ⊢
  rcases (Bool.eq_false_or_eq_true NA).symm with h0 | h0
  · subst h0
    have hR : R = false := by rw [HP.out]; simp
    clear HP
    subst hR
    clear a0 a1 a2 a3 b0 b1 b2 b3
    obtain ⟨a0, a1, a2, a3⟩ := HBa.out.cells
    obtain ⟨b0, b1, b2, b3⟩ := HBb.out.cells
    rw [HL.out] at b0
    go_enter Tryz.func13, Tryz.ntmps13
    go_upto_region 1 with fail
    rw [HW.out]
    go_wp2_with fail
    refine (HUa.out _ (XW.out)).out.mono ?_
    rintro e w0 ⟨rfl, hx0⟩
    have X0 : Hid (Ext W w0) := hide (hx0)
    clear hx0 a0 a1 a2 a3 b0 b1 b2 b3
    obtain ⟨a0, a1, a2, a3⟩ := (HBa.out.ext X0.out).cells
    obtain ⟨b0, b1, b2, b3⟩ := (HBb.out.ext X0.out).cells
    rw [HL.out] at b0
    go_wp2
    go_ret
    exact ⟨rfl, XW.out.trans X0.out⟩
  subst h0
  rcases (Bool.eq_false_or_eq_true NB).symm with h1 | h1
  · subst h1
    have hR : R = false := by rw [HP.out]; simp
    clear HP
    subst hR
    clear a0 a1 a2 a3 b0 b1 b2 b3
    obtain ⟨a0, a1, a2, a3⟩ := HBa.out.cells
    obtain ⟨b0, b1, b2, b3⟩ := HBb.out.cells
    rw [HL.out] at b0
    go_enter Tryz.func13, Tryz.ntmps13
    go_upto_region 1 with fail
    rw [HW.out]
    go_wp2_with fail
    refine (HUa.out _ (XW.out)).out.mono ?_
    rintro e w0 ⟨rfl, hx0⟩
    have X0 : Hid (Ext W w0) := hide (hx0)
    clear hx0 a0 a1 a2 a3 b0 b1 b2 b3
    obtain ⟨a0, a1, a2, a3⟩ := (HBa.out.ext X0.out).cells
    obtain ⟨b0, b1, b2, b3⟩ := (HBb.out.ext X0.out).cells
    rw [HL.out] at b0
    go_wp2_with fail
    refine (HUb.out _ (XW.out.trans X0.out)).out.mono ?_
    rintro e w1 ⟨rfl, hx1⟩
    have X1 : Hid (Ext W w1) := hide (X0.out.trans hx1)
    clear hx1 a0 a1 a2 a3 b0 b1 b2 b3
    obtain ⟨a0, a1, a2, a3⟩ := (HBa.out.ext X1.out).cells
    obtain ⟨b0, b1, b2, b3⟩ := (HBb.out.ext X1.out).cells
    rw [HL.out] at b0
    go_wp2
    go_ret
    exact ⟨rfl, XW.out.trans X1.out⟩
  subst h1
  rcases Bool.eq_false_or_eq_true MA with h2 | h2
  · subst h2
    have hR : R = false := by rw [HP.out]; simp
    clear HP
    subst hR
    clear a0 a1 a2 a3 b0 b1 b2 b3
    obtain ⟨a0, a1, a2, a3⟩ := HBa.out.cells
    obtain ⟨b0, b1, b2, b3⟩ := HBb.out.cells
    rw [HL.out] at b0
    go_enter Tryz.func13, Tryz.ntmps13
    go_upto_region 1 with fail
    rw [HW.out]
    go_wp2_with fail
    refine (HUa.out _ (XW.out)).out.mono ?_
    rintro e w0 ⟨rfl, hx0⟩
    have X0 : Hid (Ext W w0) := hide (hx0)
    clear hx0 a0 a1 a2 a3 b0 b1 b2 b3
    obtain ⟨a0, a1, a2, a3⟩ := (HBa.out.ext X0.out).cells
    obtain ⟨b0, b1, b2, b3⟩ := (HBb.out.ext X0.out).cells
    rw [HL.out] at b0
    go_wp2_with fail
    refine (HUb.out _ (XW.out.trans X0.out)).out.mono ?_
    rintro e w1 ⟨rfl, hx1⟩
    have X1 : Hid (Ext W w1) := hide (X0.out.trans hx1)
    clear hx1 a0 a1 a2 a3 b0 b1 b2 b3
    obtain ⟨a0, a1, a2, a3⟩ := (HBa.out.ext X1.out).cells
    obtain ⟨b0, b1, b2, b3⟩ := (HBb.out.ext X1.out).cells
    rw [HL.out] at b0
    go_wp2_with fail
    refine (HMa.out _ (XW.out.trans X1.out)).out.mono ?_
    rintro e w2 ⟨rfl, hx2⟩
    have X2 : Hid (Ext W w2) := hide (X1.out.trans hx2)
    clear hx2 a0 a1 a2 a3 b0 b1 b2 b3
    obtain ⟨a0, a1, a2, a3⟩ := (HBa.out.ext X2.out).cells
    obtain ⟨b0, b1, b2, b3⟩ := (HBb.out.ext X2.out).cells
    rw [HL.out] at b0
    go_wp2
    go_ret
    exact ⟨rfl, XW.out.trans X2.out⟩
  subst h2
  rcases Bool.eq_false_or_eq_true MB with h3 | h3
  · subst h3
    have hR : R = false := by rw [HP.out]; simp
    clear HP
    subst hR
    clear a0 a1 a2 a3 b0 b1 b2 b3
    obtain ⟨a0, a1, a2, a3⟩ := HBa.out.cells
    obtain ⟨b0, b1, b2, b3⟩ := HBb.out.cells
    rw [HL.out] at b0
    go_enter Tryz.func13, Tryz.ntmps13
    go_upto_region 1 with fail
    rw [HW.out]
    go_wp2_with fail
    refine (HUa.out _ (XW.out)).out.mono ?_
    rintro e w0 ⟨rfl, hx0⟩
    have X0 : Hid (Ext W w0) := hide (hx0)
    clear hx0 a0 a1 a2 a3 b0 b1 b2 b3
    obtain ⟨a0, a1, a2, a3⟩ := (HBa.out.ext X0.out).cells
    obtain ⟨b0, b1, b2, b3⟩ := (HBb.out.ext X0.out).cells
    rw [HL.out] at b0
    go_wp2_with fail
    refine (HUb.out _ (XW.out.trans X0.out)).out.mono ?_
    rintro e w1 ⟨rfl, hx1⟩
    have X1 : Hid (Ext W w1) := hide (X0.out.trans hx1)
    clear hx1 a0 a1 a2 a3 b0 b1 b2 b3
    obtain ⟨a0, a1, a2, a3⟩ := (HBa.out.ext X1.out).cells
    obtain ⟨b0, b1, b2, b3⟩ := (HBb.out.ext X1.out).cells
    rw [HL.out] at b0
    go_wp2_with fail
    refine (HMa.out _ (XW.out.trans X1.out)).out.mono ?_
    rintro e w2 ⟨rfl, hx2⟩
    have X2 : Hid (Ext W w2) := hide (X1.out.trans hx2)
    clear hx2 a0 a1 a2 a3 b0 b1 b2 b3
    obtain ⟨a0, a1, a2, a3⟩ := (HBa.out.ext X2.out).cells
    obtain ⟨b0, b1, b2, b3⟩ := (HBb.out.ext X2.out).cells
    rw [HL.out] at b0
    go_wp2_with fail
    refine (HMb.out _ (XW.out.trans X2.out)).out.mono ?_
    rintro e w3 ⟨rfl, hx3⟩
    have X3 : Hid (Ext W w3) := hide (X2.out.trans hx3)
    clear hx3 a0 a1 a2 a3 b0 b1 b2 b3
    obtain ⟨a0, a1, a2, a3⟩ := (HBa.out.ext X3.out).cells
    obtain ⟨b0, b1, b2, b3⟩ := (HBb.out.ext X3.out).cells
    rw [HL.out] at b0
    go_wp2
    go_ret
    exact ⟨rfl, XW.out.trans X3.out⟩
  subst h3
  have HR : Hid (R = eqP a.ty.pure (putP b.vars (a.vars.map varT) b.ty)) := hide (by rw [HP.out]; simp)
  clear HP
  clear a0 a1 a2 a3 b0 b1 b2 b3
  obtain ⟨a0, a1, a2, a3⟩ := HBa.out.cells
  obtain ⟨b0, b1, b2, b3⟩ := HBb.out.cells
  rw [HL.out] at b0
  go_enter Tryz.func13, Tryz.ntmps13
  go_upto_region 1 with fail
  rw [HW.out]
  go_wp2_with fail
  refine (HUa.out _ (XW.out)).out.mono ?_
  rintro e w0 ⟨rfl, hx0⟩
  have X0 : Hid (Ext W w0) := hide (hx0)
  clear hx0 a0 a1 a2 a3 b0 b1 b2 b3
  obtain ⟨a0, a1, a2, a3⟩ := (HBa.out.ext X0.out).cells
  obtain ⟨b0, b1, b2, b3⟩ := (HBb.out.ext X0.out).cells
  rw [HL.out] at b0
  go_wp2_with fail
  refine (HUb.out _ (XW.out.trans X0.out)).out.mono ?_
  rintro e w1 ⟨rfl, hx1⟩
  have X1 : Hid (Ext W w1) := hide (X0.out.trans hx1)
  clear hx1 a0 a1 a2 a3 b0 b1 b2 b3
  obtain ⟨a0, a1, a2, a3⟩ := (HBa.out.ext X1.out).cells
  obtain ⟨b0, b1, b2, b3⟩ := (HBb.out.ext X1.out).cells
  rw [HL.out] at b0
  go_wp2_with fail
  refine (HMa.out _ (XW.out.trans X1.out)).out.mono ?_
  rintro e w2 ⟨rfl, hx2⟩
  have X2 : Hid (Ext W w2) := hide (X1.out.trans hx2)
  clear hx2 a0 a1 a2 a3 b0 b1 b2 b3
  obtain ⟨a0, a1, a2, a3⟩ := (HBa.out.ext X2.out).cells
  obtain ⟨b0, b1, b2, b3⟩ := (HBb.out.ext X2.out).cells
  rw [HL.out] at b0
  go_wp2_with fail
  refine (HMb.out _ (XW.out.trans X2.out)).out.mono ?_
  rintro e w3 ⟨rfl, hx3⟩
  have X3 : Hid (Ext W w3) := hide (X2.out.trans hx3)
  clear hx3 a0 a1 a2 a3 b0 b1 b2 b3
  obtain ⟨a0, a1, a2, a3⟩ := (HBa.out.ext X3.out).cells
  obtain ⟨b0, b1, b2, b3⟩ := (HBb.out.ext X3.out).cells
  rw [HL.out] at b0
  have X4 := hide (XW.out.trans X3.out)
  have hszw : W.heap.size ≤ w3.heap.size := X3.out.size
  have hlt0 := HBb.out.lt
  have hmk := make_zeros a.vars.length (by omega) w3
  obtain ⟨w4, hw4⟩ : ∃ w4, w4 = w3.alloc (.cells (zerosT a.vars.length) 25) := ⟨_, rfl⟩
  have X5 : Hid (Ext w3 w4) := hide (by rw [hw4]; exact (Ext.refl _).alloc _)
  have HK : Hid (w4.heap[w3.heap.size]? = some (.cells (rowT [] a.vars.length) 25 (0, 0))) := hide (by rw [hw4]; exact at_newB _ _ _ rfl)
  rw [← hw4] at hmk
  clear hw4
  obtain ⟨e0, e1, e2, e3⟩ := (HBa.out.ext (X3.out.trans X5.out)).cells
  go_wp2
  go_loopw [46] (fun i wr => ∃ k : Nat, k ≤ a.vars.length ∧ i = .int .i64 k ∧ Hid (Ext w3 wr) ∧ Hid (wr.heap[w3.heap.size]? = some (.cells (rowT ((a.vars.take k).map varT) (a.vars.length - k)) 25 (0, 0)))) (fun i _ => a.vars.length - (intOf i).toNat)
  case atStart => exact ⟨0, Nat.zero_le _, rfl, X5, HK⟩
  case round =>
    obtain ⟨k, hk, rfl, HX, HRw⟩ := hrel
    by_cases hlt : k < a.vars.length
    · have hlt' : (k : Int) < (a.vars.length : Int) := by omega
      have hk0 : (0 : Int) ≤ (k : Int) := by omega
      obtain ⟨bb, o, hA, hbb, q0⟩ := Ints.at_ (RowOf.ext intC HA.out.row (X4.out.trans HX.out)) hlt
      have Htk : Hid ((a.vars.take (k + 1)).map varT = (a.vars.take k).map varT ++ [varT (a.vars[k]'hlt)]) := hide (by rw [List.take_succ_eq_append_getElem hlt, List.map_append]; rfl)
      obtain ⟨m, hm⟩ : ∃ m, a.vars.length - k = m + 1 := ⟨a.vars.length - k - 1, by omega⟩
      have hm2 : a.vars.length - (k + 1) = m := by omega
      have hus : ((a.vars.take k).map varT).length = k := by rw [List.length_map, List.length_take]; omega
      rw [hm] at HRw
      generalize a.vars[k]'hlt = v at *
      generalize (a.vars.take k).map varT = us at *
      have f1 := free_block HRw.out (us.length * 3 + 1)
      have k1 := (bytes_block HRw.out (us.length * 3 + 1)).trans (row_at3 us m).2.1
      have HRn := hide (blk_setCell HRw.out (us.length * 3 + 1) (.int .i64 v))
      rw [set1] at HRn
      have Xn := hide (HX.out.setCell (p := ⟨w3.heap.size, us.length * 3 + 1, none⟩) (Nat.le_refl _) (.int .i64 v))
      rw [hus] at f1 k1 HRn Xn
      rw [hA]
      clear hA hus
      go_wp2
      go_roundw
      case rel => exact ⟨k + 1, hlt, by go_num, Xn, hide (by rw [hm2, Htk.out]; exact HRn.out)⟩
      case measure => simp [intOf]; omega
    · have hge : ¬ (k : Int) < (a.vars.length : Int) := by omega
      have hkn : k = a.vars.length := by omega
      have XR := hide (X3.out.trans HX.out)
      have XRw := hide (XW.out.trans XR.out)
      have hrow : wr.heap[w3.heap.size]? = some (.cells ((a.vars.map varT).flatMap tyC.f).toArray 25 (0, 0)) := by
        have := HRw.out
        rw [hkn, Nat.sub_self, row_done, List.take_length] at this
        exact this
      have HT := hide (varsT_in wr _ _ (RowOf.block tyC _ hrow))
      have hlm : (a.vars.map varT).length = a.vars.length := List.length_map _
      have HPut := hide (fun w' (e : Ext wr w') => hide (f_put b.A (some ⟨w3.heap.size, 0, none⟩) b.cap a.vars.length b.vars (a.vars.map varT) (by rw [HL.out]; omega) b.ty w' (HB.out.ty.ext (XRw.out.trans e)) (RowOf.ext intC HB.out.row (XRw.out.trans e)) (HT.out.ext e) (by omega)))
      rw [hlm, HL.out] at HPut
      clear hrow hkn hlm HRw
      have HS := hide (fun w' (e : Ext wr w') => by
        have g1 := (HBa.out.ext (XR.out.trans e)).cells
        have g2 := (HBb.out.ext (XR.out.trans e)).cells
        rw [HL.out] at g2
        exact And.intro g1.2.1 (And.intro g1.2.2.1 (And.intro g1.2.2.2 (And.intro g2.1 (And.intro g2.2.1 (And.intro g2.2.2.1 g2.2.2.2))))))
      obtain ⟨g1, g2, g3, g4, g5, g6, g7⟩ := HS.out wr (Ext.refl _)
      unfold tyV at HPut
      have HSm := hide (fun (u : Ty) w' (e : Ext wr w') (hu : TyIn w' u) => hide (t_same a.ty u w' (HA.out.ty.ext (XRw.out.trans e)) hu))
      unfold tyV at HSm
      go_wp2
      go_region_held3 (fun w' => w'.cell? ⟨w.heap.size, 1, none⟩ = some (encStr a.ty.con) ∧ w'.cell? ⟨w.heap.size, 2, none⟩ = some (.int .i64 a.ty.var) ∧ w'.cell? ⟨w.heap.size, 3, none⟩ = some (.slice a.ty.A a.ty.args.length a.ty.cap) ∧ w'.cell? ⟨w.heap.size + 1, 0, none⟩ = some (.slice b.A a.vars.length b.cap) ∧ w'.cell? ⟨w.heap.size + 1, 1, none⟩ = some (encStr b.ty.con) ∧ w'.cell? ⟨w.heap.size + 1, 2, none⟩ = some (.int .i64 b.ty.var) ∧ w'.cell? ⟨w.heap.size + 1, 3, none⟩ = some (.slice b.ty.A b.ty.args.length b.ty.cap)) (first | assumption | go_keep) (first
        | (go_at_call 36
           with_reducible refine Calls.mono (HPut.out _ ((Ext.refl _).drew)).out ?_
           rintro e w5 ⟨⟨u, rfl, hu⟩, hx5⟩
           have X5' := hide (((Ext.refl wr).drew).trans hx5)
           have HU := hide hu
           have k5 := HS.out _ X5'.out
           clear hx5 hu)
        | (go_at_call 51
           with_reducible refine Calls.mono (HSm.out _ _ X5'.out HU.out.ty).out ?_
           rintro e w6 ⟨rfl, hx6⟩
           have X6 := hide (X5'.out.trans hx6)
           have k6 := HS.out _ X6.out
           clear hx6))
      clear k5 k6
      go_wp2
      go_ret
      exact ⟨by rw [HR.out, ← eqP_same HU.out.is]; rfl, XRw.out.trans X6.out⟩

end Go.Proofs.YtifbkknijialgaaGreat
