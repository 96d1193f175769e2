/- Contracts: are predicates, classes, instances, data not too great or too many; what is declared. -/
import Derived.Test.YtnomibjbjplieaaGreatJC35
/- Contracts: are predicates, classes, instances, data not too great or too many; what is declared. -/
namespace Go.Proofs.YtnomibjbjplieaaGreat
open Go.RowKit

set_option maxRecDepth 10000 in
set_option maxHeartbeats 4000000 in
theorem l_few20 (A : Option Addr) (cap : Nat) (l : List Pd) (w : World) (h : PdsIn w A l) : Calls Tryz.prog 73 #[.slice A l.length cap] w fun e w' => (∃ r : Int, e = .returned (.int .i64 r) ∧ (r = 0 ∨ (r = 1 ∧ l.length ≤ 30 ∧ psz l ≤ 20000))) ∧ Ext w w' := by
  obtain ⟨i1, hj, hy0, hy1, hy2⟩ := info_parts ty_info3
  have HP : Hid (tsizes (l.map Pd.ty) = psz l) := hide (by unfold tsizes psz; simp [Function.comp_def])
  have H := hide h
  clear h
  by_cases hn : (30 : Int) < (l.length : Int)
  · go_enter Tryz.func73, Tryz.ntmps73
    go_wp2
    go_ret
    exact ⟨⟨0, rfl, .inl rfl⟩, Ext.refl _⟩
  have hn' : (l.length : Int) ≤ 30 := by omega
  go_enter Tryz.func73, Tryz.ntmps73
  go_wp2
  go_loopw [3, 4] (fun v i wr => ∃ k : Nat, k ≤ l.length ∧ i = .int .i64 k ∧ Hid (Ext w wr) ∧ Hid (wr.ownsRow w.heap.size 32 3 v ((l.take k).map Pd.ty).length (((l.take k).map Pd.ty).flatMap tyC.f))) (fun _ i _ => l.length - (intOf i).toNat)
  case atStart => exact ⟨0, Nat.zero_le _, rfl, hide (Ext.refl _), hide (World.ownsRow_nil _ _ _ _)⟩
  case round =>
    obtain ⟨k, hk, rfl, HX, HO⟩ := hrel
    by_cases hlt : k < l.length
    · have hlt' : (k : Int) < (l.length : Int) := by omega
      have hk0 : (0 : Int) ≤ (k : Int) := by omega
      obtain ⟨b, o, rfl, hb, q0, q1, q2, q3⟩ := (H.out.ext HX.out).at_ hlt
      have Htk : Hid ((l.take (k + 1)).map Pd.ty = (l.take k).map Pd.ty ++ [(l[k]'hlt).ty]) := hide (by rw [List.take_succ_eq_append_getElem hlt, List.map_append]; rfl)
      have hLk : ((l.take k).map Pd.ty).length ≤ 30 := by simp; omega
      generalize l[k]'hlt = x at *
      generalize (l.take k).map Pd.ty = L at *
      obtain ⟨A6, c6, rfl, -, -, -, -⟩ := RowOf.own tyC (l := L) HO.out
      have hszB := HX.out.size
      go_wp2_with (at_builtin; refine wpList_append_row _ rfl _ _ 30 rfl w.heap.size 32 i1 _ 3 48 Tryz.underlying30 hj hy0 hy1 hy2 rfl (by decide) (.slice A6 L.length c6) L.length (L.flatMap tyC.f) rfl (HO.out.alloc _) _ 1 1 [encStr x.ty.con, .int .i64 x.ty.var, .slice x.ty.A x.ty.args.length x.ty.cap] rfl ?c2 ?c3 ?c4 ?c5 ?c6 ?_)
      case c2 => exact Row.ty3 _ _ _ (at_newB _ _ _ rfl)
      case c3 =>
        intro y hy
        simp at hy
        rcases hy with rfl | rfl | rfl <;> rfl
      case c4 => unfold maxLen; omega
      case c5 => omega
      case c6 => simp; omega
      intro v4 w4 hown4 hg4 hat4
      have X4 := hide (Ext.app (HX.out.alloc _) hg4 (HO.out.alloc _) (Nat.le_refl _))
      have O4 : Hid (w4.ownsRow w.heap.size 32 3 v4 ((l.take (k + 1)).map Pd.ty).length (((l.take (k + 1)).map Pd.ty).flatMap tyC.f)) := hide (by rw [Htk.out, flat_snoc, List.length_append]; exact hown4)
      clear hown4 hg4 hat4
      go_wp2
      go_roundw
      case rel => exact ⟨k + 1, hlt, by go_num, X4, O4⟩
      case measure => simp [intOf]; omega
    · have hge : ¬ (k : Int) < (l.length : Int) := by omega
      have HO2 : Hid (wr.ownsRow w.heap.size 32 3 u3 (l.map Pd.ty).length ((l.map Pd.ty).flatMap tyC.f)) := hide (by have := HO.out; rwa [List.take_of_length_le (by omega)] at this)
      have hL : (l.map Pd.ty).length ≤ 30 := by simp; omega
      have hTs : ∀ t ∈ l.map Pd.ty, TyIn wr t := by
        intro t ht
        obtain ⟨p, hp, rfl⟩ := List.mem_map.1 ht
        exact (H.out.all p hp).ty.ext HX.out
      have hln : l.length ≤ 30 := by omega
      have HR0 : Hid (∀ r : Int, (r = 0 ∨ (r = 1 ∧ tsizes (l.map Pd.ty) ≤ 20000)) → (r = 0 ∨ (r = 1 ∧ l.length ≤ 30 ∧ psz l ≤ 20000))) := hide (by
        rintro r (rfl | ⟨rfl, h⟩)
        · exact .inl rfl
        · exact .inr ⟨rfl, hln, by rw [← HP.out]; exact h⟩)
      generalize l.map Pd.ty = L at *
      obtain ⟨A6, c6, rfl, d1, d2, d3, -⟩ := RowOf.own tyC (l := L) HO2.out
      have HF := hide (l_few16 A6 c6 L wr ⟨d3, hTs⟩ (by omega))
      clear hTs d3
      go_wp2_with fail
      refine HF.out.mono ?_
      rintro e w5 ⟨⟨r, rfl, hr⟩, hx⟩
      have HR := hide (HR0.out r (hr.imp id (fun h => ⟨h.1, h.2.1⟩)))
      clear hr
      go_wp2
      go_ret
      exact ⟨⟨r, rfl, HR.out⟩, HX.out.trans hx⟩

set_option maxRecDepth 10000 in
set_option maxHeartbeats 4000000 in
theorem l_few23 (A : Option Addr) (cap : Nat) (l : List InD) (w : World) (h : InsIn w A l) : Calls Tryz.prog 46 #[.slice A l.length cap] w fun e w' => (∃ r : Int, e = .returned (.int .i64 r) ∧ (r = 0 ∨ (r = 1 ∧ l.length ≤ 12 ∧ ∀ x ∈ l, x.preds.length ≤ 30 ∧ psz x.preds ≤ 20000 ∧ x.n ≤ 200))) ∧ Ext w w' := by
  have H := hide h
  clear h
  by_cases hn : (12 : Int) < (l.length : Int)
  · go_enter Tryz.func46, Tryz.ntmps46
    go_wp2
    go_ret
    exact ⟨⟨0, rfl, .inl rfl⟩, Ext.refl _⟩
  have hn' : (l.length : Int) ≤ 12 := by omega
  go_enter Tryz.func46, Tryz.ntmps46
  go_wp2
  go_loopw [3] (fun i wr => ∃ k : Nat, k ≤ l.length ∧ i = .int .i64 k ∧ Hid (Ext w wr) ∧ Hid (∀ j (h : j < l.length), j < k → (l[j]'h).preds.length ≤ 30 ∧ psz (l[j]'h).preds ≤ 20000 ∧ (l[j]'h).n ≤ 200)) (fun i _ => l.length - (intOf i).toNat)
  case atStart => exact ⟨0, Nat.zero_le _, rfl, hide (Ext.refl _), hide (fun j _ hj => absurd hj (by omega))⟩
  case round =>
    obtain ⟨k, hk, rfl, HX, HJ⟩ := hrel
    by_cases hlt : k < l.length
    · have hlt' : (k : Int) < (l.length : Int) := by omega
      have hk0 : (0 : Int) ≤ (k : Int) := by omega
      obtain ⟨b, o, rfl, hb, q0, q1, q2, q3⟩ := (H.out.ext HX.out).at_ hlt
      have HF := hide (l_few20 (l[k]'hlt).A (l[k]'hlt).cap (l[k]'hlt).preds wr ((H.out.all _ (List.getElem_mem hlt)).row.ext HX.out))
      have HS : Hid ((l[k]'hlt).preds.length ≤ 30 → psz (l[k]'hlt).preds ≤ 20000 → (l[k]'hlt).n ≤ 200 → ∀ j (h : j < l.length), j < k + 1 → (l[j]'h).preds.length ≤ 30 ∧ psz (l[j]'h).preds ≤ 20000 ∧ (l[j]'h).n ≤ 200) := hide (fun h1 h2 h3 j hj hjk => by
        by_cases e : j = k
        · subst e; exact ⟨h1, h2, h3⟩
        · exact HJ.out j hj (by omega))
      generalize l[k]'hlt = x at *
      go_wp2_with fail
      refine HF.out.mono ?_
      rintro e w2 ⟨⟨r, rfl, hr⟩, hx⟩
      have X2 := hide (HX.out.trans hx)
      have q2' := hx.cell q2
      have hb2 : b < w2.heap.size := by have := hx.size; omega
      rcases hr with rfl | ⟨rfl, h1, h2⟩
      · go_wp2
        go_ret
        exact ⟨⟨0, rfl, .inl rfl⟩, X2.out⟩
      · have h1' := hide h1
        have h2' := hide h2
        clear hx h1 h2
        by_cases h3 : (200 : Int) < x.n
        · go_wp2
          go_ret
          exact ⟨⟨0, rfl, .inl rfl⟩, X2.out⟩
        · have h3' : x.n ≤ 200 := by omega
          go_wp2
          go_roundw
          case rel => exact ⟨k + 1, hlt, by go_num, X2, hide (HS.out h1'.out h2'.out h3')⟩
          case measure => simp [intOf]; omega
    · have hge : ¬ (k : Int) < (l.length : Int) := by omega
      have HA : Hid (l.length ≤ 12 ∧ ∀ x ∈ l, x.preds.length ≤ 30 ∧ psz x.preds ≤ 20000 ∧ x.n ≤ 200) := hide ⟨by omega, fun x hx => by
        obtain ⟨i, hi, rfl⟩ := List.getElem_of_mem hx
        exact HJ.out i hi (by omega)⟩
      go_wp2
      go_ret
      exact ⟨⟨1, rfl, .inr ⟨rfl, HA.out⟩⟩, HX.out⟩

set_option maxRecDepth 10000 in
set_option maxHeartbeats 2000000 in
theorem k_few22 (A : Option Addr) (cap : Nat) (l : List KlD) (w : World) (h : KlsIn w A l) : Calls Tryz.prog 45 #[.slice A l.length cap] w fun e w' => (∃ r : Int, e = .returned (.int .i64 r) ∧ (r = 0 ∨ (r = 1 ∧ l.length ≤ 9 ∧ ∀ x ∈ l, x.sups.length ≤ 9))) ∧ Ext w w' := by
  have H := hide h
  clear h
  by_cases hn : (9 : Int) < (l.length : Int)
  · go_enter Tryz.func45, Tryz.ntmps45
    go_wp2
    go_ret
    exact ⟨⟨0, rfl, .inl rfl⟩, Ext.refl _⟩
  have hn' : (l.length : Int) ≤ 9 := by omega
  go_enter Tryz.func45, Tryz.ntmps45
  go_wp2
  go_loopw [3] (fun i wr => ∃ k : Nat, k ≤ l.length ∧ i = .int .i64 k ∧ Hid (Ext w wr) ∧ Hid (∀ j (h : j < l.length), j < k → (l[j]'h).sups.length ≤ 9)) (fun i _ => l.length - (intOf i).toNat)
  case atStart => exact ⟨0, Nat.zero_le _, rfl, hide (Ext.refl _), hide (fun j _ hj => absurd hj (by omega))⟩
  case round =>
    obtain ⟨k, hk, rfl, HX, HJ⟩ := hrel
    by_cases hlt : k < l.length
    · have hlt' : (k : Int) < (l.length : Int) := by omega
      have hk0 : (0 : Int) ≤ (k : Int) := by omega
      obtain ⟨b, o, rfl, hb, q0, q1, q2⟩ := (H.out.ext HX.out).at_ hlt
      have HS : Hid ((l[k]'hlt).sups.length ≤ 9 → ∀ j (h : j < l.length), j < k + 1 → (l[j]'h).sups.length ≤ 9) := hide (fun h1 j hj hjk => by
        by_cases e : j = k
        · subst e; exact h1
        · exact HJ.out j hj (by omega))
      generalize l[k]'hlt = x at *
      by_cases h3 : (9 : Int) < (x.sups.length : Int)
      · go_wp2
        go_ret
        exact ⟨⟨0, rfl, .inl rfl⟩, HX.out⟩
      · have h3' : (x.sups.length : Int) ≤ 9 := by omega
        go_wp2
        go_roundw
        case rel => exact ⟨k + 1, hlt, by go_num, HX, hide (HS.out (by omega))⟩
        case measure => simp [intOf]; omega
    · have hge : ¬ (k : Int) < (l.length : Int) := by omega
      have HA : Hid (l.length ≤ 9 ∧ ∀ x ∈ l, x.sups.length ≤ 9) := hide ⟨by omega, fun x hx => by
        obtain ⟨i, hi, rfl⟩ := List.getElem_of_mem hx
        exact HJ.out i hi (by omega)⟩
      go_wp2
      go_ret
      exact ⟨⟨1, rfl, .inr ⟨rfl, HA.out⟩⟩, HX.out⟩

set_option maxRecDepth 10000 in
set_option maxHeartbeats 1000000 in
theorem l_few27 (A : Option Addr) (cap : Nat) (n : Nat) (w : World) : Calls Tryz.prog 21 #[.slice A n cap] w fun e w' => (∃ r : Int, e = .returned (.int .i64 r) ∧ (r = 0 ∨ (r = 1 ∧ n ≤ 20))) ∧ Ext w w' := by
  by_cases hn : (20 : Int) < (n : Int)
  · go_enter Tryz.func21, Tryz.ntmps21
    go_wp2
    go_ret
    exact ⟨⟨0, rfl, .inl rfl⟩, Ext.refl _⟩
  · have hn' : (n : Int) ≤ 20 := by omega
    have hn2 : n ≤ 20 := by omega
    go_enter Tryz.func21, Tryz.ntmps21
    go_wp2
    go_ret
    first | exact ⟨⟨1, rfl, .inr ⟨rfl, hn2⟩⟩, Ext.refl _⟩ | exact ⟨⟨1, rfl, .inr rfl⟩, Ext.refl _⟩

/-- Classes and instances that are not too many. -/
structure FewE (x : EnD) : Prop where
  cls : x.classes.length ≤ 9
  sups : ∀ c ∈ x.classes, c.sups.length ≤ 9
  ins : x.insts.length ≤ 12
  pds : ∀ i ∈ x.insts, i.preds.length ≤ 30 ∧ psz i.preds ≤ 20000 ∧ i.n ≤ 200

set_option maxRecDepth 10000 in
set_option maxHeartbeats 2000000 in
theorem l_fewenv (x : EnD) (w : World) (h : EnIn w x) : Calls Tryz.prog 20 #[enV x] w fun e w' => (∃ r : Int, e = .returned (.int .i64 r) ∧ (r = 0 ∨ (r = 1 ∧ FewE x))) ∧ Ext w w' := by
  obtain ⟨W, hW⟩ : ∃ W, W = w.alloc (.cells #[.slice x.D x.datas.length x.dc, .slice x.C x.classes.length x.cc, .slice x.I x.insts.length x.ic] 26) := ⟨_, rfl⟩
  have HW := hide hW.symm
  have X0 : Hid (Ext w W) := hide (by rw [hW]; exact (Ext.refl _).alloc _)
  have B1 : Hid (EnBox W w.heap.size x) := hide (by rw [hW]; exact EnBox.new w x)
  have HK := hide (k_few22 x.C x.cc x.classes W (h.classes.ext X0.out))
  have HI := hide (fun w' (e : Ext W w') => l_few23 x.I x.ic x.insts w' (h.insts.ext (X0.out.trans e)))
  obtain ⟨c0, c1, c2⟩ := B1.out.cells
  have hb := B1.out.lt
  clear h hW
  unfold enV
  go_enter Tryz.func20, Tryz.ntmps20
  go_upto_region 1 with fail
  rw [HW.out]
  go_wp2_with fail
  refine HK.out.mono ?_
  rintro e w2 ⟨⟨r, rfl, hr⟩, hx⟩
  have X2 := hide (X0.out.trans hx)
  rcases hr with rfl | ⟨rfl, h1, h2⟩
  · go_wp2
    go_ret
    exact ⟨⟨0, rfl, .inl rfl⟩, X2.out⟩
  · have H1 := hide h1
    have H2 := hide h2
    have HI2 := hide (HI.out w2 hx)
    have d2 := hx.cell c2
    have hb2 : w.heap.size < w2.heap.size := by have := hx.size; omega
    clear h1 h2 hx
    go_wp2_with fail
    refine HI2.out.mono ?_
    rintro e w3 ⟨⟨r, rfl, hr⟩, hx3⟩
    have X3 := hide (X2.out.trans hx3)
    rcases hr with rfl | ⟨rfl, h3, h4⟩
    · go_wp2
      go_ret
      exact ⟨⟨0, rfl, .inl rfl⟩, X3.out⟩
    · have H3 := hide h3
      have H4 := hide h4
      clear h3 h4
      go_wp2
      go_ret
      exact ⟨⟨1, rfl, .inr ⟨rfl, H1.out, H2.out, H3.out, H4.out⟩⟩, X3.out⟩

end Go.Proofs.YtnomibjbjplieaaGreat

/- Contract: is what is declared not too great? -/
namespace Go.Proofs.YtnomibjbjplieaaGreat
open Go.RowKit

theorem one_tyL (l : List Ty) : ∀ u ∈ l.flatMap tyC.f, u.oneCell' = true := by
  intro u hu
  obtain ⟨x, -, hx⟩ := List.mem_flatMap.1 hu
  simp [tyC, Ty.cells] at hx
  rcases hx with rfl | rfl | rfl <;> rfl
/-- All types of constructors. -/
def coL (l : List CoD) : List Ty := l.flatMap CoD.types
def daL (l : List DaD) : List Ty := l.flatMap fun d => coL d.cons
def meL (l : List MeD) : List Ty := l.map MeD.ty
def klL (l : List KlD) : List Ty := l.flatMap fun c => meL c.meths
theorem coL_take (l : List CoD) {k : Nat} (h : k < l.length) : coL (l.take (k + 1)) = coL (l.take k) ++ (l[k]'h).types := by
  unfold coL; rw [List.take_succ_eq_append_getElem h, List.flatMap_append]; simp
theorem daL_take (l : List DaD) {k : Nat} (h : k < l.length) : daL (l.take (k + 1)) = daL (l.take k) ++ coL (l[k]'h).cons := by
  unfold daL; rw [List.take_succ_eq_append_getElem h, List.flatMap_append]; simp
theorem meL_take (l : List MeD) {k : Nat} (h : k < l.length) : meL (l.take (k + 1)) = meL (l.take k) ++ [(l[k]'h).ty] := by
  unfold meL; rw [List.take_succ_eq_append_getElem h, List.map_append]; rfl
theorem klL_take (l : List KlD) {k : Nat} (h : k < l.length) : klL (l.take (k + 1)) = klL (l.take k) ++ meL (l[k]'h).meths := by
  unfold klL; rw [List.take_succ_eq_append_getElem h, List.flatMap_append]; simp
theorem tsz_app (l m : List Ty) : tsizes (l ++ m) = tsizes l + tsizes m := by unfold tsizes; rw [List.map_append, List.sum_append]
theorem tsz_flat {α : Type} (f : α → List Ty) {x : α} : ∀ {l : List α}, x ∈ l → tsizes (f x) ≤ tsizes (l.flatMap f) := by
  intro l
  induction l with
  | nil => intro h; cases h
  | cons y l ih =>
    intro h
    rw [List.flatMap_cons, tsz_app]
    rcases List.mem_cons.1 h with rfl | h
    · omega
    · have := ih h; omega
theorem tsz_mem {x : Ty} : ∀ {l : List Ty}, x ∈ l → x.size ≤ tsizes l := by
  intro l
  induction l with
  | nil => intro h; cases h
  | cons y l ih =>
    intro h
    have e : tsizes (y :: l) = y.size + tsizes l := rfl
    rcases List.mem_cons.1 h with rfl | h
    · omega
    · have := ih h; omega

/-- Not too great, all of it. -/
structure EnFew (x : EnD) : Prop where
  env : FewE x
  ds : x.datas.length ≤ 20
  da : ∀ d ∈ x.datas, DaFew d
  kl : ∀ c ∈ x.classes, c.meths.length ≤ 30 ∧ ∀ m ∈ c.meths, m.n ≤ 100 ∧ m.ty.size ≤ 20000
theorem EnFew.klFew {x : EnD} (h : EnFew x) : ∀ c ∈ x.classes, KlFew c := fun c hc => ⟨by have := h.env.sups c hc; omega, by have := (h.kl c hc).1; omega, (h.kl c hc).2⟩
theorem EnFew.pds {x : EnD} (h : EnFew x) : ∀ i ∈ x.insts, i.preds.length ≤ 1000 := fun i hi => by have := (h.env.pds i hi).1; omega
/-- A datum, but for its types. -/
def DaNo (d : DaD) : Prop := d.n ≤ 100 ∧ d.cons.length ≤ 30 ∧ ∀ c ∈ d.cons, c.types.length ≤ 30
def KlNo (c : KlD) : Prop := c.meths.length ≤ 30 ∧ ∀ m ∈ c.meths, m.n ≤ 100
theorem EnFew.of {x : EnD} (h1 : FewE x) (h2 : x.datas.length ≤ 20) (h3 : ∀ j (h : j < x.datas.length), DaNo (x.datas[j]'h)) (h4 : ∀ j (h : j < x.classes.length), KlNo (x.classes[j]'h)) (h5 : tsizes (daL x.datas ++ klL x.classes) ≤ 20000) : EnFew x := by
  rw [tsz_app] at h5
  refine ⟨h1, h2, fun d hd => ?_, fun c hc => ?_⟩
  · obtain ⟨j, hj, rfl⟩ := List.getElem_of_mem hd
    obtain ⟨a, b, c⟩ := h3 j hj
    refine ⟨a, b, fun y hy => ⟨c y hy, ?_⟩⟩
    have g1 : tsizes (coL (x.datas[j]'hj).cons) ≤ tsizes (daL x.datas) := tsz_flat (fun d : DaD => coL d.cons) hd
    have g2 : tsizes y.types ≤ tsizes (coL (x.datas[j]'hj).cons) := tsz_flat CoD.types hy
    show tsizes y.types ≤ 20000
    omega
  · obtain ⟨j, hj, rfl⟩ := List.getElem_of_mem hc
    obtain ⟨a, b⟩ := h4 j hj
    refine ⟨a, fun m hm => ⟨b m hm, ?_⟩⟩
    have g1 : tsizes (meL (x.classes[j]'hj).meths) ≤ tsizes (klL x.classes) := tsz_flat (fun c : KlD => meL c.meths) hc
    have g2 : m.ty.size ≤ tsizes (meL (x.classes[j]'hj).meths) := tsz_mem (List.mem_map.2 ⟨m, hm, rfl⟩)
    omega

/-- While types are brought together. -/
structure TyRow (B : Nat) (w wr : World) (v : Value) (L : List Ty) : Prop where
  x : Ext w wr
  own : wr.ownsRow B 32 3 v L.length (L.flatMap tyC.f)
theorem TyRow.to {B : Nat} {w wr w' : World} {v : Value} {L : List Ty} (h : TyRow B w wr v L) (e : Ext wr w') : TyRow B w w' v L := ⟨h.x.trans e, own_extB h.own e⟩

/-- A datum in its box, and the row lies not there. -/
structure DBx (g : Nat) (d : DaD) (wr : World) (v : Value) : Prop where
  box : DaBox wr g d
  ne : v.ownBlock ≠ some g
theorem DBx.app {g : Nat} {d : DaD} {wr w' : World} {v v' : Value} (h : DBx g d wr v) (hg : wr.grownBy w' v.ownBlock) (ha : v'.ownBlock = v.ownBlock ∨ v'.ownBlock = some wr.heap.size) : DBx g d w' v' := by
  have hl := h.box.lt
  refine ⟨(hg.block g hl (fun e => h.ne e.symm)).trans h.box, fun e => ?_⟩
  rcases ha with ha | ha
  · exact h.ne (ha ▸ e)
  · rw [ha] at e
    injection e with e
    omega

set_option maxRecDepth 10000 in
set_option maxHeartbeats 8000000 in
theorem l_few33 (x : EnD) (w : World) (h : EnIn w x) (hms : ∀ c ∈ x.classes, c.meths.length ≤ 2000000000000) : Calls Tryz.prog 5 #[enV x] w fun e w' => (∃ r : Int, e = .returned (.int .i64 r) ∧ (r = 0 ∨ (r = 1 ∧ EnFew x))) ∧ Ext w w' := by
  obtain ⟨i1, hj, hy0, hy1, hy2⟩ := info_parts ty_info3
  obtain ⟨W, hW⟩ : ∃ W, W = w.alloc (.cells #[.slice x.D x.datas.length x.dc, .slice x.C x.classes.length x.cc, .slice x.I x.insts.length x.ic] 26) := ⟨_, rfl⟩
  have HW := hide hW.symm
  have X0 : Hid (Ext w W) := hide (by rw [hW]; exact (Ext.refl _).alloc _)
  have B1 : Hid (EnBox W w.heap.size x) := hide (by rw [hW]; exact EnBox.new w x)
  have HE := hide (l_fewenv x W (h.ext X0.out))
  have HD := hide h.datas
  have HK := hide h.classes
  have HMs := hide hms
  have HOf := hide (@EnFew.of x)
  have HAllT : Hid (∀ t ∈ daL x.datas ++ klL x.classes, TyIn w t) := hide (fun t ht => by
    rcases List.mem_append.1 ht with ht | ht
    · obtain ⟨d, hd, ht⟩ := List.mem_flatMap.1 ht
      obtain ⟨c, hc, ht⟩ := List.mem_flatMap.1 ht
      exact ((h.datas.all d hd).row.all c hc).row.args t ht
    · obtain ⟨c, hc, ht⟩ := List.mem_flatMap.1 ht
      obtain ⟨m, hm, rfl⟩ := List.mem_map.1 ht
      exact ((h.classes.all c hc).row.all m hm).row)
  obtain ⟨c0, c1, c2⟩ := B1.out.cells
  have hb := B1.out.lt
  have hdm := h.dmax
  have hdl := h.dle
  have hkm := h.cmax
  have hkl := h.cle
  clear h hW hms
  unfold enV at *
  go_enter Tryz.func5, Tryz.ntmps5
  go_upto_region 1 with fail
  rw [HW.out]
  clear HW
  go_wp2_with fail
  refine HE.out.mono ?_
  rintro e w2 ⟨⟨r, rfl, hr⟩, hx⟩
  have X2 := hide (X0.out.trans hx)
  have Y2 := hide hx
  rcases hr with rfl | ⟨rfl, hr⟩
  · go_wp2
    go_ret
    exact ⟨⟨0, rfl, .inl rfl⟩, X2.out⟩
  have HF := hide hr
  have d0 := hx.cell c0
  have hb2 : w.heap.size < w2.heap.size := by have := hx.size; omega
  have hcl := hr.cls
  have H27 := hide (l_few27 x.D x.dc x.datas.length w2)
  clear hx hr HE c0 c1 c2
  go_wp2_with fail
  refine H27.out.mono ?_
  rintro e w3 ⟨⟨r, rfl, hr⟩, hx⟩
  have X3 := hide (X2.out.trans hx)
  have Y3 := hide (Y2.out.trans hx)
  rcases hr with rfl | ⟨rfl, hds⟩
  · go_wp2
    go_ret
    exact ⟨⟨0, rfl, .inl rfl⟩, X3.out⟩
  clear hx H27 d0 hb2
  have HBx := hide (fun w' (e : Ext w3 w') => (B1.out.ext (Y3.out.trans e)))
  have R0 : Hid (TyRow w3.heap.size w3 w3 (.slice none 0 0) (daL (x.datas.take 0))) := hide ⟨Ext.refl _, World.ownsRow_nil _ _ _ _⟩
  obtain ⟨n3, hn3⟩ : ∃ n3, n3 = w3.heap.size := ⟨_, rfl⟩
  rw [← hn3] at R0
  have Hn3 := hide hn3
  have hbw : w.heap.size < n3 := by rw [hn3]; exact (HBx.out w3 (Ext.refl _)).lt
  clear hn3
  go_wp2
  go_loopw [3, 4] (fun v i wr => ∃ k : Nat, k ≤ x.datas.length ∧ i = .int .i64 k ∧ Hid (TyRow n3 w3 wr v (daL (x.datas.take k))) ∧ (daL (x.datas.take k)).length ≤ 900 * k ∧ Hid (∀ j (h : j < x.datas.length), j < k → DaNo (x.datas[j]'h))) (fun _ i _ => x.datas.length - (intOf i).toNat)
  case atStart => exact ⟨0, Nat.zero_le _, rfl, R0, by simp [daL], hide (fun j _ hj => absurd hj (by omega))⟩
  case round =>
    obtain ⟨k, hk, rfl, HR, hlen, HJ⟩ := hrel
    obtain ⟨e0, e1, e2⟩ := (HBx.out wr HR.out.x).cells
    have hbr := (HBx.out wr HR.out.x).lt
    by_cases hlt : k < x.datas.length
    · have hlt' : (k : Int) < (x.datas.length : Int) := by omega
      have hk0 : (0 : Int) ≤ (k : Int) := by omega
      obtain ⟨b, o, hA, hb4, q0, q1, q2⟩ := (HD.out.ext (X3.out.trans HR.out.x)).at_ hlt
      have HDk := hide (HD.out.all _ (List.getElem_mem hlt))
      have Htk := hide (daL_take x.datas hlt)
      have HJ2 : Hid (DaNo (x.datas[k]'hlt) → ∀ j (h : j < x.datas.length), j < k + 1 → DaNo (x.datas[j]'h)) := hide (fun h1 j hj hjk => by
        by_cases e : j = k
        · subst e; exact h1
        · exact HJ.out j hj (by omega))
      generalize x.datas[k]'hlt = d at *
      obtain ⟨dn, dk, DA, dcap, cons⟩ := d
      have hdl4 := HDk.out.le
      have hdm4 := HDk.out.max
      simp only [] at *
      obtain ⟨WB, hWB⟩ : ∃ WB, WB = wr.alloc (.cells #[encStr dn, .int .i64 dk, .slice DA cons.length dcap] 55) := ⟨_, rfl⟩
      have HWB := hide hWB.symm
      have XB : Hid (Ext wr WB) := hide (by rw [hWB]; exact (Ext.refl _).alloc _)
      have HBd : Hid (DaBox WB wr.heap.size ⟨dn, dk, DA, dcap, cons⟩) := hide (by rw [hWB]; exact DaBox.new wr ⟨dn, dk, DA, dcap, cons⟩)
      clear hWB
      rw [hA] at e0
      have HLen : Hid ((daL (x.datas.take (k + 1))).length = (daL (x.datas.take k)).length + (coL cons).length) := hide (by rw [Htk.out, List.length_append])
      go_upto_region 8 with fail
      rw [HWB.out]
      obtain ⟨f0, f1, f2⟩ := HBd.out.cells
      have hbB := HBd.out.lt
      have HCo := hide HDk.out.row
      simp only [] at HCo f0 f1 f2
      have HRB := hide (HR.out.to XB.out)
      clear HWB hA q0 q1 q2 e0 e1 e2
      by_cases h1 : (100 : Int) < dk
      · go_wp2
        go_ret
        exact ⟨⟨0, rfl, .inl rfl⟩, X3.out.trans HRB.out.x⟩
      have h1' : dk ≤ 100 := by omega
      by_cases h2 : (30 : Int) < (cons.length : Int)
      · go_wp2
        go_ret
        exact ⟨⟨0, rfl, .inl rfl⟩, X3.out.trans HRB.out.x⟩
      have h2' : (cons.length : Int) ≤ 30 := by omega
      generalize hgb : wr.heap.size = gB at *
      have Hgb := hide hgb
      have hgB : n3 ≤ gB := by have := HR.out.x.size; have := Hn3.out; have := Hgb.out; omega
      clear hgb
      generalize hL : daL (x.datas.take k) = L at *
      clear hL
      have HRB0 : Hid (TyRow n3 w3 WB u3 (L ++ coL (cons.take 0))) := hide (by rw [List.take_zero]; simpa [coL] using HRB.out)
      have HDx : Hid (DBx gB ⟨dn, dk, DA, dcap, cons⟩ WB u3) := hide ⟨HBd.out, fun e => by
        have h1 := (HR.out.own.lt _ e).2
        have h2 := Hgb.out
        omega⟩
      clear HRB HR
      go_wp2
      go_loopw [3, 6] (fun v i wr => ∃ m : Nat, m ≤ cons.length ∧ i = .int .i64 m ∧ Hid (TyRow n3 w3 wr v (L ++ coL (cons.take m))) ∧ Hid (DBx gB ⟨dn, dk, DA, dcap, cons⟩ wr v) ∧ (coL (cons.take m)).length ≤ 30 * m ∧ Hid (∀ j (h : j < cons.length), j < m → (cons[j]'h).types.length ≤ 30)) (fun _ i _ => cons.length - (intOf i).toNat)
      case atStart => exact ⟨0, Nat.zero_le _, rfl, HRB0, HDx, by simp [coL], hide (fun j _ hj => absurd hj (by omega))⟩
      case round =>
        obtain ⟨m, hm, rfl, HS, HY, hml, HI⟩ := hrel
        obtain ⟨f0, f1, f2⟩ := HY.out.box.cells
        have hbY := HY.out.box.lt
        simp only [] at f0 f1 f2
        by_cases hlm : m < cons.length
        · have hlm' : (m : Int) < (cons.length : Int) := by omega
          have hm0 : (0 : Int) ≤ (m : Int) := by omega
          obtain ⟨b2, o2, rfl, hb5, r0, r1⟩ := (HCo.out.ext (X3.out.trans HS.out.x)).at_ hlm
          have HCm := hide ((HCo.out.ext (X3.out.trans HS.out.x)).all _ (List.getElem_mem hlm))
          have Hcl := hide (coL_take cons hlm)
          have HI2 : Hid ((cons[m]'hlm).types.length ≤ 30 → ∀ j (h : j < cons.length), j < m + 1 → (cons[j]'h).types.length ≤ 30) := hide (fun h1 j hj hjk => by
            by_cases e : j = m
            · subst e; exact h1
            · exact HI.out j hj (by omega))
          generalize cons[m]'hlm = c at *
          by_cases h3 : (30 : Int) < (c.types.length : Int)
          · go_wp2
            go_ret
            exact ⟨⟨0, rfl, .inl rfl⟩, X3.out.trans HS.out.x⟩
          have h3' : (c.types.length : Int) ≤ 30 := by omega
          have hle5 := HCm.out.le
          have HTr := hide HCm.out.row.row
          have Hcl2 : Hid (L ++ coL (cons.take (m + 1)) = (L ++ coL (cons.take m)) ++ c.types) := hide (by rw [Hcl.out, List.append_assoc])
          have HclN : Hid ((coL (cons.take (m + 1))).length = (coL (cons.take m)).length + c.types.length) := hide (by rw [Hcl.out, List.length_append])
          have hLM : (L ++ coL (cons.take m)).length ≤ 18900 := by rw [List.length_append]; omega
          generalize hM : L ++ coL (cons.take m) = M at *
          clear hM
          obtain ⟨A6, c6, rfl, -, -, -, -⟩ := RowOf.own tyC (l := M) HS.out.own
          have hszS := HS.out.x.size
          have HOo := hide HS.out.own
          go_wp2_with (at_builtin; refine wpList_append_row _ rfl _ _ 30 rfl n3 32 i1 _ 3 48 Tryz.underlying30 hj hy0 hy1 hy2 rfl (by decide) (.slice A6 M.length c6) M.length (M.flatMap tyC.f) rfl HOo.out c.A c.types.length c.cap (c.types.flatMap tyC.f) rfl ?c2 ?c3 ?c4 ?c5 ?c6 ?_)
          case c2 => exact HTr.out
          case c3 => first | exact one_tyL _ | exact fun u x hx hu => one_tyL c.types u (List.mem_flatMap.2 ⟨x, hx, hu⟩)
          case c4 => unfold maxLen; omega
          case c5 => omega
          case c6 => have := Hn3.out; omega
          intro v4 w4 hown4 hg4 hat4
          have HY4 := hide (HY.out.app hg4 hat4)
          have R4 : Hid (TyRow n3 w3 w4 v4 (L ++ coL (cons.take (m + 1)))) := hide ⟨Ext.app HS.out.x hg4 HOo.out (by have := Hn3.out; omega), by rw [Hcl2.out, List.length_append, List.flatMap_append]; exact hown4⟩
          clear hown4 hg4 hat4
          go_wp2
          go_roundw
          case rel => exact ⟨m + 1, hlm, by go_num, R4, HY4, by have := HclN.out; omega, hide (HI2.out (by omega))⟩
          case measure => simp [intOf]; omega
        · have hge : ¬ (m : Int) < (cons.length : Int) := by omega
          have HNo : Hid (DaNo ⟨dn, dk, DA, dcap, cons⟩) := hide ⟨h1', by show cons.length ≤ 30; omega, fun c hc => by
            obtain ⟨j, hj, rfl⟩ := List.getElem_of_mem hc
            have hj' : j < cons.length := hj
            exact HI.out j hj' (by omega)⟩
          have e9 : cons.take m = cons := List.take_of_length_le (by omega)
          rw [e9] at HS hml
          rw [← Htk.out] at HS
          clear e9
          go_wp2
          go_roundw
          case rel => exact ⟨k + 1, hlt, by go_num, HS, by have := HLen.out; omega, hide (HJ2.out HNo.out)⟩
          case measure => simp [intOf]; omega
    · have hge : ¬ (k : Int) < (x.datas.length : Int) := by omega
      have HJ3 : Hid (∀ j (h : j < x.datas.length), DaNo (x.datas[j]'h)) := hide (fun j hj => HJ.out j hj (by omega))
      have e9 : x.datas.take k = x.datas := List.take_of_length_le (by omega)
      rw [e9] at HR hlen
      have hlD : (daL x.datas).length ≤ 18000 := by omega
      have HRX := hide (HBx.out wr HR.out.x)
      generalize hLD : daL x.datas = L at *
      have HLD := hide hLD
      have S0 : Hid (TyRow n3 w3 wr u3 (L ++ klL (x.classes.take 0))) := hide (by rw [List.take_zero]; simpa [klL] using HR.out)
      clear e9 hlen HJ HR hLD HD
      go_wp2
      rename World => wA
      go_loopw [3, 7] (fun v i wr => ∃ k : Nat, k ≤ x.classes.length ∧ i = .int .i64 k ∧ Hid (TyRow n3 w3 wr v (L ++ klL (x.classes.take k))) ∧ (klL (x.classes.take k)).length ≤ 30 * k ∧ Hid (∀ j (h : j < x.classes.length), j < k → KlNo (x.classes[j]'h))) (fun _ i _ => x.classes.length - (intOf i).toNat)
      case atStart => exact ⟨0, Nat.zero_le _, rfl, S0, by simp [klL], hide (fun j _ hj => absurd hj (by omega))⟩
      case round =>
        obtain ⟨k, hk, rfl, HR, hlen, HJ⟩ := hrel
        obtain ⟨e0, e1, e2⟩ := (HBx.out wr HR.out.x).cells
        have hbr := (HBx.out wr HR.out.x).lt
        by_cases hlt : k < x.classes.length
        · have hlt' : (k : Int) < (x.classes.length : Int) := by omega
          have hk0 : (0 : Int) ≤ (k : Int) := by omega
          obtain ⟨b, o, hA, hb4, q0, q1, q2⟩ := (HK.out.ext (X3.out.trans HR.out.x)).at_ hlt
          have HKk := hide (HK.out.all _ (List.getElem_mem hlt))
          have hmk := HMs.out _ (List.getElem_mem hlt)
          have Htk := hide (klL_take x.classes hlt)
          have HJ2 : Hid (KlNo (x.classes[k]'hlt) → ∀ j (h : j < x.classes.length), j < k + 1 → KlNo (x.classes[j]'h)) := hide (fun h1 j hj hjk => by
            by_cases e : j = k
            · subst e; exact h1
            · exact HJ.out j hj (by omega))
          generalize x.classes[k]'hlt = d at *
          obtain ⟨dn, S, sc, sups, DA, dcap, meths⟩ := d
          have hdl4 := HKk.out.le
          have hdm4 := HKk.out.max
          have HMe := hide HKk.out.row
          simp only [] at *
          rw [hA] at e1
          have HLen : Hid ((klL (x.classes.take (k + 1))).length = (klL (x.classes.take k)).length + meths.length) := hide (by rw [Htk.out, List.length_append]; simp [meL])
          have HRM : Hid (TyRow n3 w3 wr u3 ((L ++ klL (x.classes.take k)) ++ meL (meths.take 0))) := hide (by rw [List.take_zero]; simpa [meL] using HR.out)
          have Htk2 : Hid (L ++ klL (x.classes.take (k + 1)) = (L ++ klL (x.classes.take k)) ++ meL meths) := hide (by rw [Htk.out, List.append_assoc])
          have hLM : (L ++ klL (x.classes.take k)).length ≤ 18300 := by rw [List.length_append]; omega
          generalize hM : L ++ klL (x.classes.take k) = M at *
          clear hM hA
          go_wp2
          go_loopw [3, 9] (fun v i wr => ∃ m : Nat, m ≤ meths.length ∧ i = .int .i64 m ∧ Hid (TyRow n3 w3 wr v (M ++ meL (meths.take m))) ∧ Hid (∀ j (h : j < meths.length), j < m → (meths[j]'h).n ≤ 100)) (fun _ i _ => meths.length - (intOf i).toNat)
          case atStart => exact ⟨0, Nat.zero_le _, rfl, HRM, hide (fun j _ hj => absurd hj (by omega))⟩
          case round =>
            obtain ⟨m, hm, rfl, HS, HI⟩ := hrel
            by_cases hlm : m < meths.length
            · have hlm' : (m : Int) < (meths.length : Int) := by omega
              have hm0 : (0 : Int) ≤ (m : Int) := by omega
              obtain ⟨b2, o2, rfl, hb5, r0, r1, r2, r3, r4⟩ := (HMe.out.ext (X3.out.trans HS.out.x)).at_ hlm
              have Hcl := hide (meL_take meths hlm)
              have HI2 : Hid ((meths[m]'hlm).n ≤ 100 → ∀ j (h : j < meths.length), j < m + 1 → (meths[j]'h).n ≤ 100) := hide (fun h1 j hj hjk => by
                by_cases e : j = m
                · subst e; exact h1
                · exact HI.out j hj (by omega))
              generalize meths[m]'hlm = c at *
              by_cases h3 : (100 : Int) < c.n
              · go_wp2
                go_ret
                exact ⟨⟨0, rfl, .inl rfl⟩, X3.out.trans HS.out.x⟩
              have h3' : c.n ≤ 100 := by omega
              have Hcl2 : Hid (M ++ meL (meths.take (m + 1)) = (M ++ meL (meths.take m)) ++ [c.ty]) := hide (by rw [Hcl.out, List.append_assoc])
              have hLM2 : (M ++ meL (meths.take m)).length ≤ 18300 + m := by rw [List.length_append]; simp only [meL, List.length_map, List.length_take]; omega
              generalize hM2 : M ++ meL (meths.take m) = M2 at *
              clear hM2
              obtain ⟨A6, c6, rfl, -, -, -, -⟩ := RowOf.own tyC (l := M2) HS.out.own
              have hszS := HS.out.x.size
              have HOo := hide HS.out.own
              go_wp2_with (at_builtin; refine wpList_append_row _ rfl _ _ 30 rfl n3 32 i1 _ 3 48 Tryz.underlying30 hj hy0 hy1 hy2 rfl (by decide) (.slice A6 M2.length c6) M2.length (M2.flatMap tyC.f) rfl (HOo.out.alloc _) _ 1 1 [encStr c.ty.con, .int .i64 c.ty.var, .slice c.ty.A c.ty.args.length c.ty.cap] rfl ?c2 ?c3 ?c4 ?c5 ?c6 ?_)
              case c2 => exact Row.ty3 _ _ _ (at_newB _ _ _ rfl)
              case c3 => first | exact ⟨rfl, rfl, rfl⟩ | (intro y hy; simp at hy; rcases hy with rfl | rfl | rfl <;> rfl)
              case c4 => unfold maxLen; omega
              case c5 => omega
              case c6 => have := Hn3.out; simp; omega
              intro v4 w4 hown4 hg4 hat4
              have R4 : Hid (TyRow n3 w3 w4 v4 (M ++ meL (meths.take (m + 1)))) := hide ⟨Ext.app (HS.out.x.alloc _) hg4 (HOo.out.alloc _) (by have := Hn3.out; omega), by rw [Hcl2.out, flat_snoc, List.length_append]; exact hown4⟩
              clear hown4 hg4 hat4
              go_wp2
              go_roundw
              case rel => exact ⟨m + 1, hlm, by go_num, R4, hide (HI2.out h3')⟩
              case measure => simp [intOf]; omega
            · have hge : ¬ (m : Int) < (meths.length : Int) := by omega
              have HI3 : Hid (∀ j (h : j < meths.length), (meths[j]'h).n ≤ 100) := hide (fun j hj => HI.out j hj (by omega))
              have e9 : meths.take m = meths := List.take_of_length_le (by omega)
              rw [e9] at HS
              clear e9
              by_cases h4 : (30 : Int) < (meths.length : Int)
              · go_wp2
                go_ret
                exact ⟨⟨0, rfl, .inl rfl⟩, X3.out.trans HS.out.x⟩
              · have h4' : (meths.length : Int) ≤ 30 := by omega
                have HNo : Hid (KlNo ⟨dn, S, sc, sups, DA, dcap, meths⟩) := hide ⟨by show meths.length ≤ 30; omega, fun c hc => by
                  obtain ⟨j, hj, rfl⟩ := List.getElem_of_mem hc
                  have hj' : j < meths.length := hj
                  exact HI3.out j hj'⟩
                rw [← Htk2.out] at HS
                go_wp2
                go_roundw
                case rel => exact ⟨k + 1, hlt, by go_num, HS, by have := HLen.out; omega, hide (HJ2.out HNo.out)⟩
                case measure => simp [intOf]; omega
        · have hge : ¬ (k : Int) < (x.classes.length : Int) := by omega
          have e9 : x.classes.take k = x.classes := List.take_of_length_le (by omega)
          rw [e9] at HR hlen
          clear e9
          have HR0 : Hid (∀ r : Int, (r = 0 ∨ (r = 1 ∧ tsizes (L ++ klL x.classes) ≤ 20000)) → (r = 0 ∨ (r = 1 ∧ EnFew x))) := hide (by
            rintro r (rfl | ⟨rfl, h⟩)
            · exact .inl rfl
            · exact .inr ⟨rfl, HOf.out HF.out hds HJ3.out (fun j hj => HJ.out j hj (by omega)) (h)⟩)
          have hLM : (L ++ klL x.classes).length ≤ 18900 := by rw [List.length_append]; omega
          have hTs : ∀ t ∈ L ++ klL x.classes, TyIn wr t := fun t ht => (HAllT.out t ht).ext (X3.out.trans HR.out.x)
          generalize L ++ klL x.classes = M at *
          obtain ⟨A6, c6, rfl, d1, d2, d3, -⟩ := RowOf.own tyC (l := M) HR.out.own
          have HFw := hide (l_few16 A6 c6 M wr ⟨d3, hTs⟩ (by omega))
          clear hTs d3
          go_wp2_with fail
          refine HFw.out.mono ?_
          rintro e w5 ⟨⟨r, rfl, hr⟩, hx⟩
          have HRr := hide (HR0.out r (hr.imp id (fun h => ⟨h.1, h.2.1⟩)))
          clear hr
          go_wp2
          go_ret
          exact ⟨⟨r, rfl, HRr.out⟩, X3.out.trans (HR.out.x.trans hx)⟩

end Go.Proofs.YtnomibjbjplieaaGreat

/- Contracts of the reference of chapter 17: what stands in a variable's place, how great a type is, and what it is, with all replaced. -/
namespace Go.Proofs.YtnomibjbjplieaaGreat
open Go.RowKit

set_option maxRecDepth 10000 in
set_option maxHeartbeats 2000000 in
theorem r_get17 (S : Option Addr) (sc : Nat) (s : List Pr) (x : Int) (w : World) (h : PrsIn w S s) (hn : s.length ≤ 9223372036854775807) :
    Calls Tryz.prog 102 #[.slice S s.length sc, .int .i64 x] w fun e w' => e = .returned (.tuple #[tyV ((putAt (vsP s) (tsP s) x).getD Ty.zero), .bool (putAt (vsP s) (tsP s) x).isSome]) ∧ Ext w w' := by
  obtain ⟨W, hW⟩ : ∃ W, W = w.alloc (.cells #[.string ⟨#[]⟩, .int .i64 0, .slice none 0 0] 32) := ⟨_, rfl⟩
  have HW := hide hW.symm
  have X0 : Hid (Ext w W) := hide (by rw [hW]; exact (Ext.refl _).alloc _)
  have B2 : Hid (W.heap[w.heap.size]? = some (.cells #[.string ⟨#[]⟩, .int .i64 0, .slice none 0 0] 32 (0, 0))) := hide (by rw [hW]; exact at_newB _ _ _ (by simp))
  have H := hide h
  have Hat := hide (fun k => @idxI_at _ _ (vsP s) x 0 k)
  have Hno := hide (idxI_no (vsP s) x 0)
  have HA : Hid (putAt (vsP s) (tsP s) x = if 0 ≤ idxI (vsP s) x then (tsP s)[(idxI (vsP s) x).toNat]? else none) := hide rfl
  generalize putAt (vsP s) (tsP s) x = R at *
  clear hW h
  unfold tyV
  go_enter Tryz.func102, Tryz.ntmps102
  go_upto_region 1 with fail
  rw [HW.out]
  clear HW
  go_wp2
  go_loopw [6] (fun i wr => ∃ j : Nat, j ≤ s.length ∧ i = .int .i64 j ∧ Hid (∀ i, i < j → ((vsP s).getD i 0 == x) = false) ∧ Hid (Ext W wr)) (fun i _ => s.length - (intOf i).toNat)
  case atStart => exact ⟨0, Nat.zero_le _, rfl, hide (fun i hi => absurd hi (by omega)), hide (Ext.refl _)⟩
  case round =>
    obtain ⟨j, hj, rfl, Hj, HX⟩ := hrel
    have C2 := hide ((HX.out.heap (lt_of_obj B2.out)).trans B2.out)
    have f0 := free_block C2.out 0
    have f1 := free_block C2.out 1
    have f2 := free_block C2.out 2
    have k0 := bytes_block C2.out 0
    have k1 := bytes_block C2.out 1
    have k2 := bytes_block C2.out 2
    have hrl := lt_of_obj C2.out
    simp only [List.getElem?_toArray, List.getElem?_cons_zero, List.getElem?_cons_succ] at k0 k1 k2
    by_cases hlt : j < s.length
    · have hlt' : (j : Int) < (s.length : Int) := by omega
      have hj0 : (0 : Int) ≤ (j : Int) := by omega
      obtain ⟨b, o, rfl, hb, q0, q1, q2, q3⟩ := prs_at (H.out.ext (X0.out.trans HX.out)).row hlt
      have Hg : Hid ((vsP s).getD j 0 = (s[j]'hlt).v) := hide (vsP_getD s hlt)
      have Hty : Hid ((tsP s)[j]? = some (s[j]'hlt).ty) := hide (by rw [List.getElem?_map, List.getElem?_eq_getElem hlt]; rfl)
      generalize s[j]'hlt = y at *
      cases hs : (y.v == x)
      · go_wp2
        go_roundw
        case rel =>
          refine ⟨j + 1, hlt, by go_num, hide (fun i hi => ?_), HX⟩
          by_cases hij : i = j
          · rw [hij, Hg.out]; exact hs
          · exact Hj.out i (by omega)
        case measure => simp [intOf]; omega
      · have hJ := Hat.out j (by simpa using hlt) Hj.out (by rw [Hg.out]; exact hs)
        have hR : R = some y.ty := by rw [HA.out, hJ, if_pos (by omega)]; simpa using Hty.out
        clear Hat Hno HA hJ
        subst hR
        have HXF : Hid (Ext w (((wr.setCell ⟨w.heap.size, 0, none⟩ (encStr y.ty.con)).setCell ⟨w.heap.size, 1, none⟩ (.int .i64 y.ty.var)).setCell ⟨w.heap.size, 2, none⟩ (.slice y.ty.A y.ty.args.length y.ty.cap))) := hide ((((X0.out.trans HX.out).setCell (by simp) _).setCell (by simp) _).setCell (by simp) _)
        go_wp2
        refine bodyPost_ret (v := .tuple #[.agg #[encStr y.ty.con, .int .i64 y.ty.var, .slice y.ty.A y.ty.args.length y.ty.cap], .bool true]) ?_ rfl ⟨rfl, HXF.out⟩
        simp [results, Tryz.f102, go_sem, k0, k1, k2]
    · have hge : ¬ (j : Int) < (s.length : Int) := by omega
      have hJ := Hno.out (fun i hi => Hj.out i (by have hi' : i < s.length := (by simpa using hi); omega))
      have hR : R = none := by rw [HA.out, hJ]; rfl
      clear Hat Hno HA hJ
      subst hR
      have HXF : Hid (Ext w (((wr.setCell ⟨w.heap.size, 0, none⟩ (.string ⟨#[]⟩)).setCell ⟨w.heap.size, 1, none⟩ (.int .i64 0)).setCell ⟨w.heap.size, 2, none⟩ (.slice none 0 0))) := hide ((((X0.out.trans HX.out).setCell (by simp) _).setCell (by simp) _).setCell (by simp) _)
      go_wp2
      refine bodyPost_ret (v := .tuple #[.agg #[.string ⟨#[]⟩, .int .i64 0, .slice none 0 0], .bool false]) ?_ rfl ⟨rfl, HXF.out⟩
      simp [results, Tryz.f102, go_sem, k0, k1, k2]

theorem putAt_ty {w : World} {S : Option Addr} {s : List Pr} (h : PrsIn w S s) {x : Int} {u : Ty} (e : putAt (vsP s) (tsP s) x = some u) : TyIn w u := by
  obtain ⟨p, hp, rfl⟩ := List.mem_map.1 (putAt_mem e)
  exact h.ty p hp
theorem PrsIn.tys {w : World} {S : Option Addr} {s : List Pr} (h : PrsIn w S s) : ∀ k ∈ tsP s, TyIn w k := fun k hk => by
  obtain ⟨p, hp, rfl⟩ := List.mem_map.1 hk
  exact h.ty p hp

set_option maxRecDepth 10000 in
set_option maxHeartbeats 4000000 in
theorem r_size17 (S : Option Addr) (sc : Nat) (s : List Pr) (hn : s.length ≤ 9223372036854775807) (hsz : ∀ p ∈ s, p.ty.size ≤ 1000000) (t : Ty) : ∀ (w : World), TyIn w t → PrsIn w S s → szS (vsP s) (tsP s) t ≤ 1000000000000000 →
    Calls Tryz.prog 139 #[.slice S s.length sc, tyV t] w fun e w' => e = .returned (.int .i64 (szS (vsP s) (tsP s) t : Int)) ∧ Ext w w' := by
  induction t using Ty.ind with
  | h t ih =>
  intro w h hS hb
  obtain ⟨W, hW⟩ : ∃ W, W = w.alloc (.cells #[encStr t.con, .int .i64 t.var, .slice t.A t.args.length t.cap] 32) := ⟨_, rfl⟩
  have HW := hide hW.symm
  have X0 : Hid (Ext w W) := hide (by rw [hW]; exact (Ext.refl _).alloc _)
  have B1 : Hid (TBox W w.heap.size t) := hide (by rw [hW]; exact TBox.new w t)
  have H := hide h
  have HSp := hide hS
  have IH := hide ih
  have hle := h.le
  have hmx := h.max
  have HE := hide (szS_eq (vsP s) (tsP s) t)
  have c0 := B1.out.c0
  have c1 := B1.out.c1
  have c2 := B1.out.c2
  have hbl := B1.out.lt
  generalize hZ : szS (vsP s) (tsP s) t = Z at *
  clear h hS hW ih hZ
  unfold tyV at *
  cases hc : (t.con == ([] : Str))
  · have hc0 : t.con ≠ [] := by simpa using hc
    have HE2 : Hid (Z = (t.args.map (szS (vsP s) (tsP s))).sum + 1) := hide (by rw [HE.out, if_neg hc0])
    clear HE hc0
    go_enter Tryz.func139, Tryz.ntmps139
    go_upto_region 1 with fail
    rw [HW.out]
    clear HW
    go_wp2
    go_loopw [7, 8] (fun v i wr => ∃ k : Nat, k ≤ t.args.length ∧ i = .int .i64 k ∧ v = .int .i64 ((((t.args.take k).map (szS (vsP s) (tsP s))).sum + 1 : Nat) : Int) ∧ Hid (Ext W wr)) (fun _ i _ => t.args.length - (intOf i).toNat)
    case atStart => exact ⟨0, Nat.zero_le _, rfl, by simp, hide (Ext.refl _)⟩
    case round =>
      obtain ⟨k, hk, rfl, rfl, HX⟩ := hrel
      have XR := hide (X0.out.trans HX.out)
      have C1 := hide (B1.out.ext HX.out)
      have g2 := C1.out.c2
      have hbr := C1.out.lt
      by_cases hlt : k < t.args.length
      · have hlt' : (k : Int) < (t.args.length : Int) := by omega
        have hk0 : (0 : Int) ≤ (k : Int) := by omega
        obtain ⟨b, o, hA, hb5, q0, q1, q2⟩ := (H.out.all.ext XR.out).at_ hlt
        have hkm := List.getElem_mem hlt
        have Hst : Hid (((t.args.take (k + 1)).map (szS (vsP s) (tsP s))).sum = ((t.args.take k).map (szS (vsP s) (tsP s))).sum + szS (vsP s) (tsP s) (t.args[k]'hlt)) := hide (by rw [List.take_succ_eq_append_getElem hlt, List.map_append, List.sum_append]; simp)
        have hle2 : ((t.args.take (k + 1)).map (szS (vsP s) (tsP s))).sum ≤ (t.args.map (szS (vsP s) (tsP s))).sum := by
          conv => rhs; rw [← List.take_append_drop (k + 1) t.args, List.map_append, List.sum_append]
          omega
        have hb2 : szS (vsP s) (tsP s) (t.args[k]'hlt) ≤ 1000000000000000 := by have := Hst.out; have := HE2.out; omega
        have hb3 : ((t.args.take k).map (szS (vsP s) (tsP s))).sum ≤ 1000000000000000 := by have := Hst.out; have := HE2.out; omega
        have HIH := hide (IH.out _ hkm wr ((H.out.all.args _ hkm).ext XR.out) (HSp.out.ext XR.out) hb2)
        generalize szS (vsP s) (tsP s) (t.args[k]'hlt) = z at *
        generalize t.args[k]'hlt = x at *
        generalize hq : ((t.args.take (k + 1)).map (szS (vsP s) (tsP s))).sum = a' at *
        have Hq := hide hq
        clear hq
        generalize ((t.args.take k).map (szS (vsP s) (tsP s))).sum = a at *
        rw [hA] at g2
        clear hA hkm hle2
        go_wp2_with fail
        refine HIH.out.mono ?_
        rintro e w3 ⟨rfl, hx3⟩
        have X3 := hide (HX.out.trans hx3)
        clear hx3
        go_wp2
        go_roundw
        case rel => exact ⟨k + 1, hlt, by go_num, by rw [Hq.out, Hst.out]; first | (congr 1; omega) | (congr 1; push_cast; omega), X3⟩
        case measure => simp [intOf]; omega
      · have hge : ¬ (k : Int) < (t.args.length : Int) := by omega
        have e9 : t.args.take k = t.args := List.take_of_length_le (by omega)
        rw [e9]
        clear e9
        have HZ : Hid ((((t.args.map (szS (vsP s) (tsP s))).sum + 1 : Nat) : Int) = (Z : Int)) := hide (by rw [HE2.out])
        rw [HZ.out]
        go_wp2
        go_ret
        exact ⟨rfl, XR.out⟩
  · have hc0 : t.con = [] := by simpa using hc
    have HE2 : Hid (Z = match putAt (vsP s) (tsP s) t.var with | some u => u.size | none => 1) := hide (by rw [HE.out, if_pos hc0]; cases putAt (vsP s) (tsP s) t.var <;> rfl)
    have HG := hide (fun w' (e : Ext w w') => r_get17 S sc s t.var w' (HSp.out.ext e) hn)
    have HTy := hide (fun u (e : putAt (vsP s) (tsP s) t.var = some u) => And.intro (putAt_ty HSp.out e) (show u.size ≤ 1000000 by
      obtain ⟨p, hp, rfl⟩ := List.mem_map.1 (putAt_mem e)
      exact hsz p hp))
    clear HE hc0 IH
    generalize putAt (vsP s) (tsP s) t.var = R at *
    have HG2 := hide (HG.out W X0.out)
    unfold tyV at HG2
    clear HG
    go_enter Tryz.func139, Tryz.ntmps139
    go_upto_region 1 with fail
    rw [HW.out]
    clear HW
    go_wp2_with fail
    refine HG2.out.mono ?_
    rintro e w2 ⟨rfl, hx⟩
    have X2 := hide (X0.out.trans hx)
    clear hx HG2
    cases R with
    | none =>
      have hz : Z = 1 := HE2.out
      subst hz
      go_wp2
      go_ret
      exact ⟨rfl, X2.out.alloc _⟩
    | some u =>
      have hz : Z = u.size := HE2.out
      obtain ⟨hu, hus⟩ := HTy.out u rfl
      simp only [Option.getD_some, Option.isSome_some]
      have HSz := hide (r_size16 u (w2.alloc (.cells #[encStr u.con, .int .i64 u.var, .slice u.A u.args.length u.cap] 32)) (hu.ext (X2.out.alloc _)) hus)
      have HZ := hide hz
      rw [← hz] at HSz
      clear hu hus hz HE2 HTy
      unfold tyV at HSz
      go_wp2_with fail
      refine HSz.out.mono ?_
      rintro e w3 ⟨rfl, hx⟩
      go_wp2
      go_ret
      exact ⟨rfl, (X2.out.alloc _).trans hx⟩

end Go.Proofs.YtnomibjbjplieaaGreat
