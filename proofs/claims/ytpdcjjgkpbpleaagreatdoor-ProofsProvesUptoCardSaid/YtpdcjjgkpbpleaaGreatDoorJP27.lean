/- Contract: a proof with others in the place of what is given. -/
import Derived.Test.YtpdcjjgkpbpleaaGreatDoorJP26
import Derived.Deep.RegionHeld3
/- Contract: a proof with others in the place of what is given. -/
namespace Go.Proofs.YtpdcjjgkpbpleaaGreatDoor
open Go.RowKit

theorem allSome_snoc_some {α : Type} {l : List (Option α)} {m : List α} {x : α} (h : allSome l = some m) : allSome (l ++ [some x]) = some (m ++ [x]) := by rw [allSome_snoc, h]; rfl
theorem allSome_snoc_none {α : Type} (l : List (Option α)) : allSome (l ++ [none]) = none := by rw [allSome_snoc]; cases allSome l <;> rfl
/-- How great the first of them become. -/
noncomputable def putZs (l : List Pf) (ks : List Pf) : Nat := (ks.map (putZ l)).sum
theorem putZs_take (l ks : List Pf) {k : Nat} (h : k < ks.length) : putZs l (ks.take (k + 1)) = putZs l (ks.take k) + putZ l (ks[k]'h) := by
  unfold putZs
  rw [List.take_succ_eq_append_getElem h, List.map_append, List.sum_append]
  simp
theorem putZs_le (l ks : List Pf) (k : Nat) : putZs l (ks.take k) ≤ putZs l ks := by
  have : putZs l ks = putZs l (ks.take k) + putZs l (ks.drop k) := by unfold putZs; rw [← List.sum_append, ← List.map_append, List.take_append_drop]
  omega
/-- What put tells. -/
def PutOkF (w w' : World) (l : List Pf) (p : Pf) (left : Int) (u : Pf) (n : Int) : Prop := ∀ X, putK l p = some X → CpF w w' X u ∧ n = left - (putZ l p : Int)
def PutCF (L : Option Addr) (cap : Nat) (l : List Pf) (p : Pf) : Prop := ∀ (w : World) (left : Int), PfsIn w L l → PfIn w p → wideF p = true → p.size ≤ 100000 → left ≤ 1000000 → -1000000000000000 + (putZ l p : Int) ≤ left →
  Calls Tryz.prog 29 #[pfV p, .slice L l.length cap, .int .i64 left] w fun e w' => (∃ u n, e = .returned (.tuple #[pfV u, .int .i64 n, .bool (putK l p).isSome]) ∧ PutOkF w w' l p left u n) ∧ Ext w w'
theorem cell4o {y : World} {B b i : Nat} (h : b ≠ B) (v0 v1 v2 v3 : Value) {u : Value} (k : y.cell? ⟨b, i, none⟩ = some u) : ((((y.setCell ⟨B, 0, none⟩ v0).setCell ⟨B, 1, none⟩ v1).setCell ⟨B, 2, none⟩ v2).setCell ⟨B, 3, none⟩ v3).cell? ⟨b, i, none⟩ = some u := by
  refine (World.cell?_of_block (a := ⟨b, i, none⟩) ?_).trans k
  show ((((y.setCell ⟨B, 0, none⟩ v0).setCell ⟨B, 1, none⟩ v1).setCell ⟨B, 2, none⟩ v2).setCell ⟨B, 3, none⟩ v3).heap[b]? = y.heap[b]?
  rw [Below.heap_setCell _ _ _ _ h, Below.heap_setCell _ _ _ _ h, Below.heap_setCell _ _ _ _ h, Below.heap_setCell _ _ _ _ h]
theorem CpF.grown {w w1 w2 : World} {x : Pf.Pure} {u : Pf} {row : Option Nat} (h : CpF w w1 x u) (hg : w1.grownBy w2 row) (hr : ∀ c, row = some c → c < w.heap.size) : CpF w w2 x u := ⟨h.inn.grown hg (fun c e => h.away c (hr c e)), h.is, h.away⟩

set_option maxRecDepth 10000 in
set_option maxHeartbeats 8000000 in
theorem f_put_given (L : Option Addr) (cap : Nat) (l : List Pf) (hln : l.length ≤ 9223372036854775807) (hlw : ∀ x ∈ l, wideF x = true ∧ x.size ≤ 100000) (p : Pf) (hk : (p.kind == 1) = true) : PutCF L cap l p := by
  intro w left hl hp hw hsz hl0 hl1
  obtain ⟨W, hW⟩ : ∃ W, W = (w.alloc (.cells #[.int .i64 p.kind, .int .i64 p.n, .slice p.T p.types.length p.tc, .slice p.A p.kids.length p.cap] 31)).alloc (.cells #[.int .i64 0, .int .i64 0, .slice none 0 0, .slice none 0 0] 31) := ⟨_, rfl⟩
  have HW := hide hW.symm
  have X0 : Hid (Ext w W) := hide (by rw [hW]; exact ((Ext.refl _).alloc _).alloc _)
  have B1 : Hid (FBox W w.heap.size p) := hide (by rw [hW]; exact (FBox.new w p).ext ((Ext.refl _).alloc _))
  have B2 : Hid (W.heap[w.heap.size + 1]? = some (.cells #[.int .i64 0, .int .i64 0, .slice none 0 0, .slice none 0 0] 31)) := hide (by rw [hW]; exact at_newB _ _ _ (by simp))
  have HsW : Hid (W.heap.size = w.heap.size + 2) := hide (by rw [hW]; simp)
  obtain ⟨c0, c1, c2, c3⟩ := B1.out.cells
  obtain ⟨y0, y1, y2, y3, yf0, yf1, yf2, yf3⟩ := f0_cells B2.out
  have HK : Hid (p.kind = 1) := hide (by simpa using hk)
  have HPk : Hid (putK l p = (atZ l p.n).map Pf.pure) := hide (by rw [putK_eq, if_pos HK.out])
  have HPz : Hid (putZ l p = match atZ l p.n with | some x => x.size | none => 0) := hide (by rw [putZ_eq, if_pos HK.out]; cases atZ l p.n <;> rfl)
  unfold PutOkF
  clear hW hp hw hsz
  generalize putK l p = K0 at *
  generalize putZ l p = Z0 at *
  unfold pfV
  by_cases h3 : p.n < 0
  · have hK : K0 = none := by rw [HPk.out, atZ_none (by omega)]; rfl
    clear HPk HPz
    subst hK
    go_enter Tryz.func29, Tryz.ntmps29
    go_upto_region 1 with fail
    rw [HW.out]
    clear HW
    go_wp2
    refine bodyPost_ret (v := .tuple #[.agg #[.int .i64 p.kind, .int .i64 p.n, .slice p.T p.types.length p.tc, .slice p.A p.kids.length p.cap], .int .i64 left, .bool false]) ?_ rfl ?_
    · simp [results, Tryz.f29, go_sem, y0, y1, y2, y3]
    · have XE := ext_set4 X0.out (b := w.heap.size + 1) (by omega)
      first | exact ⟨⟨p, left, rfl, fun X h => (by cases h)⟩, XE _ _ _ _⟩ | exact ⟨⟨p, left, rfl⟩, XE _ _ _ _⟩
  by_cases h4 : p.n ≥ (l.length : Int)
  · have hK : K0 = none := by rw [HPk.out, atZ_none (by omega)]; rfl
    clear HPk HPz
    subst hK
    go_enter Tryz.func29, Tryz.ntmps29
    go_upto_region 1 with fail
    rw [HW.out]
    clear HW
    go_wp2
    refine bodyPost_ret (v := .tuple #[.agg #[.int .i64 p.kind, .int .i64 p.n, .slice p.T p.types.length p.tc, .slice p.A p.kids.length p.cap], .int .i64 left, .bool false]) ?_ rfl ?_
    · simp [results, Tryz.f29, go_sem, y0, y1, y2, y3]
    · have XE := ext_set4 X0.out (b := w.heap.size + 1) (by omega)
      first | exact ⟨⟨p, left, rfl, fun X h => (by cases h)⟩, XE _ _ _ _⟩ | exact ⟨⟨p, left, rfl⟩, XE _ _ _ _⟩
  obtain ⟨m, hm⟩ : ∃ m : Nat, p.n = (m : Int) := ⟨p.n.toNat, by omega⟩
  have hml : m < l.length := by omega
  have hm1 : (m : Int) < (l.length : Int) := by omega
  have hm0 : (0 : Int) ≤ (m : Int) := by omega
  obtain ⟨b, o, eL, hbl, q0, q1, q2, q3⟩ := (hl.ext X0.out).at_ hml
  have hb0 : b < w.heap.size := by
    obtain ⟨b', o', e', h', -⟩ := hl.at_ hml
    rw [eL] at e'
    injection e' with e'
    injection e' with e1
    omega
  have hne1 : b ≠ w.heap.size + 1 := by omega
  have hxw := hlw _ (List.getElem_mem hml)
  have Hx := hide (hl.kids _ (List.getElem_mem hml))
  have hK : K0 = some (l[m]'hml).pure := by rw [HPk.out, hm, atZ_nat _ _ hml]; rfl
  have hZ : Z0 = (l[m]'hml).size := by rw [HPz.out, hm, atZ_nat _ _ hml]
  clear HPk HPz
  rw [hm] at c1 HW ⊢
  subst eL
  clear hl hlw h3 h4 hm
  generalize l[m]'hml = x at *
  subst hZ
  have HC := hide (fun w' (e : Ext W w') => hide (f_copiedF x w' (Hx.out.ext (X0.out.trans e)) hxw.1 hxw.2))
  have HZ := hide (fun w' (e : Ext W w') => hide (f_size24 x w' (Hx.out.ext (X0.out.trans e)) (by omega)))
  have hxs : (x.size : Int) ≤ 100000 := by omega
  have hxs0 : (0 : Int) ≤ (x.size : Int) := by omega
  have hwr : IntKind.i64.wrap (left - (x.size : Int)) = left - (x.size : Int) := IntWalk.i64_in _ (by omega)
  generalize hpx : x.pure = xp at *
  clear hpx
  subst hK
  have hne0 : w.heap.size ≠ w.heap.size + 1 := by omega
  unfold pfV at HC HZ
  have HSS := hide (fun w' (e : Ext W w') => And.intro (e.cell c1) (And.intro (e.cell q0) (And.intro (e.cell q1) (And.intro (e.cell q2) (e.cell q3)))))
  go_enter Tryz.func29, Tryz.ntmps29
  go_upto_region 1 with fail
  rw [HW.out]
  clear HW
  go_upto_region 4 with fail
  go_region_held3 (fun w' => w'.cell? ⟨w.heap.size, 1, none⟩ = some (.int .i64 (m : Int)) ∧ w'.cell? ⟨b, o + m * 4, none⟩ = some (.int .i64 x.kind) ∧ w'.cell? ⟨b, o + m * 4 + 1, none⟩ = some (.int .i64 x.n) ∧ w'.cell? ⟨b, o + m * 4 + 2, none⟩ = some (.slice x.T x.types.length x.tc) ∧ w'.cell? ⟨b, o + m * 4 + 3, none⟩ = some (.slice x.A x.kids.length x.cap)) (first | with_reducible assumption | (obtain ⟨g1, g2, g3, g4, g5⟩ := kS; with_reducible exact ⟨cell4o hne0 _ _ _ _ g1, cell4o hne1 _ _ _ _ g2, cell4o hne1 _ _ _ _ g3, cell4o hne1 _ _ _ _ g4, cell4o hne1 _ _ _ _ g5⟩) | go_keep) (first
    | (go_at_call 52
       refine Calls.mono (HC.out _ (by repeat (first | exact Ext.refl _ | exact Ext.pre (by simp) | exact Ext.alloc (by assumption) _ | refine Ext.alloc ?_ _ |  refine Ext.more ?_ _ _ | refine Ext.drew ?_ | refine Ext.drewN ?_ _))).out ?_
       rintro e ya ⟨⟨u, rfl, hu⟩, hxa⟩
       have E1 : Hid (Ext W ya) := hide (by refine Ext.trans ?_ hxa; exact (by repeat (first | exact Ext.refl _ | exact Ext.pre (by simp) | exact Ext.alloc (by assumption) _ | refine Ext.alloc ?_ _ |  refine Ext.more ?_ _ _ | refine Ext.drew ?_ | refine Ext.drewN ?_ _)))
       have kS := HSS.out ya E1.out
       clear hxa)
    | (go_at_call 18
       refine Calls.mono (HZ.out _ (E1.out.trans (by repeat (first | exact Ext.refl _ | exact Ext.pre (by simp) | exact Ext.alloc (by assumption) _ | refine Ext.alloc ?_ _ |  refine Ext.more ?_ _ _ | refine Ext.drew ?_ | refine Ext.drewN ?_ _)))).out ?_
       rintro e yb ⟨rfl, hxb⟩
       have E2 : Hid (Ext ya yb) := hide (by refine Ext.trans ?_ hxb; exact (by repeat (first | exact Ext.refl _ | exact Ext.pre (by simp) | exact Ext.alloc (by assumption) _ | refine Ext.alloc ?_ _ |  refine Ext.more ?_ _ _ | refine Ext.drew ?_ | refine Ext.drewN ?_ _)))
       have kS := HSS.out yb (E1.out.trans E2.out)
       have D2 := hide (((E1.out.trans E2.out).heap (lt_of_obj B2.out)).trans B2.out)
       have hy1 := lt_of_obj D2.out
       clear hxb
       obtain ⟨z0, z1, z2, z3, zf0, zf1, zf2, zf3⟩ := f0_cells D2.out))
  all_goals
    clear hwr
    have HF : Hid (CpF w (((((yb.setCell ⟨w.heap.size + 1, 0, none⟩ (.int .i64 u.kind)).setCell ⟨w.heap.size + 1, 1, none⟩ (.int .i64 u.n)).setCell ⟨w.heap.size + 1, 2, none⟩ (.slice u.T u.types.length u.tc)).setCell ⟨w.heap.size + 1, 3, none⟩ (.slice u.A u.kids.length u.cap))) xp u) := hide (by
      have hW0 := HsW.out
      refine CpF.old (w1 := W) ?_ (by omega)
      refine CpF.grown (w1 := yb) ?_ (grown_trans (grown_trans (grown_trans (grown_cell _ _ _ _) (grown_cell _ _ _ _)) (grown_cell _ _ _ _)) (grown_cell _ _ _ _)) (fun c e => by injection e with e; omega)
      exact CpF.old (hu.ext E2.out) (Nat.le_refl _))
    have XF := hide (ext_set4 (X0.out.trans (E1.out.trans E2.out)) (b := w.heap.size + 1) (by omega))
    go_wp2
    refine bodyPost_ret (v := .tuple #[.agg #[.int .i64 u.kind, .int .i64 u.n, .slice u.T u.types.length u.tc, .slice u.A u.kids.length u.cap], .int .i64 (left - (x.size : Int)), .bool true]) ?_ rfl ⟨⟨u, left - (x.size : Int), rfl, fun X h => (by cases h; exact ⟨HF.out, rfl⟩)⟩, XF.out _ _ _ _⟩
    simp [results, Tryz.f29, go_sem, z0, z1, z2, z3]

set_option maxRecDepth 10000 in
set_option maxHeartbeats 8000000 in
theorem f_put_kids (L : Option Addr) (cap : Nat) (l : List Pf) (p : Pf) (hk : (p.kind == 1) = false) (ih : ∀ k ∈ p.kids, PutCF L cap l k) : PutCF L cap l p := by
  intro w left hl hp hw hsz hl0 hl1
  obtain ⟨hw1, hw2, hw3⟩ := wideF_parts hw
  obtain ⟨W, hW⟩ : ∃ W, W = (w.alloc (.cells #[.int .i64 p.kind, .int .i64 p.n, .slice p.T p.types.length p.tc, .slice p.A p.kids.length p.cap] 31)).alloc (.cells #[.int .i64 0, .int .i64 0, .slice none 0 0, .slice none 0 0] 31) := ⟨_, rfl⟩
  have HW := hide hW.symm
  have X0 : Hid (Ext w W) := hide (by rw [hW]; exact ((Ext.refl _).alloc _).alloc _)
  have B1 : Hid (FBox W w.heap.size p) := hide (by rw [hW]; exact (FBox.new w p).ext ((Ext.refl _).alloc _))
  have B2 : Hid (W.heap[w.heap.size + 1]? = some (.cells #[.int .i64 0, .int .i64 0, .slice none 0 0, .slice none 0 0] 31)) := hide (by rw [hW]; exact at_newB _ _ _ (by simp))
  have HsW : Hid (W.heap.size = w.heap.size + 2) := hide (by rw [hW]; simp)
  obtain ⟨c0, c1, c2, c3⟩ := B1.out.cells
  have HK : Hid (p.kind ≠ 1) := hide (by simpa using hk)
  have HPk : Hid (putK l p = (allSome (p.kids.map (putK l))).map fun ks => .mk p.kind p.n (p.types.map Ty.pure) ks) := hide (by rw [putK_eq, if_neg HK.out])
  have HPz : Hid (putZ l p = putZs l p.kids + 1) := hide (by rw [putZ_eq, if_neg HK.out]; rfl)
  have hlen : p.kids.length < p.size := p.kids_len
  have hle := hp.hd.le
  have hmx := hp.hd.max
  have H := hide hp
  have HL := hide hl
  have IH := hide (fun k (hk : k ∈ p.kids) => ih k hk)
  have HW3 := hide hw3
  have HSz := hide (fun k (hk : k ∈ p.kids) => Pf.size_kid hk)
  have HZt := hide (fun k (hk : k < p.kids.length) => putZs_take l p.kids hk)
  have HZl := hide (fun k => putZs_le l p.kids k)
  have HTy := hide (fun w' (e : Ext w w') => hide (f_types p.types hw2 p.T p.tc w' (hp.hd.types.ext e) hw1))
  have hz1 := HPz.out
  have Hl1 : Hid (-1000000000000000 + ((putZs l p.kids : Nat) : Int) + 1 ≤ left) := hide (by omega)
  have hl2 : -1000000000000000 ≤ left := by omega
  unfold PutOkF
  clear hW hp hw hw2 hw3 ih hz1 hl1 hl
  generalize putK l p = K0 at *
  generalize putZ l p = Z0 at *
  unfold pfV
  have hmk := make_zerosF p.kids.length (by omega) W
  obtain ⟨W2, hW2⟩ : ∃ W2, W2 = W.alloc (.cells (rowPf [] p.kids.length) 31) := ⟨_, rfl⟩
  have XY2 : Hid (Ext W W2) := hide (by rw [hW2]; exact (Ext.refl _).alloc _)
  have C3 : Hid (W2.heap[W.heap.size]? = some (.cells (rowPf [] p.kids.length) 31 (0, 0))) := hide (by rw [hW2]; exact at_newB _ _ _ rfl)
  rw [← hW2] at hmk
  have c3' := (B1.out.ext XY2.out).c3
  clear hW2
  go_enter Tryz.func29, Tryz.ntmps29
  go_upto_region 1 with fail
  rw [HW.out]
  clear HW
  go_wp2
  clear hmk c3' c0 c1 c2 c3
  go_loopw [2, 51] (fun lf i wr => ∃ (k : Nat) (us : List Pf) (Xs : List Pf.Pure), k ≤ p.kids.length ∧ i = .int .i64 k ∧ lf = .int .i64 (left - 1 - ((putZs l (p.kids.take k) : Nat) : Int)) ∧ Hid (allSome ((p.kids.take k).map (putK l)) = some Xs) ∧ Hid (Ext W wr) ∧ Hid (wr.heap[W.heap.size]? = some (.cells (rowPf us (p.kids.length - k)) 31 (0, 0))) ∧ Hid (CpsF w wr (fun c => w.heap.size ≤ c ∧ c ≤ W.heap.size) Xs us) ∧ us.length = k) (fun _ i _ => p.kids.length - (intOf i).toNat)
  case atStart => exact ⟨0, [], [], Nat.zero_le _, rfl, by simp [putZs], hide rfl, XY2, C3, hide (CpsF.nil _ _ _), rfl⟩
  case round =>
    obtain ⟨k, us, Xs, hk, rfl, rfl, HA, HX, HR, HP, hul⟩ := hrel
    by_cases hlt : k < p.kids.length
    · have hlt' : (k : Int) < (p.kids.length : Int) := by omega
      have hk0 : (0 : Int) ≤ (k : Int) := by omega
      have XR := hide (X0.out.trans HX.out)
      obtain ⟨b, o, hA, hb, q0, q1, q2, q3⟩ := (H.out.all.ext XR.out).at_ hlt
      have hkm := List.getElem_mem hlt
      have hszk := HSz.out _ hkm
      have hzt := HZt.out k hlt
      have hzl := HZl.out (k + 1)
      have hl1 := Hl1.out
      have hbd : -1000000000000000 + ((putZ l (p.kids[k]'hlt) : Nat) : Int) ≤ left - 1 - ((putZs l (p.kids.take k) : Nat) : Int) := by omega
      have Hzt : Hid (left - 1 - ((putZs l (p.kids.take (k + 1)) : Nat) : Int) = left - 1 - ((putZs l (p.kids.take k) : Nat) : Int) - ((putZ l (p.kids[k]'hlt) : Nat) : Int)) := hide (by rw [hzt]; omega)
      have HIH := hide (IH.out _ hkm (wr.alloc (.cells #[.int .i64 (p.kids[k]'hlt).kind, .int .i64 (p.kids[k]'hlt).n, .slice (p.kids[k]'hlt).T (p.kids[k]'hlt).types.length (p.kids[k]'hlt).tc, .slice (p.kids[k]'hlt).A (p.kids[k]'hlt).kids.length (p.kids[k]'hlt).cap] 31)) (left - 1 - ((putZs l (p.kids.take k) : Nat) : Int)) ((HL.out.ext XR.out).ext ((Ext.refl _).alloc _)) ((H.out.all.kids _ hkm).ext (XR.out.alloc _)) (HW3.out _ hkm) (by omega) (by omega) hbd)
      have Htk : Hid ((p.kids.take (k + 1)).map (putK l) = (p.kids.take k).map (putK l) ++ [putK l (p.kids[k]'hlt)]) := hide (by rw [List.take_succ_eq_append_getElem hlt, List.map_append]; rfl)
      have HNo : Hid (putK l (p.kids[k]'hlt) = none → K0 = none) := hide (fun e => by
        rw [HPk.out, allSome_take_none (k + 1) (by rw [← List.map_take, Htk.out, e]; exact allSome_snoc_none _)]
        rfl)
      obtain ⟨m, hm⟩ : ∃ m, p.kids.length - k = m + 1 := ⟨p.kids.length - k - 1, by omega⟩
      have hm2 : p.kids.length - (k + 1) = m := by omega
      rw [hm] at HR
      unfold PutOkF at HIH
      generalize p.kids[k]'hlt = x at *
      have hgl : W.heap.size < wr.heap.size := lt_of_obj HR.out
      clear hkm hzt hzl hl1 hbd
      rw [hA]
      clear hA
      unfold pfV at HIH
      generalize putK l x = Kx at *
      generalize left - 1 - ((putZs l (p.kids.take k) : Nat) : Int) = lf at *
      go_wp2_with fail
      refine HIH.out.mono ?_
      rintro e w3 ⟨⟨u, n, rfl, hu⟩, hx3⟩
      have Hu := hide hu
      have E3 := hide (((Ext.refl wr).alloc (.cells #[.int .i64 x.kind, .int .i64 x.n, .slice x.T x.types.length x.tc, .slice x.A x.kids.length x.cap] 31)).trans hx3)
      have X4 := hide hx3
      have HR3 := hide ((E3.out.heap (lt_of_obj HR.out)).trans HR.out)
      have X3 := hide (HX.out.trans E3.out)
      have f0 := free_block HR3.out (us.length * 4)
      have f1 := free_block HR3.out (us.length * 4 + 1)
      have f2 := free_block HR3.out (us.length * 4 + 2)
      have f3 := free_block HR3.out (us.length * 4 + 3)
      have k0 := (bytes_block HR3.out (us.length * 4)).trans (row_at4f us m).1
      have k1 := (bytes_block HR3.out (us.length * 4 + 1)).trans (row_at4f us m).2.1
      have k2 := (bytes_block HR3.out (us.length * 4 + 2)).trans (row_at4f us m).2.2.1
      have k3 := (bytes_block HR3.out (us.length * 4 + 3)).trans (row_at4f us m).2.2.2
      have Xn : Hid (Ext W (putPfAt w3 W.heap.size (us.length * 4) u)) := hide (putPfAt_ext X3.out (Nat.le_refl _) _ u)
      have HRn := hide (put4f u HR3.out)
      rw [hul] at f0 f1 f2 f3 k0 k1 k2 k3 Xn HRn
      clear hu hx3
      cases Kx with
      | none =>
        have hK := HNo.out rfl
        have D1 := hide (B1.out.ext Xn.out)
        have D2 := hide ((Xn.out.heap (lt_of_obj B2.out)).trans B2.out)
        have hy1 := lt_of_obj D2.out
        obtain ⟨d0, d1, d2, d3⟩ := D1.out.cells
        obtain ⟨y0, y1, y2, y3, yf0, yf1, yf2, yf3⟩ := f0_cells D2.out
        unfold putPfAt at d0 d1 d2 d3 y0 y1 y2 y3 yf0 yf1 yf2 yf3 hy1
        have XE := hide (ext_set4 (X0.out.trans Xn.out) (b := w.heap.size + 1) (by omega))
        clear HNo HPk Hu HRn HR3 HP HA
        subst hK
        go_wp2
        refine bodyPost_ret (v := .tuple #[.agg #[.int .i64 p.kind, .int .i64 p.n, .slice p.T p.types.length p.tc, .slice p.A p.kids.length p.cap], .int .i64 n, .bool false]) ?_ rfl ?_
        · simp [results, Tryz.f29, go_sem, y0, y1, y2, y3]
        · first | exact ⟨⟨p, n, rfl, fun X h => (by cases h)⟩, XE.out _ _ _ _⟩ | exact ⟨⟨p, n, rfl⟩, XE.out _ _ _ _⟩
      | some X =>
        obtain ⟨hu1, hn⟩ := Hu.out X rfl
        have hn' : n = left - 1 - ((putZs l (p.kids.take (k + 1)) : Nat) : Int) := by rw [Hzt.out, hn]
        have HA2 : Hid (allSome ((p.kids.take (k + 1)).map (putK l)) = some (Xs ++ [X])) := hide (by rw [Htk.out]; exact allSome_snoc_some HA.out)
        have HP3 : Hid (CpsF w w3 (fun c => w.heap.size ≤ c ∧ c ≤ W.heap.size) (Xs ++ [X]) (us ++ [u])) := hide (by
          exact (HP.out.ext ((Ext.refl wr).alloc (.cells #[.int .i64 x.kind, .int .i64 x.n, .slice x.T x.types.length x.tc, .slice x.A x.kids.length x.cap] 31))).snoc hu1 X4.out (by have := XR.out.size; simp; omega) (fun c hc => by simp; omega))
        have HPn := hide (HP3.out.grown (putPfAt_grown w3 W.heap.size (us.length * 4) u) (fun c e => by injection e with e; have := HsW.out; omega))
        rw [hul] at HPn
        subst hn'
        clear HNo HPk Hu HR3 HP HA hu1 hn HP3
        go_wp2
        go_roundw
        case rel => exact ⟨k + 1, us ++ [u], Xs ++ [X], hlt, by go_num, rfl, HA2, Xn, hide (by rw [hm2]; exact HRn.out), HPn, by rw [List.length_append, hul]; rfl⟩
        case measure => simp [intOf]; omega
    · have hge : ¬ (k : Int) < (p.kids.length : Int) := by omega
      have hkn : k = p.kids.length := by omega
      have hK : K0 = some (.mk p.kind p.n (p.types.map Ty.pure) Xs) := by
        have h := HA.out
        rw [List.take_of_length_le (by omega)] at h
        rw [HPk.out, h]
        rfl
      have hZ : left - 1 - ((putZs l (p.kids.take k) : Nat) : Int) = left - (Z0 : Int) := by rw [List.take_of_length_le (by omega), HPz.out]; omega
      have HRd : Hid (wr.heap[W.heap.size]? = some (.cells (us.flatMap pfC.f).toArray 31 (0, 0))) := hide (by have := HR.out; rw [hkn, Nat.sub_self, rowPf_done] at this; exact this)
      have hun : us.length = p.kids.length := by omega
      clear HR hkn HPk HPz HA IH
      rw [hZ]
      clear hZ
      subst hK
      have D1 := hide (B1.out.ext HX.out)
      obtain ⟨d0, d1, d2, d3⟩ := D1.out.cells
      have XR := hide (X0.out.trans HX.out)
      have HC := hide (HTy.out _ XR.out)
      go_wp2_with fail
      refine HC.out.mono ?_
      rintro e y ⟨⟨g, vs, rfl, hv⟩, hxy⟩
      have HV := hide hv
      have Xy := hide (HX.out.trans hxy)
      have D2 := hide (B1.out.ext Xy.out)
      have D3 := hide ((Xy.out.heap (lt_of_obj B2.out)).trans B2.out)
      have HRy := hide ((hxy.heap (lt_of_obj HRd.out)).trans HRd.out)
      have HPy := hide (HP.out.ext hxy)
      have Xwy := hide (X0.out.trans Xy.out)
      have hl0' := D2.out.lt
      have hl1' := lt_of_obj D3.out
      clear hv hxy d0 d1 d2 d3 HC HRd HP
      obtain ⟨d0, d1, d2, d3⟩ := D2.out.cells
      have df2 := D2.out.free 2
      have df3 := D2.out.free 3
      obtain ⟨y0, y1, y2, y3, yf0, yf1, yf2, yf3⟩ := f0_cells D3.out
      obtain ⟨U, hU⟩ : ∃ U : Pf, U = .mk p.kind p.n (some ⟨g, 0, none⟩) vs.length vs (some ⟨W.heap.size, 0, none⟩) p.kids.length us := ⟨_, rfl⟩
      obtain ⟨WF, hWF⟩ : ∃ WF, WF = (((((y.setCell ⟨w.heap.size, 3, none⟩ (.slice (some ⟨W.heap.size, 0, none⟩) p.kids.length p.kids.length)).setCell ⟨w.heap.size, 2, none⟩ (.slice (some ⟨g, 0, none⟩) p.types.length p.types.length)).setCell ⟨w.heap.size + 1, 0, none⟩ (.int .i64 p.kind)).setCell ⟨w.heap.size + 1, 1, none⟩ (.int .i64 p.n)).setCell ⟨w.heap.size + 1, 2, none⟩ (.slice (some ⟨g, 0, none⟩) p.types.length p.types.length)).setCell ⟨w.heap.size + 1, 3, none⟩ (.slice (some ⟨W.heap.size, 0, none⟩) p.kids.length p.kids.length) := ⟨_, rfl⟩
      have XF : Hid (Ext w WF) := hide (by rw [hWF]; exact (((((Xwy.out.setCell (by simp) _).setCell (by simp) _).setCell (by simp) _).setCell (by simp) _).setCell (by simp) _).setCell (by simp) _)
      have PF : Hid (CpF w WF (.mk p.kind p.n (p.types.map Ty.pure) Xs) U) := hide (by
        have hsW := HsW.out
        have hg1 := grown_trans (grown_cell y w.heap.size 3 (.slice (some ⟨W.heap.size, 0, none⟩) p.kids.length p.kids.length)) (grown_cell _ w.heap.size 2 (.slice (some ⟨g, 0, none⟩) p.types.length p.types.length))
        have hg2 : ((y.setCell ⟨w.heap.size, 3, none⟩ (.slice (some ⟨W.heap.size, 0, none⟩) p.kids.length p.kids.length)).setCell ⟨w.heap.size, 2, none⟩ (.slice (some ⟨g, 0, none⟩) p.types.length p.types.length)).grownBy WF (some (w.heap.size + 1)) := by
          rw [hWF]
          exact grown_trans (grown_trans (grown_trans (grown_cell _ _ _ _) (grown_cell _ _ _ _)) (grown_cell _ _ _ _)) (grown_cell _ _ _ _)
        have h1 := (HPy.out.grown hg1 (fun c e => by injection e with e; omega)).grown hg2 (fun c e => by injection e with e; omega)
        have hwr : W.heap.size ≤ wr.heap.size := HX.out.size
        have h2 := (HV.out.grown hg1 (fun c e => by injection e with e; omega)).grown hg2 (fun c e => by injection e with e; omega)
        rw [hU]
        have hblk : WF.heap[W.heap.size]? = some (.cells (us.flatMap pfC.f).toArray 31 (0, 0)) := by
          have a1 : W.heap.size ≠ w.heap.size := by omega
          have a2 : W.heap.size ≠ w.heap.size + 1 := by omega
          rw [hWF, Below.heap_setCell _ _ _ _ a2, Below.heap_setCell _ _ _ _ a2, Below.heap_setCell _ _ _ _ a2, Below.heap_setCell _ _ _ _ a2, Below.heap_setCell _ _ _ _ a1, Below.heap_setCell _ _ _ _ a1]
          exact HRy.out
        exact h1.done h2.tys h2.is (fun v hv c hc => h2.away v hv c (by omega)) (by have := h2.new; omega) (by rw [h2.len]; omega) hun (by omega) (RowOf.block pfC us hblk) (by omega))
      have hvl : vs.length = p.types.length := HV.out.len
      have hUv : pfV U = .agg #[.int .i64 p.kind, .int .i64 p.n, .slice (some ⟨g, 0, none⟩) p.types.length p.types.length, .slice (some ⟨W.heap.size, 0, none⟩) p.kids.length p.kids.length] := by
        rw [hU]; unfold pfV; show Value.agg #[_, _, .slice _ vs.length vs.length, .slice _ us.length _] = _; rw [hun, hvl]; rfl
      clear HRy HPy hU HV hvl hun
      go_wp2
      rw [← hWF]
      refine bodyPost_ret (v := .tuple #[.agg #[.int .i64 p.kind, .int .i64 p.n, .slice (some ⟨g, 0, none⟩) p.types.length p.types.length, .slice (some ⟨W.heap.size, 0, none⟩) p.kids.length p.kids.length], .int .i64 (left - (Z0 : Int)), .bool true]) ?_ rfl ⟨⟨U, _, by rw [← hUv]; rfl, fun X h => (by cases h; exact ⟨PF.out, rfl⟩)⟩, XF.out⟩
      rw [hWF]
      simp [results, Tryz.f29, go_sem, y0, y1, y2, y3]

theorem f_put24 (L : Option Addr) (cap : Nat) (l : List Pf) (hln : l.length ≤ 9223372036854775807) (hlw : ∀ x ∈ l, wideF x = true ∧ x.size ≤ 100000) (p : Pf) : PutCF L cap l p := by
  induction p using Pf.ind with
  | h p ih =>
  cases h1 : (p.kind == 1)
  · exact f_put_kids L cap l p h1 ih
  · exact f_put_given L cap l hln hlw p h1
/-- What Put tells. -/
structure PutE (w w' : World) (l : List Pf) (p u : Pf) (n : Int) : Prop where
  no : putK l p = none → n = 1 ∧ u = Pf.zero
  yes : ∀ X, putK l p = some X → putZ l p ≤ 4096 → n = 0 ∧ CpF w w' X u
  lim : ∀ X, putK l p = some X → 4096 < putZ l p → n = 2 ∧ u = Pf.zero

set_option maxRecDepth 10000 in
set_option maxHeartbeats 4000000 in
theorem f_Put (L : Option Addr) (cap : Nat) (l : List Pf) (hln : l.length ≤ 9223372036854775807) (hlw : ∀ x ∈ l, wideF x = true ∧ x.size ≤ 100000) (p : Pf) (w : World) (hl : PfsIn w L l) (hp : PfIn w p) (hw : wideF p = true) (hsz : p.size ≤ 100000) (hz : putZ l p ≤ 1000000000000) :
    Calls Tryz.prog 15 #[pfV p, .slice L l.length cap] w fun e w' => (∃ u n, e = .returned (.tuple #[pfV u, .int .i64 n]) ∧ PutE w w' l p u n) ∧ Ext w w' := by
  obtain ⟨W, hW⟩ : ∃ W, W = (w.alloc (.cells #[.int .i64 p.kind, .int .i64 p.n, .slice p.T p.types.length p.tc, .slice p.A p.kids.length p.cap] 31)).alloc (.cells #[.int .i64 0, .int .i64 0, .slice none 0 0, .slice none 0 0] 31) := ⟨_, rfl⟩
  have HW := hide hW.symm
  have X0 : Hid (Ext w W) := hide (by rw [hW]; exact ((Ext.refl _).alloc _).alloc _)
  have B1 : Hid (FBox W w.heap.size p) := hide (by rw [hW]; exact (FBox.new w p).ext ((Ext.refl _).alloc _))
  have B2 : Hid (W.heap[w.heap.size + 1]? = some (.cells #[.int .i64 0, .int .i64 0, .slice none 0 0, .slice none 0 0] 31)) := hide (by rw [hW]; exact at_newB _ _ _ (by simp))
  have HsW : Hid (W.heap.size = w.heap.size + 2) := hide (by rw [hW]; simp)
  obtain ⟨c0, c1, c2, c3⟩ := B1.out.cells
  have HC := hide (f_put24 L cap l hln hlw p W 4096 (hl.ext X0.out) (hp.ext X0.out) hw hsz (by omega) (by omega))
  have HE0 : ∀ w' u n, PutE w w' l p u n ↔ ((putK l p = none → n = 1 ∧ u = Pf.zero) ∧ (∀ X, putK l p = some X → putZ l p ≤ 4096 → n = 0 ∧ CpF w w' X u) ∧ (∀ X, putK l p = some X → 4096 < putZ l p → n = 2 ∧ u = Pf.zero)) := fun w' u n => ⟨fun h => ⟨h.no, h.yes, h.lim⟩, fun h => ⟨h.1, h.2.1, h.2.2⟩⟩
  have HE := hide HE0
  clear HE0
  unfold PutOkF at HC
  have hz0 : (0 : Int) ≤ (putZ l p : Int) := by omega
  clear hW hp hw hl hlw
  generalize hK : putK l p = K0 at *
  generalize hZ : putZ l p = Z0 at *
  have HPE := hide (fun w' u n (h : (K0 = none → n = 1 ∧ u = Pf.zero) ∧ (∀ X, K0 = some X → Z0 ≤ 4096 → n = 0 ∧ CpF w w' X u) ∧ (∀ X, K0 = some X → 4096 < Z0 → n = 2 ∧ u = Pf.zero)) => (HE.out w' u n).2 h)
  clear HE hK hZ
  unfold pfV at *
  go_enter Tryz.func15, Tryz.ntmps15
  go_upto_region 1 with fail
  rw [HW.out]
  clear HW
  go_wp2_with fail
  refine HC.out.mono ?_
  rintro e y ⟨⟨u, n, rfl, hu⟩, hx⟩
  have Xy := hide (X0.out.trans hx)
  have D2 := hide ((hx.heap (lt_of_obj B2.out)).trans B2.out)
  have hy1 := lt_of_obj D2.out
  obtain ⟨y0, y1, y2, y3, yf0, yf1, yf2, yf3⟩ := f0_cells D2.out
  clear c0 c1 c2 c3 hx HC
  cases K0 with
  | none =>
    simp only [Option.isSome_none]
    go_wp2
    refine bodyPost_ret (v := .tuple #[.agg #[.int .i64 0, .int .i64 0, .slice none 0 0, .slice none 0 0], .int .i64 1]) ?_ rfl ⟨⟨Pf.zero, 1, rfl, HPE.out _ _ _ ⟨fun _ => ⟨rfl, rfl⟩, (fun X h => by cases h), (fun X h => by cases h)⟩⟩, ?_⟩
    · simp [results, Tryz.f15, go_sem, y0, y1, y2, y3, hy1]
    · refine Ext.alloc ?_ _
      exact ext_set4 Xy.out (by omega) _ _ _ _
  | some X =>
    obtain ⟨hu1, rfl⟩ := hu X rfl
    have Hu := hide hu1
    simp only [Option.isSome_some]
    clear hu hu1
    by_cases hlim : 4096 < Z0
    · have hneg : (4096 : Int) - (Z0 : Int) < 0 := by omega
      have HL := hide hlim
      clear hlim
      go_wp2
      refine bodyPost_ret (v := .tuple #[.agg #[.int .i64 0, .int .i64 0, .slice none 0 0, .slice none 0 0], .int .i64 2]) ?_ rfl ⟨⟨Pf.zero, 2, rfl, HPE.out _ _ _ ⟨(fun h => by cases h), (fun X _ h => absurd h (by have := HL.out; omega)), (fun X _ _ => ⟨rfl, rfl⟩)⟩⟩, ?_⟩
      · simp [results, Tryz.f15, go_sem, y0, y1, y2, y3, hy1]
      · refine Ext.alloc ?_ _
        exact ext_set4 Xy.out (by omega) _ _ _ _
    · have hneg : ¬ (4096 : Int) - (Z0 : Int) < 0 := by omega
      have HL := hide hlim
      have XE := hide (ext_set4 Xy.out (b := w.heap.size + 1) (by omega))
      have HF : ∀ o, CpF w ((((((y.setCell ⟨w.heap.size + 1, 0, none⟩ (.int .i64 u.kind)).setCell ⟨w.heap.size + 1, 1, none⟩ (.int .i64 u.n)).setCell ⟨w.heap.size + 1, 2, none⟩ (.slice u.T u.types.length u.tc)).setCell ⟨w.heap.size + 1, 3, none⟩ (.slice u.A u.kids.length u.cap))).alloc o) X u := fun o => by
        have hW0 := HsW.out
        refine CpF.ext ?_ ((Ext.refl _).alloc _)
        refine CpF.old (w1 := W) ?_ (by omega)
        exact CpF.grown Hu.out (grown_trans (grown_trans (grown_trans (grown_cell _ _ _ _) (grown_cell _ _ _ _)) (grown_cell _ _ _ _)) (grown_cell _ _ _ _)) (fun c e => by injection e with e; omega)
      have HF := hide HF
      clear hlim
      go_wp2
      refine bodyPost_ret (v := .tuple #[.agg #[.int .i64 u.kind, .int .i64 u.n, .slice u.T u.types.length u.tc, .slice u.A u.kids.length u.cap], .int .i64 0]) ?_ rfl ⟨⟨u, 0, rfl, HPE.out _ _ _ ⟨(fun h => by cases h), (fun X h _ => by cases h; exact ⟨rfl, HF.out _⟩), (fun X _ h => absurd h HL.out)⟩⟩, (XE.out _ _ _ _).alloc _⟩
      simp [results, Tryz.f15, go_sem, y0, y1, y2, y3, hy1]

end Go.Proofs.YtpdcjjgkpbpleaaGreatDoor

/- Contract: strings.Join of one text. -/
namespace Go.Proofs.YtpdcjjgkpbpleaaGreatDoor
open Go.RowKit

set_option maxRecDepth 10000 in
set_option maxHeartbeats 2000000 in
theorem s_join1 (g cap : Nat) (s sep : Str) (w : World) (h : w.heap[g]? = some (.cells #[encStr s] 9 (0, 0))) : Calls Tryz.prog 31 #[.slice (some ⟨g, 0, none⟩) 1 cap, encStr sep] w fun e w' => e = .returned (encStr s) ∧ w' = w := by
  have k0 := bytes_block h 0
  simp only [List.getElem?_toArray, List.getElem?_cons_zero] at k0
  clear h
  go_enter Tryz.func31, Tryz.ntmps31
  go_wp2
  go_ret
  exact ⟨rfl, rfl⟩

end Go.Proofs.YtpdcjjgkpbpleaaGreatDoor

/- Contracts: the text of a proof of one proof, of one of one, ..; what it uses; whether two are the same. -/
namespace Go.Proofs.YtpdcjjgkpbpleaaGreatDoor
open Go.RowKit

def TextPC (p : Pf) (s : Str) : Prop := ∀ (w : World), PfIn w p → Calls Tryz.prog 16 #[pfV p] w fun e w' => e = .returned (encStr s) ∧ Ext w w'

set_option maxRecDepth 10000 in
set_option maxHeartbeats 2000000 in
theorem f_text_given (p : Pf) (n : Nat) (hk : (p.kind == 1) = true) (hn : p.n = (n : Int)) (hn2 : n ≤ 9223372036854775807) : TextPC p (([35] : Str) ++ digs n) := by
  intro w h
  obtain ⟨W, hW⟩ : ∃ W, W = w.alloc (.cells #[.int .i64 p.kind, .int .i64 p.n, .slice p.T p.types.length p.tc, .slice p.A p.kids.length p.cap] 31) := ⟨_, rfl⟩
  have HW := hide hW.symm
  have X0 : Hid (Ext w W) := hide (by rw [hW]; exact (Ext.refl w).alloc _)
  have HB : Hid (FBox W w.heap.size p) := hide (by rw [hW]; exact FBox.new w p)
  obtain ⟨c0, c1, c2, c3⟩ := HB.out.cells
  clear hW
  have HT := hide (fun w' => i_text n hn2 w')
  have H20 : Hid ((digs n).length ≤ 20) := hide (digs_len 19 n (Nat.lt_of_le_of_lt hn2 (by decide)))
  have hlen := H20.out
  rw [hn] at c1
  clear h hn hn2
  generalize digs n = s at *
  have hs1 : ¬ ((⟨#[35]⟩ : ByteArray).size + (⟨s.toArray⟩ : ByteArray).size > 9223372036854775807) := by rw [ba_size s]; show ¬ (1 + s.length > _); omega
  have e1 : (ByteArray.mk #[35] ++ ByteArray.mk s.toArray) = ByteArray.mk ([35] ++ s : Str).toArray := ByteArray.mk_append_mk [35] s
  have hq1 : ¬ (9223372036854775807 < 1 + s.length) := by omega
  generalize ([35] ++ s : Str) = s1 at *
  unfold pfV
  go_enter Tryz.func16, Tryz.ntmps16
  go_upto_region 1 with fail
  rw [HW.out]
  clear HW
  go_wp2_with fail
  refine (HT.out _).mono ?_
  rintro e w2 ⟨rfl, hx⟩
  go_wp2
  go_ret
  exact ⟨rfl, X0.out.trans hx⟩

set_option maxRecDepth 10000 in
set_option maxHeartbeats 4000000 in
theorem f_text_super (p : Pf) (n : Nat) (k : Pf) (s : Str) (hk1 : (p.kind == 1) = false) (hk : (p.kind == 2) = true) (hn : p.n = (n : Int)) (hn2 : n ≤ 9223372036854775807) (hks : p.kids = [k]) (hs : s.length ≤ 1000000) (HTk : TextPC k s) : TextPC p (s ++ ([46] : Str) ++ digs n) := by
  intro w h
  obtain ⟨W, hW⟩ : ∃ W, W = w.alloc (.cells #[.int .i64 p.kind, .int .i64 p.n, .slice p.T p.types.length p.tc, .slice p.A p.kids.length p.cap] 31) := ⟨_, rfl⟩
  have HW := hide hW.symm
  have X0 : Hid (Ext w W) := hide (by rw [hW]; exact (Ext.refl w).alloc _)
  have HB : Hid (FBox W w.heap.size p) := hide (by rw [hW]; exact FBox.new w p)
  obtain ⟨c0, c1, c2, c3⟩ := HB.out.cells
  clear hW
  have hal := h.all
  rw [hks] at hal
  obtain ⟨b, o, hA, hb, q0, q1, q2, q3⟩ := (hal.ext X0.out).at_ (i := 0) (by simp)
  have HTk := hide (fun w' (e : Ext W w') => hide (HTk w' ((hal.kids k (by simp)).ext (X0.out.trans e))))
  have HT := hide (fun w' => i_text n hn2 w')
  have H20 : Hid ((digs n).length ≤ 20) := hide (digs_len 19 n (Nat.lt_of_le_of_lt hn2 (by decide)))
  have hlen := H20.out
  rw [hn] at c1
  have hkl : p.kids.length = 1 := by rw [hks]; rfl
  simp only [Nat.zero_mul, Nat.add_zero, List.getElem_cons_zero] at q0 q1 q2 q3
  rw [hkl, hA] at c3
  unfold pfV at *
  rw [hkl, hA] at HW ⊢
  clear h hn hn2 hal hks hkl hA
  generalize digs n = d at *
  have hs1 : ¬ ((⟨s.toArray⟩ : ByteArray).size + (⟨#[46]⟩ : ByteArray).size > 9223372036854775807) := by rw [ba_size s]; show ¬ (s.length + 1 > _); omega
  have e1 : (ByteArray.mk s.toArray ++ ByteArray.mk #[46]) = ByteArray.mk (s ++ [46] : Str).toArray := ByteArray.mk_append_mk s [46]
  have hs2 : ¬ ((⟨(s ++ [46] : Str).toArray⟩ : ByteArray).size + (⟨d.toArray⟩ : ByteArray).size > 9223372036854775807) := by rw [ba_size, ba_size]; simp; omega
  have e2 : (ByteArray.mk (s ++ [46] : Str).toArray ++ ByteArray.mk d.toArray) = ByteArray.mk (s ++ [46] ++ d : Str).toArray := ByteArray.mk_append_mk (s ++ [46]) d
  have hq1 : ¬ (9223372036854775807 < s.length + 1) := by omega
  have hq2 : ¬ (9223372036854775807 < (s ++ ([46] : Str)).length + d.length) := by simp; omega
  generalize (s ++ ([46] : Str) ++ d : Str) = s2 at *
  generalize (s ++ ([46] : Str) : Str) = s1 at *
  have HSS := hide (fun w' (e : Ext W w') => And.intro (e.cell c1) (And.intro (e.cell c3) (And.intro (e.cell q0) (And.intro (e.cell q1) (And.intro (e.cell q2) (e.cell q3))))))
  go_enter Tryz.func16, Tryz.ntmps16
  go_upto_region 1 with fail
  rw [HW.out]
  clear HW
  go_upto_region 4 with fail
  go_region_held3 (fun w' => w'.cell? ⟨w.heap.size, 1, none⟩ = some (.int .i64 (n : Int)) ∧ w'.cell? ⟨w.heap.size, 3, none⟩ = some (.slice (some ⟨b, o, none⟩) 1 p.cap) ∧ w'.cell? ⟨b, o, none⟩ = some (.int .i64 k.kind) ∧ w'.cell? ⟨b, o + 1, none⟩ = some (.int .i64 k.n) ∧ w'.cell? ⟨b, o + 2, none⟩ = some (.slice k.T k.types.length k.tc) ∧ w'.cell? ⟨b, o + 3, none⟩ = some (.slice k.A k.kids.length k.cap)) (first | with_reducible assumption | go_keep) (first
    | (go_at_call 16
       refine Calls.mono (HTk.out _ (by repeat (first | exact Ext.refl _ | exact Ext.pre (by simp) | exact Ext.alloc (by assumption) _ | refine Ext.alloc ?_ _ |  refine Ext.more ?_ _ _ | refine Ext.drew ?_ | refine Ext.drewN ?_ _))).out ?_
       rintro e ya ⟨rfl, hxa⟩
       have E1 : Hid (Ext W ya) := hide (by refine Ext.trans ?_ hxa; exact (by repeat (first | exact Ext.refl _ | exact Ext.pre (by simp) | exact Ext.alloc (by assumption) _ | refine Ext.alloc ?_ _ |  refine Ext.more ?_ _ _ | refine Ext.drew ?_ | refine Ext.drewN ?_ _)))
       have kS := HSS.out ya E1.out
       clear hxa)
    | (go_at_call 30
       refine Calls.mono (HT.out _) ?_
       rintro e yb ⟨rfl, hxb⟩
       have E2 : Hid (Ext ya yb) := hide (by refine Ext.trans ?_ hxb; exact (by repeat (first | exact Ext.refl _ | exact Ext.pre (by simp) | exact Ext.alloc (by assumption) _ | refine Ext.alloc ?_ _ |  refine Ext.more ?_ _ _ | refine Ext.drew ?_ | refine Ext.drewN ?_ _)))
       have kS := HSS.out yb (E1.out.trans E2.out)
       clear hxb))
  all_goals
    go_wp2
    go_ret
    exact ⟨rfl, X0.out.trans (E1.out.trans E2.out)⟩

set_option maxRecDepth 10000 in
set_option maxHeartbeats 4000000 in
theorem f_text_inst1 (p : Pf) (n : Nat) (k : Pf) (s : Str) (hk1 : (p.kind == 1) = false) (hk2 : (p.kind == 2) = false) (hk : (p.kind != 3) = false) (hn : p.n = (n : Int)) (hn2 : n ≤ 9223372036854775807) (hks : p.kids = [k]) (hs : s.length ≤ 1000000) (HTk : TextPC k s) : TextPC p (([64] : Str) ++ digs n ++ ([40] : Str) ++ s ++ ([41] : Str)) := by
  intro w h
  obtain ⟨W, hW⟩ : ∃ W, W = w.alloc (.cells #[.int .i64 p.kind, .int .i64 p.n, .slice p.T p.types.length p.tc, .slice p.A p.kids.length p.cap] 31) := ⟨_, rfl⟩
  have HW := hide hW.symm
  have X0 : Hid (Ext w W) := hide (by rw [hW]; exact (Ext.refl w).alloc _)
  have HB : Hid (FBox W w.heap.size p) := hide (by rw [hW]; exact FBox.new w p)
  obtain ⟨c0, c1, c2, c3⟩ := HB.out.cells
  clear hW
  have hal := h.all
  rw [hks] at hal
  obtain ⟨b, o, hA, hb, q0, q1, q2, q3⟩ := (hal.ext X0.out).at_ (i := 0) (by simp)
  have Hq := hide (fun w' (e : Ext W w') => And.intro (e.cell q0) (And.intro (e.cell q1) (And.intro (e.cell q2) (e.cell q3))))
  have HTk := hide (fun w' (e : Ext W w') => hide (HTk w' ((hal.kids k (by simp)).ext (X0.out.trans e))))
  have HT := hide (fun w' => i_text n hn2 w')
  have H20 : Hid ((digs n).length ≤ 20) := hide (digs_len 19 n (Nat.lt_of_le_of_lt hn2 (by decide)))
  have hlen := H20.out
  rw [hn] at c1
  have hkl : p.kids.length = 1 := by rw [hks]; rfl
  simp only [Nat.zero_mul, Nat.add_zero, List.getElem_cons_zero] at Hq
  rw [hkl, hA] at c3
  have Hc3 := hide (fun w' (e : Ext W w') => e.cell c3)
  unfold pfV at *
  rw [hkl, hA] at HW ⊢
  clear h hn hn2 hal hks hkl hA q0 q1 q2 q3
  generalize digs n = d at *
  have hs1 : ¬ ((⟨#[64]⟩ : ByteArray).size + (⟨d.toArray⟩ : ByteArray).size > 9223372036854775807) := by rw [ba_size d]; show ¬ (1 + d.length > _); omega
  have e1 : (ByteArray.mk #[64] ++ ByteArray.mk d.toArray) = ByteArray.mk ([64] ++ d : Str).toArray := ByteArray.mk_append_mk [64] d
  have hs2 : ¬ ((⟨([64] ++ d : Str).toArray⟩ : ByteArray).size + (⟨#[40]⟩ : ByteArray).size > 9223372036854775807) := by rw [ba_size]; show ¬ (([64] ++ d : Str).length + 1 > _); simp; omega
  have e2 : (ByteArray.mk ([64] ++ d : Str).toArray ++ ByteArray.mk #[40]) = ByteArray.mk ([64] ++ d ++ [40] : Str).toArray := ByteArray.mk_append_mk ([64] ++ d) [40]
  have hs3 : ¬ ((⟨([64] ++ d ++ [40] : Str).toArray⟩ : ByteArray).size + (⟨s.toArray⟩ : ByteArray).size > 9223372036854775807) := by rw [ba_size, ba_size]; simp; omega
  have e3 : (ByteArray.mk ([64] ++ d ++ [40] : Str).toArray ++ ByteArray.mk s.toArray) = ByteArray.mk ([64] ++ d ++ [40] ++ s : Str).toArray := ByteArray.mk_append_mk ([64] ++ d ++ [40]) s
  have hs4 : ¬ ((⟨([64] ++ d ++ [40] ++ s : Str).toArray⟩ : ByteArray).size + (⟨#[41]⟩ : ByteArray).size > 9223372036854775807) := by rw [ba_size]; show ¬ (([64] ++ d ++ [40] ++ s : Str).length + 1 > _); simp; omega
  have e4 : (ByteArray.mk ([64] ++ d ++ [40] ++ s : Str).toArray ++ ByteArray.mk #[41]) = ByteArray.mk ([64] ++ d ++ [40] ++ s ++ [41] : Str).toArray := ByteArray.mk_append_mk ([64] ++ d ++ [40] ++ s) [41]
  generalize ([64] ++ d ++ [40] ++ s ++ [41] : Str) = s4 at *
  generalize ([64] ++ d ++ [40] ++ s : Str) = s3 at *
  generalize ([64] ++ d ++ [40] : Str) = s2 at *
  generalize ([64] ++ d : Str) = s1 at *
  go_enter Tryz.func16, Tryz.ntmps16
  go_upto_region 1 with fail
  rw [HW.out]
  clear HW
  go_wp2_with fail
  refine (HT.out _).mono ?_
  rintro e w2 ⟨rfl, hx⟩
  have X2 := hide hx
  have c3' := Hc3.out _ X2.out
  clear hx c0 c1 c2 c3
  have hmk : ∀ u : World, (Instr.makeSlice 51 (.int .i64 1) (.int .i64 1)).run Tryz.prog u = .ok (.slice (some ⟨u.heap.size, 0, none⟩) 1 1) (u.alloc (.cells #[.string ⟨#[]⟩] 9)) := by intro u; kernel_rfl
  have hbl : w.heap.size < w2.heap.size := Nat.lt_of_lt_of_le HB.out.lt X2.out.size
  go_wp2
  clear hmk c3'
  have HG : Hid ((w2.alloc (.cells #[.string ⟨#[]⟩] 9)).heap[w2.heap.size]? = some (.cells #[encStr []] 9 (0, 0))) := hide (at_newB _ _ _ rfl)
  go_loopw [55] (fun i wr => ∃ (m : Nat) (x : Str), m ≤ 1 ∧ i = .int .i64 m ∧ Hid (m = 1 → x = s) ∧ Hid (Ext w2 wr) ∧ Hid (wr.heap[w2.heap.size]? = some (.cells #[encStr x] 9 (0, 0)))) (fun i _ => 1 - (intOf i).toNat)
  case atStart => exact ⟨0, [], Nat.zero_le _, rfl, hide (fun h => by cases h), hide ((Ext.refl _).alloc _), HG⟩
  case round =>
    obtain ⟨m, x, hm, rfl, HS, HX, HR⟩ := hrel
    have XR := hide (X2.out.trans HX.out)
    by_cases hlt : m < 1
    · obtain rfl : m = 0 := by omega
      obtain ⟨q0, q1, q2, q3⟩ := Hq.out _ XR.out
      have k0 := bytes_block HR.out 0
      simp only [List.getElem?_toArray, List.getElem?_cons_zero] at k0
      have hgr := lt_of_obj HR.out
      have HC := hide (HTk.out _ (XR.out.alloc (.cells #[.int .i64 k.kind, .int .i64 k.n, .slice k.T k.types.length k.tc, .slice k.A k.kids.length k.cap] 31)))
      clear k0 hgr
      go_wp2_with fail
      refine HC.out.out.mono ?_
      rintro e y ⟨rfl, hxy⟩
      have Xy := hide (((Ext.refl wr).alloc (.cells #[.int .i64 k.kind, .int .i64 k.n, .slice k.T k.types.length k.tc, .slice k.A k.kids.length k.cap] 31)).trans hxy)
      have HRy := hide ((Xy.out.heap (lt_of_obj HR.out)).trans HR.out)
      have k0 := bytes_block HRy.out 0
      simp only [List.getElem?_toArray, List.getElem?_cons_zero] at k0
      have kf := free_block HRy.out 0
      have HRn : Hid ((y.setCell ⟨w2.heap.size, 0, none⟩ (encStr s)).heap[w2.heap.size]? = some (.cells #[encStr s] 9 (0, 0))) := hide (by have := blk_setCell HRy.out 0 (encStr s); simpa using this)
      have Xn : Hid (Ext w2 (y.setCell ⟨w2.heap.size, 0, none⟩ (encStr s))) := hide ((HX.out.trans Xy.out).setCell (by simp) _)
      clear hxy HRy HC
      go_wp2
      go_roundw
      case rel => exact ⟨1, s, Nat.le_refl _, rfl, hide (fun _ => rfl), Xn, HRn⟩
      case measure => simp [intOf]
    · obtain rfl : m = 1 := by omega
      obtain rfl := HS.out rfl
      have HJ := hide (fun sep => s_join1 w2.heap.size 1 x sep wr HR.out)
      have hgr := lt_of_obj HR.out
      go_wp2_with fail
      refine (HJ.out _).mono ?_
      rintro e y ⟨rfl, hy⟩
      rw [hy]
      clear hy
      go_wp2
      go_ret
      exact ⟨rfl, X0.out.trans XR.out⟩

end Go.Proofs.YtpdcjjgkpbpleaaGreatDoor

/- Contracts of Go's package slices on rows of types: alike, and of another length. -/
namespace Go.Proofs.YtpdcjjgkpbpleaaGreatDoor
open Go.RowKit

set_option maxRecDepth 10000 in
set_option maxHeartbeats 4000000 in
theorem eq_ft (A B : Option Addr) (ca cb : Nat) (l m : List Ty) (w : World) (hl : TysIn w A l) (hm : TysIn w B m) (h : l.map Ty.pure = m.map Ty.pure) (hn : l.length ≤ 9223372036854775807) :
    Calls Tryz.prog 34 #[.slice A l.length ca, .slice B m.length cb, .func (.func 35) #[] #[]] w fun e w' => e = .returned (.bool true) ∧ Ext w w' := by
  have hlen : l.length = m.length := by simpa using congrArg List.length h
  have HP : Hid (∀ i (h1 : i < l.length) (h2 : i < m.length), sameB (l[i]'h1) (m[i]'h2) = true) := hide (fun i h1 h2 => by
    rw [sameB_iff]
    have : (l.map Ty.pure)[i]? = (m.map Ty.pure)[i]? := by rw [h]
    rw [List.getElem?_map, List.getElem?_map, List.getElem?_eq_getElem h1, List.getElem?_eq_getElem h2] at this
    simpa using this)
  have HL := hide hl
  have HM := hide hm
  have HLn := hide hlen
  rw [← hlen]
  clear hl hm h hlen
  go_enter Tryz.func34, Tryz.ntmps34
  go_wp2
  go_loopw [17] (fun i wr => ∃ k : Nat, k ≤ l.length ∧ i = .int .i64 k ∧ Hid (Ext w wr)) (fun i _ => l.length - (intOf i).toNat)
  case atStart => exact ⟨0, Nat.zero_le _, rfl, hide (by repeat (first | exact Ext.refl _ | exact Ext.pre (by simp) | exact Ext.alloc (by assumption) _ | refine Ext.alloc ?_ _ |  refine Ext.more ?_ _ _ | refine Ext.drew ?_ | refine Ext.drewN ?_ _))⟩
  case round =>
    obtain ⟨k, hk, rfl, HX⟩ := hrel
    by_cases hlt : k < l.length
    · have hltb : k < m.length := by rw [← HLn.out]; exact hlt
      have hlt' : (k : Int) < (l.length : Int) := by omega
      have hk0 : (0 : Int) ≤ (k : Int) := by omega
      obtain ⟨p, o, hA, hp, q0, q1, q2⟩ := (HL.out.ext HX.out).at_ hlt
      obtain ⟨p', o', hB, hp', r0, r1, r2⟩ := (HM.out.ext HX.out).at_ hltb
      have HC := hide (fun w' (e : Ext w w') => hide (t_same (l[k]'hlt) (m[k]'hltb) w' ((HL.out.args _ (List.getElem_mem hlt)).ext e) ((HM.out.args _ (List.getElem_mem hltb)).ext e)))
      rw [HP.out k hlt hltb] at HC
      generalize l[k]'hlt = x at *
      generalize m[k]'hltb = y at *
      rw [hA, hB]
      clear hA hB
      unfold tyV at HC
      go_wp2_with fail
      refine (HC.out _ ((HX.out.alloc _).alloc _)).out.mono ?_
      rintro e w5 ⟨rfl, hx5⟩
      have X5 := hide (((HX.out.alloc _).alloc _).trans hx5)
      clear hx5
      go_wp2
      go_roundw
      case rel => exact ⟨k + 1, hlt, by go_num, X5⟩
      case measure => simp [intOf]; omega
    · have hge : ¬ (k : Int) < (l.length : Int) := by omega
      go_wp2
      go_ret
      exact ⟨rfl, HX.out⟩

set_option maxRecDepth 10000 in
set_option maxHeartbeats 1000000 in
theorem ne_ft (A B : Option Addr) (ca cb n m : Nat) (w : World) (h : n ≠ m) : Calls Tryz.prog 34 #[.slice A n ca, .slice B m cb, .func (.func 35) #[] #[]] w fun e w' => e = .returned (.bool false) ∧ Ext w w' := by
  have h1 : ((n : Int) != (m : Int)) = true := by simp; omega
  have h2 : (n != m) = true := by simpa using h
  have h3 : (n == m) = false := by simpa using h
  have h4 : ((n : Int) == (m : Int)) = false := by simp; omega
  go_enter Tryz.func34, Tryz.ntmps34
  go_wp2
  go_ret
  exact ⟨rfl, Ext.refl _⟩

end Go.Proofs.YtpdcjjgkpbpleaaGreatDoor

/- Contracts: whether two proofs are the same. -/
namespace Go.Proofs.YtpdcjjgkpbpleaaGreatDoor
open Go.RowKit

set_option maxRecDepth 10000 in
set_option maxHeartbeats 4000000 in
theorem eq_ff (A B : Option Addr) (ca cb : Nat) (l m : List Pf) (w : World) (hl : PfsIn w A l) (hm : PfsIn w B m) (h : l.map Pf.pure = m.map Pf.pure) (hf : ∀ x ∈ l, ∀ (y : Pf) (w : World), PfIn w x → PfIn w y → x.pure = y.pure → Calls Tryz.prog 19 #[pfV x, pfV y] w fun e w' => e = .returned (.bool true) ∧ Ext w w') (hn : l.length ≤ 9223372036854775807) :
    Calls Tryz.prog 36 #[.slice A l.length ca, .slice B m.length cb, .func (.func 19) #[] #[]] w fun e w' => e = .returned (.bool true) ∧ Ext w w' := by
  have hlen : l.length = m.length := by simpa using congrArg List.length h
  have HP : Hid (∀ i (h1 : i < l.length) (h2 : i < m.length), (l[i]'h1).pure = (m[i]'h2).pure) := hide (fun i h1 h2 => by
    have : (l.map Pf.pure)[i]? = (m.map Pf.pure)[i]? := by rw [h]
    rw [List.getElem?_map, List.getElem?_map, List.getElem?_eq_getElem h1, List.getElem?_eq_getElem h2] at this
    simpa using this)
  have HL := hide hl
  have HM := hide hm
  have HLn := hide hlen
  have HFf := hide hf
  rw [← hlen]
  clear hl hm h hlen hf
  go_enter Tryz.func36, Tryz.ntmps36
  go_wp2
  go_loopw [17] (fun i wr => ∃ k : Nat, k ≤ l.length ∧ i = .int .i64 k ∧ Hid (Ext w wr)) (fun i _ => l.length - (intOf i).toNat)
  case atStart => exact ⟨0, Nat.zero_le _, rfl, hide (by repeat (first | exact Ext.refl _ | exact Ext.pre (by simp) | exact Ext.alloc (by assumption) _ | refine Ext.alloc ?_ _ |  refine Ext.more ?_ _ _ | refine Ext.drew ?_ | refine Ext.drewN ?_ _))⟩
  case round =>
    obtain ⟨k, hk, rfl, HX⟩ := hrel
    by_cases hlt : k < l.length
    · have hltb : k < m.length := by rw [← HLn.out]; exact hlt
      have hlt' : (k : Int) < (l.length : Int) := by omega
      have hk0 : (0 : Int) ≤ (k : Int) := by omega
      obtain ⟨p, o, hA, hp, q0, q1, q2, q3⟩ := (HL.out.ext HX.out).at_ hlt
      obtain ⟨p', o', hB, hp', r0, r1, r2, r3⟩ := (HM.out.ext HX.out).at_ hltb
      have HC := hide (fun w' (e : Ext w w') => hide (HFf.out _ (List.getElem_mem hlt) (m[k]'hltb) w' ((HL.out.kids _ (List.getElem_mem hlt)).ext e) ((HM.out.kids _ (List.getElem_mem hltb)).ext e) (HP.out k hlt hltb)))
      generalize l[k]'hlt = x at *
      generalize m[k]'hltb = y at *
      rw [hA, hB]
      clear hA hB
      unfold pfV at HC
      go_wp2_with fail
      refine (HC.out _ ((HX.out.alloc _).alloc _)).out.mono ?_
      rintro e w5 ⟨rfl, hx5⟩
      have X5 := hide (((HX.out.alloc _).alloc _).trans hx5)
      clear hx5
      go_wp2
      go_roundw
      case rel => exact ⟨k + 1, hlt, by go_num, X5⟩
      case measure => simp [intOf]; omega
    · have hge : ¬ (k : Int) < (l.length : Int) := by omega
      go_wp2
      go_ret
      exact ⟨rfl, HX.out⟩

set_option maxRecDepth 10000 in
set_option maxHeartbeats 4000000 in
theorem f_sameF_eq (a : Pf) : ∀ (b : Pf) (w : World), PfIn w a → PfIn w b → a.pure = b.pure → Calls Tryz.prog 19 #[pfV a, pfV b] w fun e w' => e = .returned (.bool true) ∧ Ext w w' := by
  induction a using Pf.ind with
  | h a ih =>
  intro b w ha hb h
  obtain ⟨h1, h2, h5, h6⟩ := pf_parts h
  have HT := hide (fun w' (e : Ext w w') => hide (eq_ft a.T b.T a.tc b.tc a.types b.types w' (ha.hd.types.ext e) (hb.hd.types.ext e) h5 (Nat.le_trans ha.hd.tle ha.hd.tmax)))
  have HK := hide (fun w' (e : Ext w w') => hide (eq_ff a.A b.A a.cap b.cap a.kids b.kids w' (ha.all.ext e) (hb.all.ext e) h6 ih (Nat.le_trans ha.hd.le ha.hd.max)))
  have g1 : (a.kind == b.kind) = true := by rw [h1]; simp
  have g2 : (a.n == b.n) = true := by rw [h2]; simp
  obtain ⟨W, hW⟩ : ∃ W, W = (w.alloc (.cells #[.int .i64 a.kind, .int .i64 a.n, .slice a.T a.types.length a.tc, .slice a.A a.kids.length a.cap] 31)).alloc (.cells #[.int .i64 b.kind, .int .i64 b.n, .slice b.T b.types.length b.tc, .slice b.A b.kids.length b.cap] 31) := ⟨_, rfl⟩
  have HW := hide hW.symm
  have X0 : Hid (Ext w W) := hide (by rw [hW]; exact ((Ext.refl _).alloc _).alloc _)
  have B1 : Hid (FBox W w.heap.size a) := hide (by rw [hW]; exact (FBox.new w a).ext ((Ext.refl _).alloc _))
  have B2 : Hid (FBox W (w.heap.size + 1) b) := hide (by rw [hW]; exact at_newB _ _ _ (by simp))
  clear h h1 h2 h5 h6 ih ha hb hW
  unfold pfV
  obtain ⟨c0, c1, c2, c3⟩ := B1.out.cells
  obtain ⟨d0, d1, d2, d3⟩ := B2.out.cells
  go_enter Tryz.func19, Tryz.ntmps19
  go_upto_region 1 with fail
  rw [HW.out]
  go_wp2_with fail
  refine (HT.out _ X0.out).out.mono ?_
  rintro e w2 ⟨rfl, hx⟩
  have X2 := hide hx
  obtain ⟨-, -, c2, c3⟩ := (B1.out.ext X2.out).cells
  obtain ⟨-, -, d2, d3⟩ := (B2.out.ext X2.out).cells
  clear hx
  go_wp2_with fail
  refine (HK.out _ (X0.out.trans X2.out)).out.mono ?_
  rintro e w3 ⟨rfl, hx⟩
  go_wp2
  go_ret
  exact ⟨rfl, X0.out.trans (X2.out.trans hx)⟩

set_option maxRecDepth 10000 in
set_option maxHeartbeats 4000000 in
theorem f_sameF_ne (a b : Pf) (w : World) (g1 : (a.kind == b.kind) = true) (g2 : (a.n == b.n) = true) (h : a.types.length ≠ b.types.length) : Calls Tryz.prog 19 #[pfV a, pfV b] w fun e w' => e = .returned (.bool false) ∧ Ext w w' := by
  obtain ⟨W, hW⟩ : ∃ W, W = (w.alloc (.cells #[.int .i64 a.kind, .int .i64 a.n, .slice a.T a.types.length a.tc, .slice a.A a.kids.length a.cap] 31)).alloc (.cells #[.int .i64 b.kind, .int .i64 b.n, .slice b.T b.types.length b.tc, .slice b.A b.kids.length b.cap] 31) := ⟨_, rfl⟩
  have HW := hide hW.symm
  have HT := hide (fun w' => ne_ft a.T b.T a.tc b.tc a.types.length b.types.length w' h)
  have X0 : Hid (Ext w W) := hide (by rw [hW]; exact ((Ext.refl _).alloc _).alloc _)
  have B1 : Hid (FBox W w.heap.size a) := hide (by rw [hW]; exact (FBox.new w a).ext ((Ext.refl _).alloc _))
  have B2 : Hid (FBox W (w.heap.size + 1) b) := hide (by rw [hW]; exact at_newB _ _ _ (by simp))
  clear hW h
  unfold pfV
  obtain ⟨c0, c1, c2, c3⟩ := B1.out.cells
  obtain ⟨d0, d1, d2, d3⟩ := B2.out.cells
  go_enter Tryz.func19, Tryz.ntmps19
  go_upto_region 1 with fail
  rw [HW.out]
  go_wp2_with fail
  refine (HT.out _).mono ?_
  rintro e w2 ⟨rfl, hx⟩
  go_wp2
  go_ret
  exact ⟨rfl, X0.out.trans hx⟩

end Go.Proofs.YtpdcjjgkpbpleaaGreatDoor
