/- Contract: the groups of bindings. -/
import Derived.Test.YtbfggmeppakcgaaGreatJA20
/- Contract: the groups of bindings. -/
namespace Go.Proofs.YtbfggmeppakcgaaGreat
open Go.RowKit Go.Sort Go.Maps

theorem zs_snoc (l : List Nat) (x : Nat) : zs (l ++ [x]) = zs l ++ [(x : Int)] := by simp [zs]
theorem bindsL_len' (l : List Tree) : (bindsL l).length = (plOf l).length := by rw [← plOf_names, List.length_map]
theorem wf_nat {n : Nat} (h : n ≤ 1000000) : (Lit.int .i64 (n : Int)).wf = true := by
  simp [Lit.wf, IntKind.min, IntKind.max, IntKind.signed, IntKind.bits]
  omega
theorem grown_trS {a b c : World} {row : Option Nat} (h : a.grownBy b row) (k : b.grownBy c row) : a.grownBy c row := ⟨k.os.trans h.os, k.tape.trans h.tape, k.output.trans h.output, Nat.le_trans h.size k.size, fun j hj hne => (k.block j (Nat.lt_of_lt_of_le hj h.size) hne).trans (h.block j hj hne)⟩
theorem own_keepG {w w' : World} {base : Nat} {e : TypeId} {size : Nat} {v : Value} {n : Nat} {xs : List Value} (h : w.ownsRow base e size v n xs) {row : Option Nat} (hg : w.grownBy w' row) (hr : ∀ k, row = some k → v.ownBlock ≠ some k) : w'.ownsRow base e size v n xs :=
  h.kept hg (by
    cases hv : v.ownBlock with
    | none => exact .inl rfl
    | some k => exact .inr (fun e => hr k e.symm hv))
/-- Within a round: the edge is not yet there, and its name is still to come; or it is there. -/
def EdgeSt (F : Str → Option Int) (us : List (List Str)) (u : List Str) (q : Nat) (left : Lit → Bool) (E : List Edge) : Prop :=
  (E = edgesG F us q ∧ ∀ x ∈ u, (F x).isSome = true → left (.string x) = true) ∨ (E = edgesG F us (q + 1) ∧ ∃ x ∈ u, (F x).isSome = true ∧ left (.string x) = false)
theorem sameKey_str (x y : Str) : (Lit.string x).sameKey (.string y) = true ↔ x = y := by simp [Lit.sameKey]
/-- The first ones turned. -/
def pm {α : Type} (f : α → α) (l : List α) (k : Nat) : List α := (l.take k).map f ++ l.drop k
section
variable {α : Type} {f : α → α} {l : List α} {k : Nat}
theorem pm_zero : pm f l 0 = l := by simp [pm]
theorem pm_all : pm f l l.length = l.map f := by simp [pm]
theorem pm_len : (pm f l k).length = l.length := by simp [pm]; omega
theorem pm_get (h : k < l.length) : (pm f l k)[k]? = some (l[k]'h) := by
  unfold pm
  rw [List.getElem?_append_right (by simp; omega)]
  simp [Nat.min_eq_left (Nat.le_of_lt h), h]
theorem pm_set (h : k < l.length) : (pm f l k).set k (f (l[k]'h)) = pm f l (k + 1) := by
  unfold pm
  rw [List.set_append_right _ _ (by simp; omega), List.take_succ_eq_append_getElem h, List.map_append, List.append_assoc]
  have h0 : k - ((l.take k).map f).length = 0 := by simp; omega
  rw [h0, List.drop_eq_getElem_cons h]
  rfl
end
theorem GpsI.put' {int : TypeId} {base : Nat} {w : World} {A : Option Addr} {out : List SlV} (h : GpsI int base w A out) {i k : Nat} {s : SlV} (hi : out[i]? = some s) (hk : k < s.l.length) :
    ∃ g cap, s.val = .slice (some ⟨g, 0, none⟩) s.l.length cap ∧ base ≤ g ∧ g < w.heap.size ∧ w.frozen? ⟨g, k, none⟩ = false ∧ w.cell? ⟨g, k, none⟩ = some (.int .i64 (s.l[k]'hk)) ∧ ∀ x : Int, GpsI int base (w.setCell ⟨g, k, none⟩ (.int .i64 x)) A (out.set i ⟨s.val, s.l.set k x⟩) := by
  obtain ⟨h1, rfl⟩ := List.getElem?_eq_some_iff.1 hi
  exact h.put h1 hk
theorem GpsI.own' {int : TypeId} {base : Nat} {w : World} {A : Option Addr} {out : List SlV} (h : GpsI int base w A out) {i : Nat} {s : SlV} (hi : out[i]? = some s) : w.ownsRow base int 1 s.val s.l.length (s.l.map (Value.int .i64)) := by
  obtain ⟨h1, rfl⟩ := List.getElem?_eq_some_iff.1 hi
  exact h.own i h1
theorem set_same {α : Type} {l : List α} {k : Nat} {s : α} (h : l[k]? = some s) : l.set k s = l := by
  obtain ⟨h1, rfl⟩ := List.getElem?_eq_some_iff.1 h
  exact List.set_getElem_self h1
def turnV (P : Int → Int) (s : SlV) : SlV := ⟨s.val, s.l.map P⟩
theorem groups_lt {n : Nat} {m : Nat → Nat → Bool} {g : List Nat} (h : g ∈ groupsOf n m) {v : Nat} (hv : v ∈ g) : v < n := by
  obtain ⟨a, -, -, rfl⟩ := selGo_mem _ _ _ h
  unfold compL at hv
  exact List.mem_range.1 (List.mem_filter.1 hv).1
theorem grown_cellG (w : World) (b i : Nat) (v : Value) : w.grownBy (w.setCell ⟨b, i, none⟩ v) (some b) :=
  ⟨rfl, rfl, rfl, by simp, fun k _ hne => heap_setCell_other _ _ _ _ (fun e => hne (congrArg some e))⟩
theorem edge_info : (Tryz.prog.info? 45).map (fun i => (i.zero, i.size, i.bytes)) = some (some (.agg #[.int .i64 0, .int .i64 0]), 2, 16) := by kernel_rfl

set_option maxRecDepth 100000 in
set_option maxHeartbeats 8000000 in
theorem g_groups15 (A : Option Addr) (cap : Nat) (l : List Tree) (w : World) (h : NodesIn w A l) (hl : l.length ≤ 900) (hsz : ∀ t ∈ l, t.size ≤ 9000) (F : Str → Option Int) (hF : ∀ x, lookI (delD (sigsL l) (idxD (bindsL l))) x = F x)
    (us : List (List Str)) (hus : us = (plOf l).map fun p => useN p.1) (h1 : ∀ u ∈ us, ∀ x ∈ u, ∀ y ∈ u, (F x).isSome = true → (F y).isSome = true → x = y) (n : Nat) (hn : n = (plOf l).length)
    (m : Nat → Nat → Bool) (hm : ∀ i j, i < n → (m i j = true ↔ SR (nextN (edgesG F us n)) i j)) (G : List (List Nat)) (hG : G = (groupsOf n m).map fun g => g.map fun v => (placesL l).getD v 0) :
    Calls Tryz.prog 8 #[.slice A l.length cap] w fun e w' => (∃ A' cap', e = .returned (.slice A' G.length cap') ∧ G.length ≤ cap' ∧ cap' ≤ 9223372036854775807 ∧ Grps w' A' G) ∧ Ext w w' := by
  have hmm := @run_makeMap Tryz.prog
  obtain ⟨i0, hi, hz0, hz1, hz2⟩ := info_parts int_info
  obtain ⟨i1, hi1, hy0, hy1, hy2⟩ := info_parts edge_info
  have HK := hide h
  have HSG := hide (fun w' (e : Ext w w') => hide (g_signed A cap l w' (h.ext e) (by omega)))
  have Htk := hide (fun k (hk : k < l.length) => plOf_take l hk)
  have Hbk := hide (fun k (hk : k < l.length) => bindsL_take l hk)
  have Hln := hide (fun k => plOf_len (l.take k))
  have Htx := hide (fun (t : Tree) (ht : t ∈ l) => (h.kids t ht).txt)
  have HS := hide hsz
  have HF := hide hF
  have HFb : Hid (∀ x v, F x = some v → 0 ≤ v ∧ v < (n : Int)) := hide (fun x v hv => by
    rw [← hF x, lookI_delD] at hv
    by_cases hx : x ∈ sigsL l
    · rw [if_pos hx] at hv; cases hv
    · rw [if_neg hx] at hv
      have := (idxD_some hv).2
      rw [bindsL_len', ← hn] at this
      exact this)
  have Hus := hide hus
  have H1 := hide h1
  have Hn := hide hn
  have Hm := hide hm
  have HG := hide hG
  clear h hsz hF hus h1 hn hm hG
  go_enter Tryz.func8, Tryz.ntmps8
  go_wp2
  go_loopw [3, 24] (fun v i wr => ∃ k : Nat, k ≤ l.length ∧ i = .int .i64 k ∧ Hid (Ext w wr) ∧ w.heap.size < wr.heap.size ∧ Hid (wr.ownsMap Tryz.prog 9 (plainElem Tryz.prog 3) w.heap.size k (idxD (bindsL (l.take k)))) ∧ Hid (wr.ownsRow (w.heap.size + 1) 3 1 v (zs (placesL (l.take k))).length ((zs (placesL (l.take k))).map (Value.int .i64)))) (fun _ i _ => l.length - (intOf i).toNat)
  case atStart => exact ⟨0, Nat.zero_le _, rfl, hide ((Ext.refl _).alloc _), by simp, hide (World.ownsMap_made _ _ _ _), hide (World.ownsRow_nil _ _ _ _)⟩
  case round =>
    obtain ⟨k, hk, rfl, HX, hws, HM, HO⟩ := hrel
    by_cases hlt : k < l.length
    · have hlt' : (k : Int) < (l.length : Int) := by omega
      have hk0 : (0 : Int) ≤ (k : Int) := by omega
      obtain ⟨b, o, rfl, hb, q0, q1, q2, q3, q4⟩ := (HK.out.ext HX.out).at_ hlt
      have Hst := hide (Htk.out k hlt)
      have Hbt := hide (Hbk.out k hlt)
      have hxs := Htx.out _ (List.getElem_mem hlt)
      have hol : (zs (placesL (l.take k))).length ≤ k := by have := Hln.out k; rw [List.length_take] at this; rw [zs_len]; unfold placesL; rw [List.length_map]; omega
      have HbL : Hid ((bindsL (l.take k)).length = (zs (placesL (l.take k))).length) := hide (by rw [bindsL_len', zs_len]; unfold placesL; rw [List.length_map])
      have HOl : Hid (∀ x, zs (placesL (l.take (k + 1))) = x → x = zs (placesL (l.take (k + 1)))) := hide (fun x e => e.symm)
      have HpS : Hid (zs (placesL (l.take (k + 1))) = zs (placesL (l.take k)) ++ if (l[k]'hlt).kind == 31 then [(k : Int)] else []) := hide (by
        unfold placesL
        rw [Hst.out, List.map_append]
        cases hk9 : ((l[k]'hlt).kind == 31) <;> simp [zs])
      clear HOl Hst
      generalize zs (placesL (l.take k)) = L at *
      generalize bindsL (l.take k) = B at *
      generalize l[k]'hlt = c at *
      cases hc : (c.kind == 31)
      · rw [hc] at HpS Hbt
        go_wp2
        go_roundw
        case rel => exact ⟨k + 1, hlt, by go_num, hide (HX.out.alloc _), by simp; omega, hide (by rw [Hbt.out]; simpa using (HM.out.alloc _).mono (Nat.le_succ _)), hide (by rw [HpS.out]; simpa using own_extB HO.out ((Ext.refl _).alloc _))⟩
        case measure => simp [intOf]; omega
      · rw [hc] at HpS Hbt
        have hLw : (Lit.int .i64 (L.length : Int)).wf = true := wf_nat (by omega)
        obtain ⟨A1, c1, rfl, hc1, hc2, -, hc4⟩ := Ints.own HO.out
        have HC4 := hide hc4
        clear hc4
        have HKO : Hid (∀ w5, (wr.alloc (.cells #[.int .i64 c.kind, .int .i64 c.pos, .int .i64 c.n, encStr c.text, .slice c.A c.kids.length c.cap] 28)).grownBy w5 (some w.heap.size) → Hid (Ext w w5) ∧ Hid (w5.ownsRow (w.heap.size + 1) 3 1 (.slice A1 L.length c1) L.length (L.map (Value.int .i64))) ∧ w.heap.size < w5.heap.size) := hide (fun w5 hg5 => ⟨hide ((HX.out.alloc _).grown hg5 (fun j e => by injection e with e; omega)), hide ((own_extB HO.out ((Ext.refl _).alloc _)).kept hg5 (by
            cases hv : (Value.slice A1 L.length c1).ownBlock with
            | none => exact .inl rfl
            | some k9 => exact .inr (fun e => by have := (HO.out.lt k9 hv).1; injection e with e; omega))), by have := hg5.size; simp at this; omega⟩)
        go_wp2_with (first
          | (at_mapUpdate; refine wpList_mapUpdate_own _ rfl _ _ _ 39 rfl 9 3 key_law Tryz.underlying39 _ w.heap.size k (idxD B) rfl (HM.out.alloc _) (by unfold maxLen; omega) _ _ _ rfl rfl (key_of hxs) (intD (L.length : Nat)) [] (plainElem_int Tryz.underlying3 hLw) ?_; intro w5 ho5 hg5; have HM5 := hide ho5; have HG5 := hide hg5; obtain ⟨X5, O5, hws5⟩ := HKO.out w5 hg5; clear ho5 hg5)
          | (at_builtin; refine wpList_append_row _ rfl _ _ 30 rfl (w.heap.size + 1) 3 i0 _ 1 8 Tryz.underlying30 hi hz0 hz1 hz2 rfl (by decide) _ L.length (L.map (Value.int .i64)) rfl (own_extB O5.out ((Ext.refl _).alloc _)) _ 1 1 [.int .i64 (k : Nat)] rfl ?c2 ?c3 ?c4 ?c5 ?c6 ?_))
        case c2 => exact Row.boxV _ (at_newB _ _ _ (by simp))
        case c3 => first | rfl | (intro y hy; simp at hy; subst hy; rfl)
        case c4 => unfold maxLen; omega
        case c5 => omega
        case c6 => first | omega | (simp; omega)
        intro v6 w6 ho6 hg6 _
        have X6 := hide (Ext.appU (X5.out.alloc _) hg6 (own_extB O5.out ((Ext.refl _).alloc _)) (by omega))
        have O6 := hide ho6
        have M6 : Hid (w6.ownsMap Tryz.prog 9 (plainElem Tryz.prog 3) w.heap.size (k + 1) ((idxD B).put (.string c.text) (intD (L.length : Nat)))) := hide ((HM5.out.alloc _).kept hg6 (fun e => by have := (HO.out.lt _ e.symm).1; omega))
        have hws6 : w.heap.size < w6.heap.size := by have := hg6.size; simp at this; omega
        clear ho6 hg6
        go_wp2
        go_roundw
        case rel => exact ⟨k + 1, hlt, by go_num, X6, hws6, hide (by rw [Hbt.out, if_pos trivial, idxD_snoc, HbL.out]; exact M6.out), hide (by rw [HpS.out, if_pos trivial]; simpa using O6.out)⟩
        case measure => simp [intOf]; omega
    · have hge : ¬ (k : Int) < (l.length : Int) := by omega
      have hkl : k = l.length := by omega
      subst hkl
      rw [List.take_length] at HM HO
      obtain ⟨PL, hPL⟩ : ∃ PL, PL = zs (placesL l) := ⟨_, rfl⟩
      have HPL := hide hPL
      rw [← hPL] at HO
      have hnl : PL.length = n := by rw [hPL, Hn.out, zs_len]; unfold placesL; rw [List.length_map]
      have hpn := plOf_len l
      rw [← Hn.out] at hpn
      obtain ⟨A1, c1, rfl, hc1, hc2, -, hc4⟩ := Ints.own HO.out
      clear hc4 hPL
      rw [hnl] at HO hc1
      rw [hnl]
      go_wp2_with fail
      have HSg := hide (HSG.out wr HX.out).out
      refine HSg.out.mono ?_
      rintro e w1 ⟨⟨A2, c2, rfl, hd1, hd2, hd3, hd4⟩, hx⟩
      have S2 := hide hd3
      have N2 := hide hd4
      have X1 := hide (HX.out.trans hx)
      have M1 := hide (HM.out.kept (row := none) ⟨hx.below.os, hx.below.tape, hx.below.output, hx.size, fun k hk _ => hx.heap hk⟩ (by simp))
      have O1 := hide (own_extB HO.out hx)
      have hw1 : w.heap.size < w1.heap.size := by have := hx.size; omega
      have Htx2 : Hid (∀ x ∈ sigsL l, x.length ≤ 9223372036854775807) := hide (fun x hx9 => by
        unfold sigsL at hx9
        obtain ⟨t, ht, rfl⟩ := List.mem_map.1 hx9
        exact Htx.out t (List.mem_filter.1 ht).1)
      have hsl := sigsL_len l
      clear hd3 hd4 hx HSg HX HM HO
      generalize hS : sigsL l = S at *
      clear hS
      obtain ⟨D0, hD0⟩ : ∃ D0, idxD (bindsL l) = D0 := ⟨_, rfl⟩
      rw [hD0] at M1 HF
      clear hD0
      go_wp2
      go_loopw [45] (fun i w2 => ∃ k : Nat, k ≤ S.length ∧ i = .int .i64 k ∧ Hid (w1.grownBy w2 (some w.heap.size)) ∧ Hid (w2.ownsMap Tryz.prog 9 (plainElem Tryz.prog 3) w.heap.size l.length (delD (S.take k) D0))) (fun i _ => S.length - (intOf i).toNat)
      case atStart => exact ⟨0, Nat.zero_le _, rfl, hide (World.grownBy.refl _ _), M1⟩
      case round =>
        obtain ⟨k, hk, rfl, HG2, HM2⟩ := hrel
        by_cases hlt : k < S.length
        · have hlt' : (k : Int) < (S.length : Int) := by omega
          have hk0 : (0 : Int) ≤ (k : Int) := by omega
          obtain ⟨b, o, rfl, hb, q0⟩ := (show Strs wr A2 S from Row.keep S2.out HG2.out.size (fun b o e hb => HG2.out.block b hb (fun e9 => by have := N2.out b o e; injection e9 with e9; omega))).at_ hlt
          have hxs := Htx2.out _ (List.getElem_mem hlt)
          have Htk2 : Hid (delD (S.take (k + 1)) D0 = (delD (S.take k) D0).del (.string (S.getD k []))) := hide (by rw [List.take_succ_eq_append_getElem hlt, delD_snoc, List.getD_eq_getElem?_getD, List.getElem?_eq_getElem hlt]; rfl)
          have hxs' : (S.getD k []).length ≤ 9223372036854775807 := by rw [List.getD_eq_getElem?_getD, List.getElem?_eq_getElem hlt]; exact hxs
          generalize S.getD k [] = x at *
          go_wp2_with (at_delete; refine wpList_delete_own _ rfl _ _ 39 9 rfl 3 key_law Tryz.underlying39 _ w.heap.size l.length _ rfl HM2.out _ _ rfl (key_of hxs') ?_; intro w3 hown3 hturn3; have HG3 := hide hturn3.grown; have HM3 := hide hown3; clear hown3 hturn3)
          go_roundw
          case rel => exact ⟨k + 1, hlt, by go_num, hide (grown_trS HG2.out HG3.out), hide (by rw [Htk2.out]; exact HM3.out)⟩
          case measure => simp [intOf]; omega
        · have hge : ¬ (k : Int) < (S.length : Int) := by omega
          have hkl : k = S.length := by omega
          rw [hkl, List.take_length] at HM2
          have X3 := hide (X1.out.grown HG2.out (fun j e => by injection e with e; omega))
          have O3 : Hid (wr.ownsRow (w.heap.size + 1) 3 1 (.slice A1 n c1) n (PL.map (Value.int .i64))) := hide (O1.out.kept HG2.out (by
            cases hv : (Value.slice A1 n c1).ownBlock with
            | none => exact .inl rfl
            | some k9 => exact .inr (fun e => by have := (O1.out.lt k9 hv).1; injection e with e; omega)))
          have hw3 : w.heap.size < wr.heap.size := by have := HG2.out.size; omega
          have I3 : Hid (Ints wr A1 PL) := hide (by
            obtain ⟨A9, c9, e9, _, _, e5, _⟩ := Ints.own (l := PL) (by rw [hnl]; exact O3.out)
            injection e9 with e9
            rw [e9]
            exact e5)
          have HM3 := HM2
          generalize hD : delD S D0 = D at *
          clear HM2 HG2 X1 M1 O1 S2 N2 hd1 hd2 hsl hk hkl hge hw1 hws Htx2 hD HSG
          rename World => w3
          have HPg : Hid (∀ q (hq : q < n), ∃ t i, ∃ hi : i < l.length, l[i]'hi = t ∧ PL[q]'(by omega) = ((i : Nat) : Int) ∧ us.getD q [] = useN t ∧ us.getD q [] ∈ us) := hide (fun q hq => by
            have hq9 : q < (plOf l).length := by rw [← Hn.out]; exact hq
            obtain ⟨h8, h9, -⟩ := plOf_mem (List.getElem_mem hq9)
            refine ⟨((plOf l)[q]'hq9).1, ((plOf l)[q]'hq9).2, h8, h9, ?_, ?_, ?_⟩
            · have : PL[q]? = some ((((plOf l)[q]'hq9).2 : Nat) : Int) := by rw [HPL.out]; simp [zs, placesL, hq9]
              obtain ⟨h5, h6⟩ := List.getElem?_eq_some_iff.1 this
              exact h6
            · rw [Hus.out, List.getD_eq_getElem?_getD]; simp [hq9]
            · have e8 : us.getD q [] = useN ((plOf l)[q]'hq9).1 := by rw [Hus.out, List.getD_eq_getElem?_getD]; simp [hq9]
              rw [e8, Hus.out]
              exact List.mem_map.2 ⟨_, List.getElem_mem hq9, rfl⟩)
          go_wp2
          go_loopw [9, 54] (fun v i wr => ∃ q : Nat, q ≤ n ∧ i = .int .i64 q ∧ Hid (Ext w3 wr) ∧ Hid (wr.ownsRow w3.heap.size 45 2 v (edgesG F us q).length ((edgesG F us q).flatMap edgeC.f))) (fun _ i _ => n - (intOf i).toNat)
          case atStart => exact ⟨0, Nat.zero_le _, rfl, hide (Ext.refl _), hide (World.ownsRow_nil _ _ _ _)⟩
          case round =>
            obtain ⟨q, hq, rfl, HX4, HO4⟩ := hrel
            by_cases hlt : q < n
            · have hlt' : (q : Int) < (n : Int) := by omega
              have hq0 : (0 : Int) ≤ (q : Int) := by omega
              obtain ⟨t, i, hi9, hti, hpl, huu, hum⟩ := HPg.out q hlt
              have hI := Ints.at_ (RowOf.ext intC I3.out HX4.out) (show q < PL.length by omega)
              rw [hpl] at hI
              obtain ⟨b1, o1, rfl, hb1, p0⟩ := hI
              obtain ⟨b, o, rfl, hb, q0, q1, q2, q3, q4⟩ := (HK.out.ext (X3.out.trans HX4.out)).at_ hi9
              have htn := (HK.out.kids _ (List.getElem_mem hi9)).ext (X3.out.trans HX4.out)
              have hts := HS.out _ (List.getElem_mem hi9)
              rw [hti] at q0 q1 q2 q3 q4 htn hts
              have hi0 : (0 : Int) ≤ (i : Int) := by omega
              have hi1' : (i : Int) < (l.length : Int) := by omega
              have HFr := hide (g_free t wr htn hts)
              have h1u := hide (H1.out _ hum)
              rw [huu] at h1u
              have HEs := hide (edgesG_succ F us q)
              have hEl := edgesG_len F us q
              have hEl1 := edgesG_len F us (q + 1)
              rw [huu] at HEs
              clear hti hpl hum huu htn hts
              unfold treeV at HFr
              generalize useN t = u at *
              go_wp2_with fail
              refine HFr.out.mono ?_
              rintro e w5 ⟨⟨s5, r5, n5, rfl, hs5, hr5, hset⟩, hx5⟩
              have HSA := hide hset
              have X5 := hide (HX4.out.trans hx5)
              have O5 := hide (own_extB HO4.out hx5)
              have M5 := hide (HM3.out.kept (row := none) ⟨X5.out.below.os, X5.out.below.tape, X5.out.below.output, X5.out.size, fun k hk _ => X5.out.heap hk⟩ (by simp))
              have hb5 : ∀ k, u9.ownBlock = some k → k < wr.heap.size := fun k hk => (HO4.out.lt k hk).2
              have hw5 := X5.out.size
              have hw5' := hx5.size
              have hss5 := hset.lts
              have hrr5 := hset.ltr
              clear hset hx5 HFr
              have HLF : Hid (∀ x, (F x).isSome = true → has D (.string x) = true) := hide (fun x hx => by
                rw [← HF.out x] at hx
                unfold lookI at hx
                cases hh : has D (.string x)
                · rw [hh] at hx; cases hx
                · rfl)
              go_wp2_with (first
                | (at_range; refine wpList_range_own _ rfl _ 39 rfl 9 3 key_law Tryz.underlying39 _ w.heap.size l.length D rfl M5.out ?_; intro w0 hrg0 hg0 hs0)
                | go_in)
              go_frame
              have HRG0 := hide hrg0
              have X0 : Hid (Ext w3 w0) := hide (X5.out.grown hg0 (fun j e => by cases e))
              have O0 := hide (own_keepG O5.out hg0 (fun k e => by cases e))
              have S0 := hide (HSA.out.grown hg0 (by simp) (by simp))
              clear hrg0 hg0 M5
              go_loopw [9] (fun v wr => ∃ (left : Lit → Bool) (cnt : Nat) (E : List Edge), Hid (wr.ranges Tryz.prog 9 (plainElem Tryz.prog 3) w.heap.size w5.heap.size l.length D left cnt) ∧ Hid (∀ kl, left kl = true → has D kl = true) ∧ Hid (Ext w3 wr) ∧ w5.heap.size < wr.heap.size ∧
                  Hid (wr.ownsRow w3.heap.size 45 2 v E.length (E.flatMap edgeC.f)) ∧ E.length ≤ 1000 ∧ (∀ k, v.ownBlock = some k → k ≠ s5 ∧ k ≠ r5 ∧ k ≠ w5.heap.size) ∧ Hid (SetAt wr s5 r5 n5 (ofD u)) ∧ Hid (EdgeSt F us u q left E)) (fun _ wr => wr.rangeLeft w.heap.size w5.heap.size)
              case atStart =>
                exact ⟨_, _, _, HRG0, hide (fun _ h => h), X0, by omega, O0, by omega, fun k hk => by have := hb5 k hk; omega, S0, hide (.inl ⟨rfl, fun x _ hx => HLF.out x hx⟩)⟩
              case round =>
                obtain ⟨left, cnt, E, Hrg, HLD, HX6, hw6, HOE, hEn, hblk, HSA6, HSt⟩ := hrel
                go_wp2_with (first
                  | (at_next; refine wpList_next_ranges_si _ rfl _ rfl 9 3 key_law Tryz.underlying9 Tryz.underlying3 w.heap.size w5.heap.size l.length _ _ _ rfl Hrg.out ?_ ?_)
                  | go_in)
                · intro hc0 hl0
                  have HE9 : Hid (E = edgesG F us (q + 1)) := hide (by
                    rcases HSt.out with ⟨e1, e2⟩ | ⟨e1, -⟩
                    · rw [e1, HEs.out, hit_none (fun x hx => ?_), List.append_nil]
                      cases hh : (F x).isSome
                      · rfl
                      · have := e2 x hx hh
                        rw [hl0] at this
                        cases this
                    · exact e1)
                  go_wp2
                  go_roundw
                  case rel => exact ⟨q + 1, hlt, by go_num, HX6, hide (by rw [← HE9.out]; exact HOE.out)⟩
                  case measure => simp [intOf]; omega
                · intro x c w6 cnt6 hx hlx hat hrg6 hlt6 hg6 hs6 hen
                  have hFx : F x = some c := by
                    rw [← HF.out x]
                    unfold lookI
                    rw [HLD.out _ hlx, if_pos rfl, hat]
                    rfl
                  have HRG6 := hide hrg6
                  have X6 : Hid (Ext w3 w6) := hide (HX6.out.grown hg6 (fun j e => by injection e with e; omega))
                  have O6 := hide (own_keepG HOE.out hg6 (fun k e h9 => by injection e with e; subst e; exact (hblk _ h9).2.2 rfl))
                  have S6 := hide (HSA6.out.grown hg6 (fun e => by injection e with e; omega) (fun e => by injection e with e; omega))
                  have HL6 : Hid (∀ kl, (left kl && !kl.sameKey (.string x)) = true → has D kl = true) := hide (fun kl h9 => HLD.out kl (by
                    cases h8 : left kl
                    · rw [h8] at h9; cases h9
                    · rfl))
                  have hmem := (ofD_map u).2.2 x
                  have hHs := hide (set_has S6.out x hx)
                  have hw6' : w5.heap.size < w6.heap.size := by omega
                  clear hrg6 hg6 hat
                  by_cases hxu : x ∈ u
                  · have hm9 : mem (ofD u) x = true := by rw [hmem, List.any_eq_true]; exact ⟨x, hxu, by simp⟩
                    rw [hm9] at hHs
                    have hE : E = edgesG F us q := by
                      rcases HSt.out with ⟨e1, -⟩ | ⟨-, y, hy, hy1, hy2⟩
                      · exact e1
                      · have e9 := h1u.out x hxu y hy (by rw [hFx]; rfl) hy1
                        subst e9
                        rw [hlx] at hy2
                        cases hy2
                    have HEn : Hid (E ++ [⟨q, c⟩] = edgesG F us (q + 1)) := hide (by rw [HEs.out, hit_some h1u.out hxu hFx, hE])
                    have HSt6 : Hid (EdgeSt F us u q (fun z => left z && !z.sameKey (.string x)) (E ++ [⟨q, c⟩])) := hide (.inr ⟨HEn.out, x, hxu, by rw [hFx]; rfl, by
                      have : (Lit.string x).sameKey (.string x) = true := (sameKey_str x x).2 rfl
                      simp [this]⟩)
                    have hEq : E.length ≤ q := by rw [hE]; exact hEl
                    clear hE HSt HEn hmem hm9
                    go_wp2_with fail
                    refine hHs.out.mono ?_
                    rintro e w7 ⟨rfl, rfl⟩
                    go_wp2_with (at_builtin; refine wpList_append_row _ rfl _ _ 40 rfl w3.heap.size 45 i1 _ 2 16 Tryz.underlying40 hi1 hy0 hy1 hy2 rfl (by decide) u9 E.length (E.flatMap edgeC.f) rfl (own_extB O6.out ((Ext.refl _).alloc _)) _ 1 1 [.int .i64 (q : Nat), .int .i64 c] rfl ?c2 ?c3 ?c4 ?c5 ?c6 ?_)
                    case c2 => exact RowOf.block (t := 45) (fr := (0, 0)) edgeC [⟨q, c⟩] (by rw [← hs6]; exact heap_alloc_new _ _)
                    case c3 => first | rfl | (intro y hy; simp at hy; rcases hy with rfl | rfl <;> rfl)
                    case c4 => unfold maxLen; omega
                    case c5 => omega
                    case c6 => have := X6.out.size; rw [World.size_alloc]; omega
                    intro v7 w7 ho7 hg7 hat7
                    have X7 := hide (Ext.appU (X6.out.alloc _) hg7 (own_extB O6.out ((Ext.refl _).alloc _)) (Nat.le_refl _))
                    have O7 : Hid (w7.ownsRow w3.heap.size 45 2 v7 (E ++ [Edge.mk (q : Nat) c]).length ((E ++ [Edge.mk (q : Nat) c]).flatMap edgeC.f)) := hide (by simpa [edgeC] using ho7)
                    have R7 := hide ((HRG6.out.alloc _).kept hg7 (fun e => by have := (HOE.out.lt _ e.symm).1; omega) (fun e => (hblk _ e.symm).2.2 rfl))
                    have S7 := hide ((S6.out.ext ((Ext.refl _).alloc _)).grown hg7 (fun e => (hblk _ e).1 rfl) (fun e => (hblk _ e).2.1 rfl))
                    have hb7 : ∀ k, v7.ownBlock = some k → k ≠ s5 ∧ k ≠ r5 ∧ k ≠ w5.heap.size := fun k hk => by
                      rcases hat7 with h9 | h9
                      · exact hblk k (by rw [← h9]; exact hk)
                      · rw [hk] at h9
                        injection h9 with h9
                        first | omega | (simp at h9; omega)
                    have hw7 : w5.heap.size < w7.heap.size := by have := hg7.size; simp at this; omega
                    clear ho7 hg7 hat7
                    go_wp2
                    go_roundw
                    case rel => exact ⟨_, cnt6, _, R7, HL6, X7, hw7, O7, by simp; omega, hb7, S7, HSt6⟩
                    case measure => rw [R7.out.left_eq, Hrg.out.left_eq]; exact hlt6
                  · have hm9 : mem (ofD u) x = false := by
                      rw [hmem]
                      rw [Bool.eq_false_iff]
                      intro h9
                      obtain ⟨y, hy, hxy⟩ := List.any_eq_true.1 h9
                      have : x = y := by simpa using hxy
                      subst this
                      exact hxu hy
                    rw [hm9] at hHs
                    have HSt6 : Hid (EdgeSt F us u q (fun z => left z && !z.sameKey (.string x)) E) := hide (by
                      rcases HSt.out with ⟨e1, e2⟩ | ⟨e1, y, hy, hy1, hy2⟩
                      · refine .inl ⟨e1, fun y hy hy1 => ?_⟩
                        have : (Lit.string y).sameKey (.string x) = false := by
                          rw [Bool.eq_false_iff]
                          intro h9
                          have := (sameKey_str y x).1 h9
                          subst this
                          exact hxu hy
                        simp [this, e2 y hy hy1]
                      · exact .inr ⟨e1, y, hy, hy1, by simp [hy2]⟩)
                    go_wp2_with fail
                    refine hHs.out.mono ?_
                    rintro e w7 ⟨rfl, rfl⟩
                    go_wp2
                    go_roundw
                    case rel => exact ⟨_, cnt6, _, HRG6, HL6, X6, hw6', O6, hEn, hblk, S6, HSt6⟩
                    case measure => rw [HRG6.out.left_eq, Hrg.out.left_eq]; exact hlt6
            · have hge : ¬ (q : Int) < (n : Int) := by omega
              rename World => w4
              have hqn : q = n := by omega
              subst hqn
              have hle9 := edgesG_len F us q
              have hok9 : graphOk q (edgesG F us q) = true := edgesG_ok (by omega) HFb.out
              obtain ⟨A4, c4, hv4, g1, g2, g3, -⟩ := RowOf.own edgeC HO4.out
              rename Value => u9
              subst hv4
              have hGr := hide (g_groupsO q A4 c4 (edgesG F us q) w4 g3 hok9 (by omega) m Hm.out)
              have X4 := hide (X3.out.trans HX4.out)
              have I4 : Hid (Ints w4 A1 PL) := hide (RowOf.ext intC I3.out HX4.out)
              clear g3 HO4 hok9 HX4 X3 I3 O3 HM3 HPg
              generalize edgesG F us q = ES at *
              go_wp2_with fail
              refine hGr.out.mono ?_
              rintro e w5 ⟨⟨A5, c5, rfl, k1, k2, out, hgo⟩, hx5⟩
              have GI : Hid (GpsI 3 w4.heap.size w5 A5 out) := hide ⟨by have := hgo.row; unfold RowOf at this; rw [← flat_one]; exact this, hgo.ge, hgo.own, hgo.dis, hgo.nb⟩
              have Hlt : Hid (∀ s ∈ out, ∀ x ∈ s.l, ∃ v : Nat, x = (v : Int) ∧ v < q) := hide (fun s hs x hx => by
                have h9 : s.l ∈ (groupsOf q m).map zs := by rw [← hgo.is]; exact List.mem_map.2 ⟨s, hs, rfl⟩
                obtain ⟨g, hg, hgs⟩ := List.mem_map.1 h9
                rw [← hgs] at hx
                unfold zs at hx
                obtain ⟨v, hv, rfl⟩ := List.mem_map.1 hx
                exact ⟨v, rfl, groups_lt hg hv⟩)
              have his := hide hgo.is
              have hol : (groupsOf q m).length = out.length := by have := congrArg List.length hgo.is; simpa using this.symm
              have hoz : out.length ≤ 9223372036854775807 := by omega
              rw [hol] at k1 ⊢
              have hww := X4.out.size
              have XX := hide hx5
              clear hgo hx5 hGr
              generalize hP : (fun x : Int => PL.getD x.toNat 0) = P
              have HP := hide hP
              clear hP
              go_wp2
              go_loopw [90] (fun i wr => ∃ k : Nat, k ≤ out.length ∧ i = .int .i64 k ∧ Hid (Ext w4 wr) ∧ Hid (GpsI 3 w4.heap.size wr A5 (pm (turnV P) out k))) (fun i _ => out.length - (intOf i).toNat)
              case atStart => exact ⟨0, Nat.zero_le _, rfl, XX, hide (by rw [pm_zero]; exact GI.out)⟩
              case round =>
                obtain ⟨k, hk, rfl, HX6, HGI⟩ := hrel
                by_cases hlt : k < out.length
                · have hlt' : (k : Int) < (out.length : Int) := by omega
                  have hk0 : (0 : Int) ≤ (k : Int) := by omega
                  obtain ⟨b5, o5, rfl, hb5, hc5⟩ := HGI.out.row.2 (by rw [pm_len]; omega)
                  have hpg := pm_get (f := turnV P) hlt
                  have hc6 := hc5 k (out[k]'hlt).val (by rw [List.getElem?_map, hpg]; rfl)
                  have hmem := List.getElem_mem hlt
                  have Hls := hide (Hlt.out _ hmem)
                  have Hps := hide (pm_set (f := turnV P) hlt)
                  obtain ⟨A7, c7, hv7, hle7, hm7, -, -⟩ := Ints.own (HGI.out.own' hpg)
                  have Hsame : Hid ((pm (turnV P) out k).set k (out[k]'hlt) = pm (turnV P) out k) := hide (set_same hpg)
                  have hpl : k < (pm (turnV P) out k).length := by rw [pm_len]; exact hlt
                  generalize out[k]'hlt = s at *
                  rw [hv7] at hc6
                  clear hc5 hpg hmem
                  generalize pm (turnV P) out k = OK at *
                  go_wp2
                  go_loopw [96] (fun i w7 => ∃ j : Nat, j ≤ s.l.length ∧ i = .int .i64 j ∧ Hid (Ext w4 w7) ∧ Hid (GpsI 3 w4.heap.size w7 (some ⟨b5, o5, none⟩) (OK.set k ⟨s.val, pm P s.l j⟩))) (fun i _ => s.l.length - (intOf i).toNat)
                  case atStart => exact ⟨0, Nat.zero_le _, rfl, HX6, hide (by rw [pm_zero]; show GpsI _ _ _ _ (OK.set k s); rw [Hsame.out]; exact HGI.out)⟩
                  case round =>
                    obtain ⟨j, hj, rfl, HX7, HG7⟩ := hrel
                    by_cases hjl : j < s.l.length
                    · have hjl' : (j : Int) < (s.l.length : Int) := by omega
                      have hj0 : (0 : Int) ≤ (j : Int) := by omega
                      obtain ⟨g, cap9, hv9, hg9, hgl, hfr, hcl, hput⟩ := HG7.out.put' (i := k) (k := j) (s := ⟨s.val, pm P s.l j⟩) (List.getElem?_set_self hpl) (by rw [pm_len]; exact hjl)
                      have e9 : Value.slice A7 s.l.length c7 = .slice (some ⟨g, 0, none⟩) (pm P s.l j).length cap9 := hv7.symm.trans hv9
                      injection e9 with e9 _ _
                      subst e9
                      obtain ⟨v, hv, hvq⟩ := Hls.out _ (List.getElem_mem hjl)
                      have hcl' : wr.cell? ⟨g, j, none⟩ = some (.int .i64 (v : Nat)) := by
                        rw [hcl, ← hv]
                        congr 2
                        have := pm_get (f := P) hjl
                        obtain ⟨_, h9⟩ := List.getElem?_eq_some_iff.1 this
                        exact h9
                      have hvl : v < PL.length := by omega
                      obtain ⟨b1, o1, rfl, hb1, p0⟩ := Ints.at_ (RowOf.ext intC I4.out HX7.out) hvl
                      have hvq' : (v : Int) < (q : Int) := by omega
                      have hv0 : (0 : Int) ≤ (v : Int) := by omega
                      have hPv : P (s.l[j]'hjl) = PL[v]'hvl := by
                        rw [hv, ← HP.out]
                        simp [hvl]
                      have HG8 : Hid (GpsI 3 w4.heap.size (wr.setCell ⟨g, j, none⟩ (.int .i64 (PL[v]'hvl))) (some ⟨b5, o5, none⟩) (OK.set k ⟨s.val, pm P s.l (j + 1)⟩)) := hide (by
                        have h8 := hput (PL[v]'hvl)
                        rw [List.set_set] at h8
                        have h7 := pm_set (f := P) hjl
                        rw [hPv] at h7
                        rw [← h7]
                        exact h8)
                      have HX8 : Hid (Ext w4 (wr.setCell ⟨g, j, none⟩ (.int .i64 (PL[v]'hvl)))) := hide (HX7.out.grown (grown_cellG _ _ _ _) (fun j e => by injection e with e; omega))
                      generalize PL[v]'hvl = y at *
                      clear hput hcl hv9 hPv
                      go_wp2
                      go_roundw
                      case rel => exact ⟨j + 1, hjl, by go_num, HX8, HG8⟩
                      case measure => simp [intOf]; omega
                    · have hjg : ¬ (j : Int) < (s.l.length : Int) := by omega
                      have hjl9 : j = s.l.length := by omega
                      have HG8 : Hid (GpsI 3 w4.heap.size wr (some ⟨b5, o5, none⟩) (pm (turnV P) out (k + 1))) := hide (by
                        have := HG7.out
                        rw [hjl9, pm_all] at this
                        rw [← Hps.out]
                        exact this)
                      go_wp2
                      go_roundw
                      case rel => exact ⟨k + 1, hlt, by go_num, HX7, HG8⟩
                      case measure => simp [intOf]; omega
                · have hge9 : ¬ (k : Int) < (out.length : Int) := by omega
                  have hk9 : k = out.length := by omega
                  have HFin : Hid (Grps wr A5 G) := hide (by
                    have h9 := HGI.out
                    rw [hk9, pm_all] at h9
                    refine ⟨out.map (turnV P), ?_, ?_, fun s hs => ?_⟩
                    · rw [HG.out, List.map_map, List.map_map]
                      have e1 : out.map ((fun s => s.l) ∘ turnV P) = (out.map (·.l)).map (·.map P) := by rw [List.map_map]; rfl
                      rw [e1, his.out, List.map_map]
                      apply List.map_congr_left
                      intro g _
                      show (zs g).map P = zs _
                      unfold zs
                      rw [List.map_map, List.map_map]
                      apply List.map_congr_left
                      intro v _
                      show P (v : Int) = _
                      rw [← HP.out, HPL.out]
                      simp [zs, List.getD_eq_getElem?_getD]
                      cases (placesL l)[v]? <;> rfl
                    · have := h9.row
                      rw [← flat_one] at this
                      exact this
                    · obtain ⟨i, hi9, rfl⟩ := List.getElem_of_mem hs
                      obtain ⟨A7, c7, q1, q2, q3, q4, -⟩ := Ints.own (h9.own i hi9)
                      exact ⟨A7, c7, q1, q2, q3, q4⟩)
                  have hGl : G.length = out.length := by
                    rw [HG.out, List.length_map, hol]
                  go_wp2
                  go_ret
                  exact ⟨⟨A5, c5, by first | rfl | rw [hGl], by omega, k2, HFin.out⟩, X4.out.trans HX6.out⟩

end Go.Proofs.YtbfggmeppakcgaaGreat

/- Contracts of chapter 15: where a signature stands alone, what is recursive, a binding of a name. -/
namespace Go.Proofs.YtbfggmeppakcgaaGreat
open Go.RowKit Go.Sort Go.Maps

/-- A signature of what is not bound. -/
def loneF (l : List Tree) (t : Tree) : Bool := t.kind == 32 && !(bindsL l).any (· == t.text)
def lonePos (l : List Tree) : Int := match l.find? (loneF l) with | some t => t.pos | none => 0
def loneOk (l : List Tree) : Bool := (l.find? (loneF l)).isNone
theorem find_hereG {α : Type} {p : α → Bool} {l : List α} {k : Nat} (hk : k < l.length) (h0 : (l.take k).find? p = none) (h1 : p (l[k]'hk) = true) : l.find? p = some (l[k]'hk) := by
  have e : l = l.take k ++ (l[k]'hk) :: l.drop (k + 1) := by rw [← List.drop_eq_getElem_cons hk, List.take_append_drop]
  have : (l.take k ++ (l[k]'hk) :: l.drop (k + 1)).find? p = some (l[k]'hk) := by
    rw [List.find?_append, h0, List.find?_cons_of_pos h1]
    rfl
  rwa [← e] at this
theorem find_moreG {α : Type} {p : α → Bool} {l : List α} {k : Nat} (hk : k < l.length) (h0 : (l.take k).find? p = none) (h1 : p (l[k]'hk) = false) : (l.take (k + 1)).find? p = none := by
  rw [List.take_succ_eq_append_getElem hk, List.find?_append, h0, List.find?_cons_of_neg (by rw [h1]; simp)]
  rfl

set_option maxRecDepth 10000 in
set_option maxHeartbeats 2000000 in
theorem g_lone (A : Option Addr) (cap : Nat) (l : List Tree) (w : World) (h : NodesIn w A l) (hl : l.length ≤ 100000) :
    Calls Tryz.prog 11 #[.slice A l.length cap] w fun e w' => e = .returned (.tuple #[.int .i64 (lonePos l), .bool (loneOk l)]) ∧ Ext w w' := by
  have HK := hide h
  have HB := hide (u_binds A cap l w h hl)
  have HF : Hid (∀ t, loneF l t = (t.kind == 32 && !(bindsL l).any (· == t.text))) := hide (fun _ => rfl)
  have HP : Hid (∀ t, l.find? (loneF l) = some t → lonePos l = t.pos ∧ loneOk l = false) := hide (fun t ht => by unfold lonePos loneOk; rw [ht]; exact ⟨rfl, rfl⟩)
  have HN : Hid (l.find? (loneF l) = none → lonePos l = 0 ∧ loneOk l = true) := hide (fun ht => by unfold lonePos loneOk; rw [ht]; exact ⟨rfl, rfl⟩)
  have hbl := bindsL_len l
  generalize lonePos l = RP at *
  generalize loneOk l = RO at *
  generalize loneF l = p at *
  clear h
  go_enter Tryz.func11, Tryz.ntmps11
  go_wp2_with fail
  refine HB.out.mono ?_
  rintro e w1 ⟨⟨A2, c2, rfl, hd1, hd2, hd3, hd4⟩, hx⟩
  have B2 := hide hd3
  have X1 := hide hx
  clear hd3 hd4 hx HB
  generalize bindsL l = S at *
  go_wp2
  go_loopw [11] (fun i wr => ∃ k : Nat, k ≤ l.length ∧ i = .int .i64 k ∧ Hid (Ext w1 wr) ∧ Hid ((l.take k).find? p = none)) (fun i _ => l.length - (intOf i).toNat)
  case atStart => exact ⟨0, Nat.zero_le _, rfl, hide (Ext.refl _), hide rfl⟩
  case round =>
    obtain ⟨k, hk, rfl, HX, H0⟩ := hrel
    by_cases hlt : k < l.length
    · have hlt' : (k : Int) < (l.length : Int) := by omega
      have hk0 : (0 : Int) ≤ (k : Int) := by omega
      obtain ⟨b, o, rfl, hb, q0, q1, q2, q3, q4⟩ := (HK.out.ext (X1.out.trans HX.out)).at_ hlt
      have Hhere := hide (fun h1 => find_hereG hlt H0.out h1)
      have Hmore := hide (fun h1 => find_moreG hlt H0.out h1)
      have HFk := hide (HF.out (l[k]'hlt))
      generalize l[k]'hlt = c at *
      have Hhs := hide (fun w' (e : Ext w1 w') => hide (has_s A2 c2 S c.text w' (Strs.ext B2.out e) (by omega)))
      cases hc : (c.kind == 32)
      · have hpc : p c = false := by rw [HFk.out, hc]; rfl
        go_wp2
        go_roundw
        case rel => exact ⟨k + 1, hlt, by go_num, hide (HX.out.alloc _), hide (Hmore.out hpc)⟩
        case measure => simp [intOf]; omega
      · cases hh : S.any (· == c.text)
        · have hpc : p c = true := by rw [HFk.out, hc, hh]; rfl
          obtain ⟨e1, e2⟩ := HP.out _ (Hhere.out hpc)
          have Hh := hide (Hhs.out _ (HX.out.alloc (.cells #[.int .i64 c.kind, .int .i64 c.pos, .int .i64 c.n, encStr c.text, .slice c.A c.kids.length c.cap] 28))).out
          rw [hh] at Hh
          go_wp2_with fail
          refine Hh.out.mono ?_
          rintro e w2 ⟨rfl, rfl⟩
          go_wp2
          refine bodyPost_ret (v := .tuple #[.int .i64 c.pos, .bool false]) ?_ rfl ⟨by first | rfl | rw [e1, e2], X1.out.trans (HX.out.alloc _)⟩
          simp [results, Tryz.f11, go_sem]
        · have hpc : p c = false := by rw [HFk.out, hc, hh]; rfl
          have Hh := hide (Hhs.out _ (HX.out.alloc (.cells #[.int .i64 c.kind, .int .i64 c.pos, .int .i64 c.n, encStr c.text, .slice c.A c.kids.length c.cap] 28))).out
          rw [hh] at Hh
          go_wp2_with fail
          refine Hh.out.mono ?_
          rintro e w2 ⟨rfl, rfl⟩
          go_wp2
          go_roundw
          case rel => exact ⟨k + 1, hlt, by go_num, hide (HX.out.alloc _), hide (Hmore.out hpc)⟩
          case measure => simp [intOf]; omega
    · have hge : ¬ (k : Int) < (l.length : Int) := by omega
      have hkl : k = l.length := by omega
      rw [hkl, List.take_length] at H0
      obtain ⟨e1, e2⟩ := HN.out H0.out
      go_wp2
      refine bodyPost_ret (v := .tuple #[.int .i64 0, .bool true]) ?_ rfl ⟨by first | rfl | rw [e1, e2], X1.out.trans HX.out⟩
      simp [results, Tryz.f11, go_sem]

/-- A name, and a binding of it to a name. -/
def nameT (y : Str) : Tree := .mk 21 0 0 y none 0 []
def bindT (x y : Str) (b : Nat) : Tree := .mk 31 0 0 x (some ⟨b, 0, none⟩) 1 [nameT y]
theorem nameT_in (w : World) (s : Str) (h : s.length ≤ 9223372036854775807) : NodeIn w (nameT s) := NodeIn.mk (Nat.le_refl _) (by simp [nameT, Tree.cap]) h (RowOf.nil _ _ _) (fun k hk => by cases hk)
theorem bindT_in {w : World} {x y : Str} {b : Nat} (hx : x.length ≤ 9223372036854775807) (hy : y.length ≤ 9223372036854775807) (h : w.heap[b]? = some (.cells #[.int .i64 21, .int .i64 0, .int .i64 0, encStr y, .slice none 0 0] 28 (0, 0))) : NodeIn w (bindT x y b) := by
  refine NodeIn.mk (Nat.le_refl _) (by simp [bindT, Tree.cap]) hx (RowOf.block treeC [nameT y] h) (fun k hk => ?_)
  have : k = nameT y := by simpa [bindT, Tree.kids] using hk
  subst this
  exact nameT_in _ _ hy
set_option maxRecDepth 10000 in
theorem l_bind15 (x y : Str) (w : World) (hx : x.length ≤ 9223372036854775807) (hy : y.length ≤ 9223372036854775807) :
    Calls Tryz.prog 10 #[encStr x, encStr y] w fun e w' => (∃ b, e = .returned (.agg #[.int .i64 31, .int .i64 0, .int .i64 0, encStr x, .slice (some ⟨b, 0, none⟩) 1 1]) ∧ NodeIn w' (bindT x y b)) ∧ Ext w w' := by
  go_enter Tryz.func10, Tryz.ntmps10
  go_wp2
  refine bodyPost_ret (v := .agg #[.int .i64 31, .int .i64 0, .int .i64 0, encStr x, .slice (some ⟨w.heap.size + 1, 0, none⟩) 1 1]) ?_ rfl ⟨⟨w.heap.size + 1, rfl, bindT_in hx hy (at_newB _ _ _ (by simp))⟩, ((Ext.refl _).alloc _).alloc _⟩
  simp [results, Tryz.f10, go_sem]

set_option maxRecDepth 100000 in
set_option maxHeartbeats 4000000 in
/-- A first binding that uses itself? -/
theorem g_rec (A : Option Addr) (cap : Nat) (l : List Tree) (w : World) (h : NodesIn w A l) (h0 : 0 < l.length) (hk : (l[0]'h0).kind = 31) (hsz : (l[0]'h0).size ≤ 9000) :
    Calls Tryz.prog 14 #[.slice A l.length cap, .int .i64 0] w fun e w' => e = .returned (.bool ((useN (l[0]'h0)).any ((l[0]'h0).text == ·))) ∧ Ext w w' := by
  have hx := h.kids _ (List.getElem_mem h0)
  have HFr := hide (fun w' (e : Ext w w') => hide (g_free (l[0]'h0) w' (hx.ext e) hsz))
  obtain ⟨b, o, rfl, hb, q0, q1, q2, q3, q4⟩ := h.at_ h0
  have hmem := fun x => (ofD_map (useN (l[0]'h0))).2.2 x
  have htx := hx.txt
  rw [hk] at q0
  have hl0 : 0 < l.length := h0
  have hl1 : (0 : Int) < (l.length : Int) := by omega
  have HQ : Hid (∀ w', Ext w w' → w'.cell? ⟨b, o, none⟩ = some (.int .i64 31) ∧ w'.cell? ⟨b, o + 1, none⟩ = some (.int .i64 (l[0]'h0).pos) ∧ w'.cell? ⟨b, o + 2, none⟩ = some (.int .i64 (l[0]'h0).n) ∧ w'.cell? ⟨b, o + 3, none⟩ = some (encStr (l[0]'h0).text) ∧ w'.cell? ⟨b, o + 4, none⟩ = some (.slice (l[0]'h0).A (l[0]'h0).kids.length (l[0]'h0).cap)) := hide (fun w' e => by
    have hh : ∀ j v, w.cell? ⟨b, j, none⟩ = some v → w'.cell? ⟨b, j, none⟩ = some v := fun j v hv => (World.cell?_of_block (a := ⟨b, j, none⟩) (e.heap hb)).trans hv
    exact ⟨hh _ _ (by simpa using q0), hh _ _ (by simpa using q1), hh _ _ (by simpa using q2), hh _ _ (by simpa using q3), hh _ _ (by simpa using q4)⟩)
  clear hx h hsz q0 q1 q2 q3 q4
  unfold treeV at HFr
  simp only [hk] at HFr
  clear hk
  generalize l[0]'h0 = c at *
  obtain ⟨q0, q1, q2, q3, q4⟩ := HQ.out w (Ext.refl w)
  go_enter Tryz.func14, Tryz.ntmps14
  go_wp2
  go_region_held3 (fun w' => w'.cell? ⟨b, o, none⟩ = some (.int .i64 31) ∧ w'.cell? ⟨b, o + 1, none⟩ = some (.int .i64 c.pos) ∧ w'.cell? ⟨b, o + 2, none⟩ = some (.int .i64 c.n) ∧ w'.cell? ⟨b, o + 3, none⟩ = some (encStr c.text) ∧ w'.cell? ⟨b, o + 4, none⟩ = some (.slice c.A c.kids.length c.cap)) (first | assumption | go_keep) (first
    | (go_at_call 15
       have XA : Ext w w.drew := (Ext.refl w).drew
       with_reducible refine Calls.mono (HFr.out _ XA).out ?_
       rintro e w2 ⟨⟨s, r, n, rfl, hs1, hs2, hs3⟩, hx2⟩
       have S2 := hide hs3
       have X2 := hide (XA.trans hx2)
       have hS2 := HQ.out _ X2.out
       clear hs3 hx2)
    | (go_at_call 16
       with_reducible refine Calls.mono (set_has S2.out c.text htx) ?_
       rintro e w3 ⟨rfl, rfl⟩))
  go_wp2
  go_ret
  exact ⟨rfl, X2.out⟩

end Go.Proofs.YtbfggmeppakcgaaGreat

/- The groups of a graph without edges: each vertex by itself, in order. Plain; no program in sight. -/
namespace Go.Proofs.YtbfggmeppakcgaaGreat
open Go.RowKit

theorem comp_no (n a : Nat) (ha : a < n) : compL n (fun _ _ => false) a = [a] := by
  unfold compL
  have e : (List.range n).filter (fun j => j == a || (false && false)) = (List.range n).filter (fun j => j == a) := List.filter_congr (fun j _ => by simp)
  rw [e]
  induction n with
  | zero => omega
  | succ n ih =>
    rw [List.range_succ, List.filter_append]
    by_cases h : a = n
    · subst h
      have : (List.range a).filter (fun j => j == a) = [] := by
        rw [List.filter_eq_nil_iff]
        intro j hj
        rw [List.mem_range] at hj
        simp; omega
      rw [this]
      simp
    · have e1 : (List.range n).filter (fun j => j == a || (false && false)) = (List.range n).filter (fun j => j == a) := List.filter_congr (fun j _ => by simp)
      rw [ih (by omega) e1]
      have : ([n] : List Nat).filter (fun j => j == a) = [] := by
        rw [List.filter_eq_nil_iff]
        intro j hj
        rw [List.mem_singleton] at hj
        simp; omega
      rw [this]
      simp
theorem sel_no (n k : Nat) (hk : k < n) : selB n (fun _ _ => false) (fun i => decide (i < k)) = some k := by
  unfold selB
  rw [List.find?_range_eq_some]
  refine ⟨?_, List.mem_range.2 hk, fun j hj => ?_⟩
  · simp [freeB]
  · simp [hj]
theorem selGo_no (n : Nat) : ∀ (f k : Nat), k + f = n → selGo n (fun _ _ => false) f (fun i => decide (i < k)) = (List.range f).map fun i => [k + i] := by
  intro f
  induction f with
  | zero => intro k _; rfl
  | succ f ih =>
    intro k hk
    have e1 := sel_no n k (by omega)
    have e2 : addDone n (fun _ _ => false) (fun i => decide (i < k)) k = fun i => decide (i < k + 1) := by
      funext i
      unfold addDone
      rw [comp_no n k (by omega)]
      by_cases h : i < k
      · have : i < k + 1 := by omega
        simp [h, this]
      · by_cases h2 : i = k
        · subst h2; simp
        · have : ¬ i < k + 1 := by omega
          simp [h, h2, this]
    rw [selGo, e1]
    simp only []
    rw [e2, ih (k + 1) (by omega), comp_no n k (by omega), List.range_succ_eq_map, List.map_cons, List.map_map]
    congr 1
    refine List.map_congr_left (fun i _ => ?_)
    simp only [Function.comp]
    congr 1
    omega
/-- Without edges. -/
theorem groups_no (n : Nat) : groupsOf n (fun _ _ => false) = (List.range n).map fun i => [i] := by
  unfold groupsOf
  have e : (fun _ => false : Nat → Bool) = fun i => decide (i < 0) := by funext i; simp
  have h := selGo_no n n 0 (by omega)
  rw [← e] at h
  rw [h]
  simp

end Go.Proofs.YtbfggmeppakcgaaGreat

/- Edges as pairs. -/
namespace Go.Proofs.YtbfggmeppakcgaaGreat
open Go.RowKit

def pairsN (es : List Edge) : List (Nat × Nat) := es.map fun e => (e.a.toNat, e.b.toNat)
theorem mem_next {es : List Edge} {n : Nat} (hok : ∀ e ∈ es, edgeOk n e = true) {a b : Nat} : b ∈ nextN es a ↔ (a, b) ∈ pairsN es := by
  unfold nextN nextL pairsN
  simp only [List.mem_map, List.mem_filter, beq_iff_eq]
  constructor
  · rintro ⟨x, ⟨e, ⟨he, ha⟩, rfl⟩, hb⟩
    exact ⟨e, he, by rw [ha, hb]; rfl⟩
  · rintro ⟨e, he, h⟩
    injection h with h1 h2
    have := hok e he
    unfold edgeOk at this
    simp at this
    exact ⟨e.b, ⟨e, ⟨he, by omega⟩, rfl⟩, h2⟩

end Go.Proofs.YtbfggmeppakcgaaGreat

/- Chapter 15's example, plain; no edges where all is signed. No walk here. -/
namespace Go.Proofs.YtbfggmeppakcgaaGreat
open Go.RowKit Go.Sort Go.Maps

theorem nameT_free {y : Str} (h : varB y = true) : freeE (nameT y) = [y] := by
  have e1 : isExpB (nameT y) = true := by
    unfold isExpB
    rw [Bool.and_eq_true]
    constructor
    · unfold lowB
      have := depth_le_size (nameT y)
      have h1 : (nameT y).size = 1 := by rw [Tree.size_eq]; rfl
      rw [h1] at this
      simp; omega
    · rw [exp_var _ rfl]
      simp [namedB, nameT, Tree.n, Tree.text, Tree.kids, h]
  have e2 : usesE (nameT y) = [⟨y, 0⟩] := by
    unfold usesE
    rw [if_pos e1, usesL_eq]
    simp [nameT, Tree.kind, Tree.text, Tree.pos, Tree.kids, inner, ownU, usesesL]
  unfold freeE
  rw [e2]
  rfl
theorem bindT_use {x y : Str} {b : Nat} (h : varB y = true) : useN (bindT x y b) = [y] := nameT_free h
def fS : Str := [102]
def gS : Str := [103]
def hS : Str := [104]
def bs3 (b1 b2 b3 : Nat) : List Tree := [bindT fS gS b1, bindT gS fS b2, bindT hS fS b3]
def sigT (x : Str) : Tree := .mk 32 7 0 x none 0 []
def all4 (b1 b2 b3 : Nat) : List Tree := bs3 b1 b2 b3 ++ [sigT fS]
def F3 (x : Str) : Option Int := if x = hS then some 2 else if x = gS then some 1 else if x = fS then some 0 else none
def F4 (x : Str) : Option Int := if x ∈ [fS] then none else F3 x
def us3 : List (List Str) := [[gS], [fS], [fS]]
theorem bs_pl (b1 b2 b3 : Nat) : plOf (bs3 b1 b2 b3) = [(bindT fS gS b1, 0), (bindT gS fS b2, 1), (bindT hS fS b3, 2)] := rfl
theorem all_pl (b1 b2 b3 : Nat) : plOf (all4 b1 b2 b3) = [(bindT fS gS b1, 0), (bindT gS fS b2, 1), (bindT hS fS b3, 2)] := rfl
theorem bs_binds (b1 b2 b3 : Nat) : bindsL (bs3 b1 b2 b3) = [fS, gS, hS] := rfl
theorem all_binds (b1 b2 b3 : Nat) : bindsL (all4 b1 b2 b3) = [fS, gS, hS] := rfl
theorem bs_sigs (b1 b2 b3 : Nat) : sigsL (bs3 b1 b2 b3) = [] := rfl
theorem all_sigs (b1 b2 b3 : Nat) : sigsL (all4 b1 b2 b3) = [fS] := rfl
theorem look3 (x : Str) : lookI (idxD [fS, gS, hS]) x = F3 x := by
  have e : idxD [fS, gS, hS] = idxD (([] ++ [fS]) ++ [gS] ++ [hS]) := rfl
  rw [e, idxD_snoc, lookI_put _ (idxD_map _), idxD_snoc, lookI_put _ (idxD_map _), idxD_snoc, lookI_put _ (idxD_map _), idxD_nil, lookI_empty]
  rfl
theorem bs_F (b1 b2 b3 : Nat) (x : Str) : lookI (delD (sigsL (bs3 b1 b2 b3)) (idxD (bindsL (bs3 b1 b2 b3)))) x = F3 x := by
  rw [bs_sigs, bs_binds, lookI_delD, look3]
  simp
theorem all_F (b1 b2 b3 : Nat) (x : Str) : lookI (delD (sigsL (all4 b1 b2 b3)) (idxD (bindsL (all4 b1 b2 b3)))) x = F4 x := by
  rw [all_sigs, all_binds, lookI_delD, look3]
  rfl
theorem pl_us (b1 b2 b3 : Nat) : us3 = ([(bindT fS gS b1, 0), (bindT gS fS b2, 1), (bindT hS fS b3, 2)] : List (Tree × Nat)).map fun p => useN p.1 := by
  have v1 : varB fS = true := by decide
  have v2 : varB gS = true := by decide
  simp only [List.map_cons, List.map_nil]
  rw [bindT_use v2, bindT_use v1, bindT_use v1]
  rfl
theorem us3_one (F : Str → Option Int) : ∀ u ∈ us3, ∀ x ∈ u, ∀ y ∈ u, (F x).isSome = true → (F y).isSome = true → x = y := by
  intro u hu x hx y hy _ _
  have : ∃ z, u = [z] := by
    simp only [us3, List.mem_cons, List.not_mem_nil, or_false] at hu
    rcases hu with rfl | rfl | rfl <;> exact ⟨_, rfl⟩
  obtain ⟨z, rfl⟩ := this
  rw [List.mem_singleton] at hx hy
  rw [hx, hy]
def g3 : List Edge := [⟨0, 1⟩, ⟨1, 0⟩, ⟨2, 0⟩]
def g1 : List Edge := [⟨0, 1⟩]
theorem bs_edges : edgesG F3 us3 3 = g3 := rfl
theorem all_edges : edgesG F4 us3 3 = g1 := rfl
theorem g3_ok : ∀ e ∈ g3, edgeOk (3 : Nat) e = true := by decide
theorem g1_ok : ∀ e ∈ g1, edgeOk (3 : Nat) e = true := by decide
theorem sr_tab {es : List Edge} {T : Nat → Nat → Prop} (h1 : ∀ a b, b ∈ nextN es a → T a b) (h2 : ∀ a b c, T a b → c ∈ nextN es b → T a c) {a b : Nat} (h : SR (nextN es) a b) : T a b := by
  induction h with
  | one h => exact h1 _ _ h
  | step _ h ih => exact h2 _ _ _ ih h
theorem g3_next (a b : Nat) : b ∈ nextN g3 a ↔ (a = 0 ∧ b = 1) ∨ (a = 1 ∧ b = 0) ∨ (a = 2 ∧ b = 0) := by
  rw [mem_next g3_ok]
  simp [pairsN, g3]
theorem g1_next (a b : Nat) : b ∈ nextN g1 a ↔ (a = 0 ∧ b = 1) := by
  rw [mem_next g1_ok]
  simp [pairsN, g1]
def m3 (i j : Nat) : Bool := decide (i ≤ 2 ∧ j ≤ 1)
def m1 (i j : Nat) : Bool := decide (i = 0 ∧ j = 1)
theorem m3_iff (i j : Nat) : m3 i j = true ↔ SR (nextN (edgesG F3 us3 3)) i j := by
  rw [bs_edges]
  unfold m3
  rw [decide_eq_true_eq]
  constructor
  · rintro ⟨h1, h2⟩
    have s01 : SR (nextN g3) 0 1 := .one ((g3_next 0 1).2 (by omega))
    have s10 : SR (nextN g3) 1 0 := .one ((g3_next 1 0).2 (by omega))
    have s20 : SR (nextN g3) 2 0 := .one ((g3_next 2 0).2 (by omega))
    have c1 : i = 0 ∨ i = 1 ∨ i = 2 := by omega
    have c2 : j = 0 ∨ j = 1 := by omega
    rcases c1 with rfl | rfl | rfl <;> rcases c2 with rfl | rfl
    · exact s01.trans s10
    · exact s01
    · exact s10
    · exact s10.trans s01
    · exact s20
    · exact s20.trans s01
  · intro h
    refine sr_tab (T := fun i j => i ≤ 2 ∧ j ≤ 1) ?_ ?_ h
    · intro a b h; rw [g3_next] at h; omega
    · intro a b c h1 h2; rw [g3_next] at h2; omega
theorem m1_iff (i j : Nat) : m1 i j = true ↔ SR (nextN (edgesG F4 us3 3)) i j := by
  rw [all_edges]
  unfold m1
  rw [decide_eq_true_eq]
  constructor
  · rintro ⟨rfl, rfl⟩
    exact .one ((g1_next 0 1).2 ⟨rfl, rfl⟩)
  · intro h
    refine sr_tab (T := fun i j => i = 0 ∧ j = 1) ?_ ?_ h
    · intro a b h; rw [g1_next] at h; exact h
    · intro a b c h1 h2; rw [g1_next] at h2; omega
theorem bs_groups (b1 b2 b3 : Nat) : ((groupsOf 3 m3).map fun g => g.map fun v => (placesL (bs3 b1 b2 b3)).getD v 0) = [[0, 1], [2]] := by
  have e : placesL (bs3 b1 b2 b3) = [0, 1, 2] := rfl
  rw [e]
  decide
theorem all_groups (b1 b2 b3 : Nat) : ((groupsOf 3 m1).map fun g => g.map fun v => (placesL (all4 b1 b2 b3)).getD v 0) = [[1], [0], [2]] := by
  have e : placesL (all4 b1 b2 b3) = [0, 1, 2] := rfl
  rw [e]
  decide
theorem all_lone (b1 b2 b3 : Nat) : lonePos (all4 b1 b2 b3) = 0 ∧ loneOk (all4 b1 b2 b3) = true := ⟨rfl, rfl⟩
theorem sig_lone : lonePos [sigT fS] = 7 ∧ loneOk [sigT fS] = false := ⟨rfl, rfl⟩

/-- Nothing is left of the map where all bindings are signed. -/
theorem all_signed {l : List Tree} (h : ∀ x ∈ bindsL l, x ∈ sigsL l) (x : Str) : lookI (delD (sigsL l) (idxD (bindsL l))) x = none := by
  rw [lookI_delD]
  by_cases h1 : x ∈ sigsL l
  · rw [if_pos h1]
  · rw [if_neg h1]
    cases h2 : lookI (idxD (bindsL l)) x with
    | none => rfl
    | some v => exact absurd (h x (idxD_some h2).1) h1
theorem edges_no (us : List (List Str)) : ∀ n, edgesG (fun _ => none) us n = []
  | 0 => rfl
  | n + 1 => by rw [edgesG_succ, edges_no us n, hit_none (fun _ _ => rfl)]; rfl
theorem sr_no (i j : Nat) : ¬ SR (nextN []) i j := by
  intro h
  refine sr_tab (T := fun _ _ => False) ?_ ?_ h
  · intro a b h; simp [nextN, nextL] at h
  · intro a b c h; exact h.elim
/-- What the law adds: a signature of each. -/
def sigT0 (x : Str) : Tree := .mk 32 0 0 x none 0 []
theorem sigs_pl (l : List Tree) (S : List Str) : plOf (l ++ S.map sigT0) = plOf l := by
  unfold plOf
  rw [List.zipIdx_append, List.filter_append]
  have : ∀ (S : List Str) (k : Nat), (((S.map sigT0).zipIdx k).filter fun p => p.1.kind == 31) = [] := by
    intro S
    induction S with
    | nil => intro k; rfl
    | cons x S ih => intro k; rw [List.map_cons, List.zipIdx_cons, List.filter_cons_of_neg (by simp [sigT0, Tree.kind]), ih]
  rw [this, List.append_nil]
theorem sigs_binds (l : List Tree) (S : List Str) : bindsL (l ++ S.map sigT0) = bindsL l := by
  rw [← plOf_names, sigs_pl, plOf_names]
theorem sigs_sigs (l : List Tree) (S : List Str) {x : Str} (h : x ∈ S) : x ∈ sigsL (l ++ S.map sigT0) := by
  unfold sigsL
  exact List.mem_map.2 ⟨sigT0 x, List.mem_filter.2 ⟨List.mem_append_right _ (List.mem_map.2 ⟨x, h, rfl⟩), rfl⟩, rfl⟩
theorem singles (l : List Tree) (S : List Str) : ((groupsOf (plOf l).length fun _ _ => false).map fun g => g.map fun v => (placesL (l ++ S.map sigT0)).getD v 0) = (placesL l).map fun p => [p] := by
  have e : placesL (l ++ S.map sigT0) = placesL l := by unfold placesL; rw [sigs_pl]
  have hl : (placesL l).length = (plOf l).length := by unfold placesL; rw [List.length_map]
  rw [groups_no, e, ← hl]
  apply List.ext_getElem (by simp)
  intro i h1 h2
  have h3 : i < (placesL l).length := by simpa using h1
  simp [h3]

end Go.Proofs.YtbfggmeppakcgaaGreat

/- Groups in memory: one of them. -/
namespace Go.Proofs.YtbfggmeppakcgaaGreat
open Go.RowKit

theorem Grps.at_ {w : World} {A : Option Addr} {gs : List (List Nat)} (h : Grps w A gs) {i : Nat} (hi : i < gs.length) : ∃ b o A1 c1, A = some ⟨b, o, none⟩ ∧ b < w.heap.size ∧ w.cell? ⟨b, o + i, none⟩ = some (.slice A1 (gs[i]'hi).length c1) ∧ (gs[i]'hi).length ≤ c1 ∧ c1 ≤ 9223372036854775807 ∧ Ints w A1 (zs (gs[i]'hi)) := by
  obtain ⟨out, h1, h2, h3⟩ := h
  have hl : out.length = gs.length := by have := congrArg List.length h1; simpa using this
  have hio : i < out.length := by omega
  obtain ⟨b, o, e, hb, hc⟩ := RowOf.at_ slvC h2 hio
  obtain ⟨A1, c1, e1, e2, e3, e4⟩ := h3 _ (List.getElem_mem hio)
  have e5 : (out[i]'hio).l = zs (gs[i]'hi) := by
    have h5 : (out.map (·.l))[i]'(by simpa using hio) = (gs.map zs)[i]'(by simpa using hi) := by congr 1
    simpa using h5
  rw [e5, zs_len] at e1 e2
  rw [e5] at e4
  refine ⟨b, o, A1, c1, e, hb, ?_, e2, e3, e4⟩
  have := hc 0 (by decide)
  simp only [slvC, Nat.mul_one, Nat.add_zero] at this
  rw [this, ← e1]
  rfl

end Go.Proofs.YtbfggmeppakcgaaGreat
