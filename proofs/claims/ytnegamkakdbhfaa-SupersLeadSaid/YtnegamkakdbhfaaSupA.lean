/- Contracts: the classes right above one, and all above one (the reference's and the program's). -/
import Derived.Test.YtnegamkakdbhfaaSupP
import Derived.Test.YtnegamkakdbhfaaCat
import Derived.Test.YtnegamkakdbhfaaStrP
import Derived.WalkSpells
import Derived.WalkLawsBesides
import Derived.Deep.RegionLaw
namespace Go.Proofs.Ytnegamkakdbhfaa
open Go.RowKit Go.Sort

section
variable {P : Program} (w : World)
theorem step_append_rowB {ops : Array Oper} {o : Oper} {a : Act} {K : Act → World → Prop} {Q : Exit → Act → World → Prop} {E : Prop} (hgd : o.guard = none) (s x : Operand) (t : TypeId)
    (ho : o.op = .call { callee := .builtin .append, args := #[s, x], argTypes := #[t, t] })
    (base : Nat) (e : TypeId) (i : TypeInfo) (z : Value) (size bytes : Nat) (ht : P.underlying t = some (.slice e)) (hi : P.info? e = some i) (hz : i.zero = some z)
    (hsize : i.size = size) (hby : i.bytes = bytes) (hzs : z.cells.size = size) (hsz : 0 < size)
    (v : Value) (n : Nat) (xs : List Value) (hs : a.eval s = v) (hown : w.ownsRow base e size v n xs)
    (A : Option Addr) (m c : Nat) (news : List Value) (hx : a.eval x = .slice A m c) (hr : Row w A size m news) (h1 : ∀ u ∈ news, u.oneCell' = true)
    (h63 : n + m ≤ maxLen) (hbytes : (n + m) * bytes ≤ 140737488355328) (hbase : base ≤ w.heap.size)
    (h : ∀ v' w', w'.ownsRow base e size v' (n + m) (xs ++ news) → w.grownBy w' v.ownBlock → (v'.ownBlock = v.ownBlock ∨ v'.ownBlock = some w.heap.size) → K (a.put o.dst v') w') :
    if Region.wanted o (yielded ops a.tmps) = true then Oper.wp P o a w K Q else E := by
  have hw : Region.wanted o (yielded ops a.tmps) = true := by simp [Region.wanted, hgd]
  rw [if_pos hw]
  exact wp_append_row w s x t ho base e i z size bytes ht hi hz hsize hby hzs hsz v n xs hs hown A m c news hx hr h1 h63 hbytes hbase h
end
theorem Strs.boxed {w : World} {b : Nat} {t : TypeId} {fr : Nat × Nat} (x : Str) (h : w.heap[b]? = some (.cells #[encStr x] t fr)) : Row w (some ⟨b, 0, none⟩) 1 1 [encStr x] := by
  refine ⟨rfl, fun _ => ⟨b, 0, rfl, lt_of_obj h, fun j u hu => ?_⟩⟩
  match j with
  | 0 => simp at hu; subst hu; simp [World.cell?, h]
  | j + 1 => simp at hu
theorem at_newB (w : World) (o : Obj) (n : Nat) (h : n = w.heap.size) : (w.alloc o).heap[n]? = some o := by subst h; exact heap_alloc_new w o

set_option maxRecDepth 10000 in
set_option maxHeartbeats 1000000 in
theorem ref_supersX (A : Option Addr) (cap : Nat) (l : List Cls) (x : Str) (w0 w : World) (h : Classes w0 A l) (he : Ext w0 w) (hle : l.length ≤ 9223372036854775807) :
    Calls Try.prog 93 #[.slice A l.length cap, encStr x] w fun e w' => (∃ A' cap', e = .returned (.slice A' (supL l x).length cap') ∧ (supL l x).length ≤ cap' ∧ cap' ≤ 9223372036854775807 ∧ Strs w0 A' (supL l x)) ∧ w' = w := by
  have Ha := hide (ref_at22 A cap l x w (h.ext he) hle)
  rcases atI_cases l x with ⟨e1, e2, _⟩ | ⟨k, hk, e1, e2, _⟩
  · rw [e1] at Ha
    rw [e2]
    clear e1 e2 h he
    go_enter Try.func93, Try.ntmps93
    go_wp2_with fail
    refine Ha.out.mono ?_
    rintro e w1 ⟨rfl, rfl⟩
    go_wp2
    go_ret
    exact ⟨⟨none, 0, rfl, Nat.le_refl _, by omega, Strs.nil _⟩, rfl⟩
  · rw [e1] at Ha
    rw [e2]
    obtain ⟨b, o, rfl, hb, hc0, hc1, hc2⟩ := (h.ext he).at_ hk
    have Hs := hide (h.sup _ (List.getElem_mem hk))
    obtain ⟨g1, g2⟩ := h.le _ (List.getElem_mem hk)
    have hk' : (k : Int) < (l.length : Int) := by omega
    have hk0 : ¬ (k : Int) < 0 := by omega
    clear hc0 hc2 h e1 e2 he
    generalize (l[k]'hk).sup = S at *
    generalize (l[k]'hk).A = A1 at *
    generalize (l[k]'hk).cap = c1 at *
    go_enter Try.func93, Try.ntmps93
    go_wp2_with fail
    refine Ha.out.mono ?_
    rintro e w1 ⟨rfl, rfl⟩
    go_wp2
    go_ret
    exact ⟨⟨A1, c1, rfl, g1, g2, Hs.out⟩, rfl⟩

theorem ref_supers (A : Option Addr) (cap : Nat) (l : List Cls) (x : Str) (w : World) (h : Classes w A l) (hle : l.length ≤ 9223372036854775807) :
    Calls Try.prog 93 #[.slice A l.length cap, encStr x] w fun e w' => (∃ A' cap', e = .returned (.slice A' (supL l x).length cap') ∧ (supL l x).length ≤ cap' ∧ cap' ≤ 9223372036854775807 ∧ Strs w' A' (supL l x)) ∧ w' = w :=
  (ref_supersX A cap l x w w h (Ext.refl _) hle).mono fun _ _ ⟨⟨A', c', h1, h2, h3, h4⟩, h5⟩ => ⟨⟨A', c', h1, h2, h3, by rw [h5]; exact h4⟩, h5⟩

theorem drop_cons {l : List Str} {i : Nat} (h : i < l.length) : l.drop i = l.getD i [] :: l.drop (i + 1) := by
  rw [List.drop_eq_getElem_cons h]; simp [h]

set_option maxRecDepth 10000 in
set_option maxHeartbeats 2000000 in
theorem sup_above (A : Option Addr) (cap : Nat) (l : List Cls) (k : Nat) (x : Str) (w : World) (h : Classes w A l) (hl : l.length ≤ 9) (hs : ∀ c ∈ l, c.sup.length ≤ 9) (hk : k < l.length)
    (hkn : ∀ c ∈ l, ∀ s ∈ c.sup, s ∈ names l) (hx : supL l x = (l[k]'hk).sup) :
    Calls Try.prog 81 #[.slice A l.length cap, .int .i64 k] w fun e w' => (∃ A' cap', e = .returned (.slice A' (aboveL l x).length cap') ∧ (aboveL l x).length ≤ cap' ∧ cap' ≤ 9223372036854775807 ∧ Strs w' A' (aboveL l x)) ∧ Ext w w' := by
  obtain ⟨i0, hi, hz0, hz1, hz2⟩ := info_parts str_infoB
  have hB := boundL_le l hl hs x
  have HB : Hid (boundL l x = (supL l x).length + restN l []) := hide rfl
  have HR : Hid (aboveGo l (boundL l x) [] (supL l x) = aboveL l x) := hide rfl
  have Hkn : Hid (∀ y, ∀ s ∈ supL l y, s ∈ names l) := hide (by
    intro y s hsy
    rcases atI_cases l y with ⟨_, e2, _⟩ | ⟨j, hj, _, e2, _⟩
    · rw [e2] at hsy; cases hsy
    · rw [e2] at hsy; exact hkn _ (List.getElem_mem hj) s hsy)
  have Hx := hide hx
  have HC := hide h
  obtain ⟨b, o, rfl, hb, hc0, hc1, hc2⟩ := h.at_ hk
  have Hs := hide (h.sup _ (List.getElem_mem hk))
  obtain ⟨g1, g2⟩ := h.le _ (List.getElem_mem hk)
  have hk' : (k : Int) < (l.length : Int) := by omega
  have hk0 : (0 : Int) ≤ (k : Int) := by omega
  have Hsup := hide hs
  clear hc0 hc2 h hx hkn hs
  rw [← Hx.out] at Hs hc1 g1
  generalize (l[k]'hk).A = A1 at *
  generalize (l[k]'hk).cap = c1 at *
  generalize aboveL l x = RES at *
  generalize boundL l x = B at *
  generalize hS0 : supL l x = S0 at *
  have HS0 := hide hS0
  clear hS0
  go_enter Try.func81, Try.ntmps81
  go_wp2
  go_loopw [5, 6, 7] (fun v u i wr => ∃ (n : Nat) (out row : List Str) (A6 : Option Addr) (c6 : Nat), n ≤ row.length ∧ out.length ≤ n ∧ row.length ≤ B ∧ i = .int .i64 n ∧ u = .slice A6 row.length c6 ∧ row.length ≤ c6 ∧ c6 ≤ 9223372036854775807 ∧
    Hid (row.length + restN l out ≤ B) ∧ Hid (Strs wr A6 row) ∧ Hid (wr.ownsRow w.heap.size 9 1 v out.length (out.map encStr)) ∧ Hid (Ext w wr) ∧ Hid (∀ c o, A6 = some ⟨c, o, none⟩ → v.ownBlock ≠ some c) ∧ Hid (aboveGo l (B - n) out (row.drop n) = RES) ∧ Hid (∀ s ∈ row, s ∈ names l)) (fun _ _ i _ => B - (intOf i).toNat)
  case atStart => exact ⟨0, [], S0, A1, c1, Nat.zero_le _, by simp, by have := HB.out; omega, rfl, rfl, g1, g2, hide (by have := HB.out; omega), Hs, hide (World.ownsRow_nil _ _ _ _), hide (Ext.refl _), hide (by intro c o _ h; cases h), HR, hide (fun s h => Hkn.out x s (by rw [HS0.out]; exact h))⟩
  case round =>
    obtain ⟨n, out, row, A6, c6, hn, hon, hrB, rfl, rfl, h1, h2, HM, HR6, HO, HX, HD6, HG, HK⟩ := hrel
    by_cases hlt : n < row.length
    · obtain ⟨b6, o6, rfl, hb6, q0⟩ := HR6.out.at_ hlt
      have hlt' : (n : Int) < (row.length : Int) := by omega
      have Hd := hide (drop_cons hlt)
      have Hmem : Hid (row.getD n [] ∈ row) := hide (by simp [hlt])
      generalize row.getD n [] = y at *
      obtain ⟨A5, c5, rfl, p1, p2, p3, _⟩ := Strs.of_own HO.out
      have P3 := hide p3
      clear p3
      have Hh := hide (has_s A5 c5 out y _ P3.out (by omega))
      have hBn : B - n = (B - (n + 1)) + 1 := by omega
      have HBn := hide hBn
      clear hBn
      cases ho : out.any (· == y)
      · rw [ho] at Hh
        have Hnew : Hid (aboveGo l (B - (n + 1)) (out ++ [y]) ((row ++ supL l y).drop (n + 1)) = RES) := hide (by
          have := HG.out
          rw [Hd.out, HBn.out] at this
          unfold aboveGo at this
          rw [ho] at this
          rw [List.drop_append_of_le_length (by omega)]
          exact this)
        have HMn : Hid ((row ++ supL l y).length + restN l (out ++ [y]) ≤ B) := hide (by
          have := restN_add l out y ho
          have := HM.out
          rw [List.length_append]
          omega)
        have hbr : b < wr.heap.size := by have := HX.out.size; omega
        rcases atI_cases l y with ⟨_, _, e3⟩ | ⟨j, hj, e1, e2, e3⟩
        · exact absurd (HK.out y Hmem.out) e3
        · have Ha := hide (fun w' e => sup_at (some ⟨b, o, none⟩) cap l y w' (HC.out.ext e) (by omega))
          rw [e1] at Ha
          obtain ⟨b', o', e', _, hd0, hd1, hd2⟩ := HC.out.at_ hj
          injection e' with e'
          injection e' with e4 e5
          subst e4 e5
          have Hsj := hide (HC.out.sup _ (List.getElem_mem hj))
          rw [← e2] at hd1 Hsj
          have hsl := supL_len l Hsup.out y
          generalize (l[j]'hj).A = A7 at *
          generalize (l[j]'hj).cap = c7 at *
          have hj' : (j : Int) < (l.length : Int) := by omega
          have hj0 : (0 : Int) ≤ (j : Int) := by omega
          have Hsub : Hid (∀ s ∈ row ++ supL l y, s ∈ names l) := hide (by
            intro s hs
            rcases List.mem_append.1 hs with hs | hs
            · exact HK.out s hs
            · exact Hkn.out y s hs)
          have HE2 := hide e2
          have hon' : (out ++ [y]).length ≤ n + 1 := by simp; omega
          clear hd0 hd2 e1 e2 e3 ho
          generalize supL l y = Y at *
          go_wp2_with fail
          refine Hh.out.mono ?_
          rintro e w1 ⟨rfl, rfl⟩
          go_wp2_with (at_builtin; refine wpList_append_row _ rfl _ _ 65 rfl w.heap.size 9 i0 _ 1 16 Try.underlying65 hi hz0 hz1 hz2 rfl (by decide) (.slice A5 out.length c5) out.length (out.map encStr) rfl (HO.out.alloc _) _ 1 1 [encStr y] rfl ?c2 ?c3 ?c4 ?c5 ?c6 ?_)
          case c2 => exact Strs.boxed _ (at_newB _ _ _ (by simp))
          case c3 => intro y hy; simp at hy; subst hy; rfl
          case c4 => unfold maxLen; omega
          case c5 => omega
          case c6 => exact Ext.size (HX.out.alloc _)
          intro v3 w4 hown3 hg3 hat3
          have X4 : Hid (Ext w w4) := hide (Ext.app (HX.out.alloc _) hg3 (HO.out.alloc _) (Nat.le_refl _))
          have hb6' := hb6
          have R4 : Hid (Strs w4 (some ⟨b6, o6, none⟩) row) := hide (Row.keep (HR6.out.ext (Ext.alloc (Ext.refl _) _)) hg3.size (fun b o e hb => hg3.block b hb (fun h => HD6.out b o e h.symm)))
          have D4 : Hid (v3.ownBlock ≠ some b6) := hide (fun h => by
            rcases hat3 with h3 | h3
            · exact HD6.out b6 o6 rfl (h3 ▸ h)
            · rw [h3] at h; injection h with h; first | omega | (simp at h; omega))
          have L4 := hide hown3.lt
          have O4 : Hid (w4.ownsRow w.heap.size 9 1 v3 (out ++ [y]).length ((out ++ [y]).map encStr)) := hide (by simpa using hown3)
          clear hown3 hg3 hat3 HO HX HR6 HD6
          have hd3 : w4.cell? ⟨b, o + j * 3 + 1, none⟩ = some (.slice A7 Y.length c7) := (World.cell?_of_block (a := ⟨b, o + j * 3 + 1, none⟩) (X4.out.heap hb)).trans hd1
          go_wp2_with fail
          refine (Ha.out _ X4.out).mono ?_
          rintro e w5 ⟨rfl, rfl⟩
          go_wp2_with fail
          refine (concat2 w5.heap.size c6 c7 (some ⟨b6, o6, none⟩) A7 row Y _ _ (at_newB _ _ _ rfl) (R4.out.ext (by repeat (first | exact Ext.refl _ | exact Ext.pre (by simp) | exact Ext.alloc (by assumption) _ | refine Ext.alloc ?_ _ |  refine Ext.more ?_ _ _ | refine Ext.drew ?_ | refine Ext.drewN ?_ _))) (Hsj.out.ext (X4.out.alloc _)) (by omega)).mono ?_
          rintro e w6 ⟨⟨A8, c8, rfl, r1, r2, r3, r4⟩, l6, d6, rfl⟩
          have R8 := hide r3
          have R9 := hide r4
          clear r3 r4
          go_wp2
          go_roundw
          case rel => exact ⟨n + 1, out ++ [y], row ++ Y, A8, c8, by simp; omega, hon', by have := HMn.out; omega, by go_num, by rw [List.length_append], r1, r2, HMn, R8, hide (own_extB O4.out (by repeat (first | exact Ext.refl _ | exact Ext.pre (by simp) | exact Ext.alloc (by assumption) _ | refine Ext.alloc ?_ _ |  refine Ext.more ?_ _ _ | refine Ext.drew ?_ | refine Ext.drewN ?_ _))), hide (X4.out.trans (by repeat (first | exact Ext.refl _ | exact Ext.pre (by simp) | exact Ext.alloc (by assumption) _ | refine Ext.alloc ?_ _ |  refine Ext.more ?_ _ _ | refine Ext.drew ?_ | refine Ext.drewN ?_ _))), hide (fun c o h => fun hv => by have := R9.out c o h; have := L4.out c hv; simp at *; omega), Hnew, Hsub⟩
          case measure => simp [intOf]; omega
      · rw [ho] at Hh
        have Hnew : Hid (aboveGo l (B - (n + 1)) out (row.drop (n + 1)) = RES) := hide (by
          have := HG.out
          rw [Hd.out, HBn.out] at this
          unfold aboveGo at this
          rw [ho] at this
          exact this)
        go_wp2_with fail
        refine Hh.out.mono ?_
        rintro e w1 ⟨rfl, rfl⟩
        go_wp2
        go_roundw
        case rel => exact ⟨n + 1, out, row, some ⟨b6, o6, none⟩, c6, hlt, by omega, hrB, by go_num, rfl, h1, h2, HM, HR6, HO, HX, HD6, Hnew, HK⟩
        case measure => simp [intOf]; omega
    · have hge : (row.length : Int) ≤ (n : Int) := by omega
      have hfin := HG.out
      rw [List.drop_eq_nil_of_le (by omega), aboveGo_nil] at hfin
      subst hfin
      obtain ⟨A5, c5, rfl, p1, p2, p3, _⟩ := Strs.of_own HO.out
      have P3 := hide p3
      clear p3
      go_wp2
      go_ret
      exact ⟨⟨A5, c5, rfl, p1, p2, P3.out⟩, HX.out⟩

end Go.Proofs.Ytnegamkakdbhfaa
