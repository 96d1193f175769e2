/- Contracts: the program's way, whole; those that are not above others. -/
import Derived.Test.YtnegamkakdbhfaaSupJ
namespace Go.Proofs.Ytnegamkakdbhfaa
open Go.RowKit

section
variable (A : Option Addr) (cap : Nat) (l : List Cls) (x y : Str) (w : World)
set_option maxRecDepth 10000 in
set_option maxHeartbeats 2000000 in
theorem sup_path (h : Classes w A l) (hl : l.length ≤ 9) (hs : ∀ c ∈ l, c.sup.length ≤ 9) :
    Calls Try.prog 50 #[.slice A l.length cap, encStr x, encStr y] w fun e w' => (∃ A' cap', e = .returned (.tuple #[.slice A' (ofNats (pathL l x y)).length cap', .bool (pathL l x y).isSome]) ∧ (ofNats (pathL l x y)).length ≤ cap' ∧ cap' ≤ 9223372036854775807 ∧ Ints w' A' (ofNats (pathL l x y))) ∧ Ext w w' := by
  have Ha := hide (sup_at A cap l x w h (by omega))
  have Hb := hide (sup_at A cap l y w h (by omega))
  have Ho := hide (fun w' (e : Ext w w') => hide (sup_sound A cap l w' (h.ext e) hl hs))
  rcases atI_cases l x with ⟨e1, _, _⟩ | ⟨a, ha, e1, _, ex⟩
  · have hR : pathL l x y = none := by unfold pathL; rw [e1]; simp
    rw [e1] at Ha
    rw [hR]
    clear h hs e1 hR
    generalize atI l y = b at *
    go_enter Try.func50, Try.ntmps50
    go_wp2_with fail
    refine Ha.out.mono ?_
    rintro e w1 ⟨rfl, rfl⟩
    go_wp2_with fail
    refine Hb.out.mono ?_
    rintro e w1 ⟨rfl, rfl⟩
    go_wp2
    go_ret2
    exact ⟨⟨none, 0, rfl, Nat.le_refl _, by omega, RowOf.nil _ _ _⟩, (by repeat (first | exact Ext.refl _ | exact Ext.pre (by simp) | exact Ext.alloc (by assumption) _ | refine Ext.alloc ?_ _ |  refine Ext.more ?_ _ _ | refine Ext.drew ?_ | refine Ext.drewN ?_ _))⟩
  · rcases atI_cases l y with ⟨e2, _, _⟩ | ⟨b, hb, e2, _, ey⟩
    · have hR : pathL l x y = none := by unfold pathL; rw [e2]; simp
      rw [e1] at Ha
      rw [e2] at Hb
      rw [hR]
      have ha0 : ¬ (a : Int) < 0 := by omega
      clear h hs e1 hR e2
      go_enter Try.func50, Try.ntmps50
      go_wp2_with fail
      refine Ha.out.mono ?_
      rintro e w1 ⟨rfl, rfl⟩
      go_wp2_with fail
      refine Hb.out.mono ?_
      rintro e w1 ⟨rfl, rfl⟩
      go_wp2
      go_ret2
      exact ⟨⟨none, 0, rfl, Nat.le_refl _, by omega, RowOf.nil _ _ _⟩, (by repeat (first | exact Ext.refl _ | exact Ext.pre (by simp) | exact Ext.alloc (by assumption) _ | refine Ext.alloc ?_ _ |  refine Ext.more ?_ _ _ | refine Ext.drew ?_ | refine Ext.drewN ?_ _))⟩
    · cases ho : okL l
      · have hR : pathL l x y = none := by unfold pathL; rw [ho]; simp
        rw [e1] at Ha
        rw [e2] at Hb
        rw [ho] at Ho
        rw [hR]
        have ha0 : ¬ (a : Int) < 0 := by omega
        have hb0 : ¬ (b : Int) < 0 := by omega
        clear h hs e1 hR e2 ho
        go_enter Try.func50, Try.ntmps50
        go_wp2_with fail
        refine Ha.out.mono ?_
        rintro e w1 ⟨rfl, rfl⟩
        go_wp2_with fail
        refine Hb.out.mono ?_
        rintro e w1 ⟨rfl, rfl⟩
        go_wp2_with fail
        refine (Ho.out _ (by repeat (first | exact Ext.refl _ | exact Ext.pre (by simp) | exact Ext.alloc (by assumption) _ | refine Ext.alloc ?_ _ |  refine Ext.more ?_ _ _ | refine Ext.drew ?_ | refine Ext.drewN ?_ _))).out.mono ?_
        rintro e w2 ⟨rfl, l2, d2, rfl⟩
        go_wp2
        go_ret2
        exact ⟨⟨none, 0, rfl, Nat.le_refl _, by omega, RowOf.nil _ _ _⟩, (by repeat (first | exact Ext.refl _ | exact Ext.pre (by simp) | exact Ext.alloc (by assumption) _ | refine Ext.alloc ?_ _ |  refine Ext.more ?_ _ _ | refine Ext.drew ?_ | refine Ext.drewN ?_ _))⟩
      · exact sup_path_in A cap l x y w h hl hs ho a b ha hb ex ey e1 e2
end

/-! ### Those that are not above others -/
def aboveAny (l : List Cls) (ns : List Str) (x : Str) : Bool := ns.any fun y => (aboveL l y).any (· == x)
def mostStep (l : List Cls) (ns out : List Str) (x : Str) : List Str :=
  if (names l).any (· == x) && !aboveAny l ns x && !(out.any (· == x)) then out ++ [x] else out
def mostL (l : List Cls) (ns : List Str) : List Str := if okL l then ns.foldl (mostStep l ns) [] else []
theorem most_snoc (l : List Cls) (ns m : List Str) (x : Str) : (m ++ [x]).foldl (mostStep l ns) [] = mostStep l ns (m.foldl (mostStep l ns) []) x := by simp [List.foldl_append]
theorem most_len (l : List Cls) (ns : List Str) : ∀ m : List Str, ∀ o : List Str, (m.foldl (mostStep l ns) o).length ≤ o.length + m.length
  | [], o => by simp
  | x :: m, o => by
    have h1 := most_len l ns m (mostStep l ns o x)
    have h2 : (mostStep l ns o x).length ≤ o.length + 1 := by unfold mostStep; split <;> simp
    simp only [List.foldl_cons, List.length_cons]
    omega
theorem goneP (l : List Cls) (ns : List Str) (x : Str) : (ns.flatMap (aboveL l)).any (· == x) = aboveAny l ns x := by
  unfold aboveAny
  rw [List.any_flatMap]
theorem gone_len (l : List Cls) (hl : l.length ≤ 9) (h : ∀ c ∈ l, c.sup.length ≤ 9) : ∀ ns : List Str, (ns.flatMap (aboveL l)).length ≤ 90 * ns.length
  | [] => by simp
  | x :: ns => by
    have h1 := gone_len l hl h ns
    have h2 := aboveL_len l hl h x
    simp only [List.flatMap_cons, List.length_append, List.length_cons]
    omega
theorem take_snocS (l : List Str) {k : Nat} (h : k < l.length) : l.take (k + 1) = l.take k ++ [l.getD k []] := by
  rw [List.take_succ_eq_append_getElem h]; simp [h]

section
variable (A B : Option Addr) (cap cap' : Nat) (l : List Cls) (ns : List Str) (w : World)
set_option maxRecDepth 10000 in
set_option maxHeartbeats 4000000 in
theorem sup_most (h : Classes w A l) (hl : l.length ≤ 9) (hs : ∀ c ∈ l, c.sup.length ≤ 9) (hn : Strs w B ns) (hns : ns.length ≤ 20) :
    Calls Try.prog 53 #[.slice A l.length cap, .slice B ns.length cap'] w fun e w' => (∃ A' cap', e = .returned (.slice A' (mostL l ns).length cap') ∧ (mostL l ns).length ≤ cap' ∧ cap' ≤ 9223372036854775807 ∧ Strs w' A' (mostL l ns)) ∧ Ext w w' := by
  have HC := hide h
  have HS := hide hs
  have HN := hide hn
  have hle : l.length ≤ 9223372036854775807 := by omega
  have Ho := hide (sup_sound A cap l w h hl hs)
  clear h hs hn
  cases ho : okL l
  · have hR : mostL l ns = [] := by unfold mostL; rw [ho]; rfl
    rw [ho] at Ho
    rw [hR]
    clear hR ho
    go_enter Try.func53, Try.ntmps53
    go_wp2_with fail
    refine Ho.out.mono ?_
    rintro e w2 ⟨rfl, l2, d2, rfl⟩
    go_wp2
    go_ret
    exact ⟨⟨none, 0, rfl, Nat.le_refl _, by omega, Strs.nil _⟩, (by repeat (first | exact Ext.refl _ | exact Ext.pre (by simp) | exact Ext.alloc (by assumption) _ | refine Ext.alloc ?_ _ |  refine Ext.more ?_ _ _ | refine Ext.drew ?_ | refine Ext.drewN ?_ _))⟩
  · have hR : mostL l ns = ns.foldl (mostStep l ns) [] := by unfold mostL; rw [ho]; rfl
    have Hso := hide (okL_sound ho).1
    rw [ho] at Ho
    rw [hR]
    clear hR ho
    obtain ⟨i0, hi, hz0, hz1, hz2⟩ := info_parts str_infoB
    have Hgl : Hid (∀ k, ((ns.take k).flatMap (aboveL l)).length ≤ 1800) := hide (by
      intro k
      have h1 := gone_len l hl HS.out (ns.take k)
      have h2 : (ns.take k).length ≤ 20 := by rw [List.length_take]; omega
      omega)
    go_enter Try.func53, Try.ntmps53
    go_wp2_with fail
    refine Ho.out.mono ?_
    rintro e w2 ⟨rfl, hx2⟩
    have HX2 := hide hx2
    clear hx2
    go_wp2
    go_loopw [5, 17] (fun u i wr => ∃ k : Nat, k ≤ ns.length ∧ i = .int .i64 k ∧ Hid (Ext w wr) ∧ Hid (wr.ownsRow w.heap.size 9 1 u ((ns.take k).flatMap (aboveL l)).length (((ns.take k).flatMap (aboveL l)).map encStr))) (fun _ i _ => ns.length - (intOf i).toNat)
    case atStart => exact ⟨0, Nat.zero_le _, rfl, HX2, hide (World.ownsRow_nil _ _ _ _)⟩
    case round =>
      obtain ⟨k, hk, rfl, HX, HO⟩ := hrel
      by_cases hlt : k < ns.length
      · obtain ⟨b, o, rfl, hb, q0⟩ := (HN.out.ext HX.out).at_ hlt
        have hlt' : (k : Int) < (ns.length : Int) := by omega
        have Hsn : Hid ((ns.take (k + 1)).flatMap (aboveL l) = (ns.take k).flatMap (aboveL l) ++ aboveL l (ns.getD k [])) := hide (by rw [take_snocS ns hlt, List.flatMap_append]; simp)
        have hgl := Hgl.out k
        have hab := aboveL_len l hl HS.out (ns.getD k [])
        have Ha := hide (sup_at A cap l (ns.getD k []) wr (HC.out.ext HX.out) hle)
        generalize (ns.take k).flatMap (aboveL l) = G at *
        rcases atI_cases l (ns.getD k []) with ⟨e1, e2, _⟩ | ⟨j, hj, e1, e2, _⟩
        · rw [e1] at Ha
          rw [aboveL_none l e2, List.append_nil] at Hsn
          clear e1 e2 hab
          generalize ns.getD k [] = y at *
          go_wp2_with fail
          refine Ha.out.mono ?_
          rintro e w1 ⟨rfl, rfl⟩
          go_wp2
          go_roundw
          case rel => exact ⟨k + 1, hlt, by go_num, HX, hide (by rw [Hsn.out]; exact HO.out)⟩
          case measure => simp [intOf]; omega
        · rw [e1] at Ha
          have Hab := hide (sup_above A cap l j (ns.getD k []) wr (HC.out.ext HX.out) hl HS.out hj Hso.out.known e2)
          have hj0 : (j : Int) ≥ 0 := by omega
          clear e1 e2
          generalize aboveL l (ns.getD k []) = V at *
          generalize ns.getD k [] = y at *
          go_wp2_with fail
          refine Ha.out.mono ?_
          rintro e w1 ⟨rfl, rfl⟩
          go_wp2_with fail
          refine Hab.out.mono ?_
          rintro e w3 ⟨⟨A3, c3, rfl, g1, g2, g3⟩, hx3⟩
          have X3 := hide (HX.out.trans hx3)
          have O3 := hide (own_extB HO.out hx3)
          have G3 := hide g3
          clear g3 hx3
          go_wp2_with (at_builtin; refine wpList_append_row _ rfl _ _ 65 rfl w.heap.size 9 i0 _ 1 16 Try.underlying65 hi hz0 hz1 hz2 rfl (by decide) u5 G.length (G.map encStr) rfl O3.out A3 V.length c3 (V.map encStr) rfl ?c2 ?c3 ?c4 ?c5 ?c6 ?_)
          case c2 => exact G3.out
          case c3 => exact one_strs _
          case c4 => unfold maxLen; omega
          case c5 => omega
          case c6 => exact X3.out.size
          intro v5 w5 hown5 hg5 _
          have X5 := hide (Ext.app X3.out hg5 O3.out (Nat.le_refl _))
          have O5 := hide hown5
          clear hown5 hg5
          go_wp2
          go_roundw
          case rel => exact ⟨k + 1, hlt, by go_num, X5, hide (by rw [Hsn.out]; simpa using O5.out)⟩
          case measure => simp [intOf]; omega
      · have hge : (ns.length : Int) ≤ (k : Int) := by omega
        have hkl : ns.take k = ns := List.take_of_length_le (by omega)
        have hgl := Hgl.out k
        rw [hkl] at HO hgl
        have Hgp := hide (fun x => goneP l ns x)
        clear hkl Hgl
        generalize ns.flatMap (aboveL l) = G at *
        obtain ⟨AG, cG, rfl, z1, z2, z3, _⟩ := Strs.of_own HO.out
        have Z3 := hide z3
        clear z3 HO
        have Hml : Hid (∀ m, ((ns.take m).foldl (mostStep l ns) []).length ≤ 20) := hide (by
          intro m
          have h1 := most_len l ns (ns.take m) []
          have h2 : (ns.take m).length ≤ 20 := by rw [List.length_take]; omega
          rw [List.length_nil] at h1
          omega)
        obtain ⟨wo, rfl⟩ : ∃ wo : World, wo = wr := ⟨_, rfl⟩
        go_wp2
        go_loopw [6, 34] (fun u i wr => ∃ m : Nat, m ≤ ns.length ∧ i = .int .i64 m ∧ Hid (Ext wo wr) ∧ Hid (wr.ownsRow wo.heap.size 9 1 u ((ns.take m).foldl (mostStep l ns) []).length (((ns.take m).foldl (mostStep l ns) []).map encStr))) (fun _ i _ => ns.length - (intOf i).toNat)
        case atStart => exact ⟨0, Nat.zero_le _, rfl, hide (by repeat (first | exact Ext.refl _ | exact Ext.pre (by simp) | exact Ext.alloc (by assumption) _ | refine Ext.alloc ?_ _ |  refine Ext.more ?_ _ _ | refine Ext.drew ?_ | refine Ext.drewN ?_ _)), hide (World.ownsRow_nil _ _ _ _)⟩
        case round =>
          obtain ⟨m, hm, rfl, HX3, HO⟩ := hrel
          by_cases hltm : m < ns.length
          · obtain ⟨b, o, rfl, hb, q0⟩ := ((HN.out.ext HX.out).ext HX3.out).at_ hltm
            have hltm' : (m : Int) < (ns.length : Int) := by omega
            have Hsn : Hid ((ns.take (m + 1)).foldl (mostStep l ns) [] = if (names l).any (· == ns.getD m []) && !aboveAny l ns (ns.getD m []) && !(((ns.take m).foldl (mostStep l ns) []).any (· == ns.getD m [])) then (ns.take m).foldl (mostStep l ns) [] ++ [ns.getD m []] else (ns.take m).foldl (mostStep l ns) []) := hide (by rw [take_snocS ns hltm, most_snoc]; rfl)
            have hml := Hml.out m
            generalize ns.getD m [] = y at *
            generalize (ns.take m).foldl (mostStep l ns) [] = O at *
            have Ha := hide (fun w' (e : Ext wo w') => hide (sup_at A cap l y w' (HC.out.ext (HX.out.trans e)) hle))
            have hneg := atI_neg l y
            have Hg := hide (fun w' (e : Ext wo w') => hide (has_s AG cG G y w' (Z3.out.ext e) (by omega)))
            rw [Hgp.out y] at Hg
            obtain ⟨AO, cO, rfl, p1, p2, p3, _⟩ := Strs.of_own HO.out
            have P3 := hide p3
            have Hh := hide (fun w' (e : Ext wr w') => hide (has_s AO cO O y w' (P3.out.ext e) (by omega)))
            clear p3
            generalize aboveAny l ns y = gn at *
            generalize O.any (· == y) = oy at *
            generalize (names l).any (· == y) = kn at *
            generalize atI l y = a at *
            cases kn
            · have ha : ¬ (a ≥ 0) := by simp at hneg; omega
              have Hs2 := hide Hsn.out
              simp only [Bool.false_and, Bool.false_eq_true, ↓reduceIte] at Hs2
              clear hneg
              go_wp2_with fail
              refine (Ha.out _ (HX3.out.trans (by repeat (first | exact Ext.refl _ | exact Ext.pre (by simp) | exact Ext.alloc (by assumption) _ | refine Ext.alloc ?_ _ |  refine Ext.more ?_ _ _ | refine Ext.drew ?_ | refine Ext.drewN ?_ _)))).out.mono ?_
              rintro e w1 ⟨rfl, rfl⟩
              go_wp2
              go_roundw
              case rel => exact ⟨m + 1, hltm, by go_num, HX3, hide (by rw [Hs2.out]; exact HO.out)⟩
              case measure => simp [intOf]; omega
            · have ha : (a ≥ 0) := by simp at hneg; omega
              clear hneg
              cases gn
              · cases oy
                · have Hs2 := hide Hsn.out
                  simp only [Bool.not_false, Bool.and_self, ↓reduceIte] at Hs2
                  go_wp2_with fail
                  refine (Ha.out _ (HX3.out.trans (by repeat (first | exact Ext.refl _ | exact Ext.pre (by simp) | exact Ext.alloc (by assumption) _ | refine Ext.alloc ?_ _ |  refine Ext.more ?_ _ _ | refine Ext.drew ?_ | refine Ext.drewN ?_ _)))).out.mono ?_
                  rintro e w1 ⟨rfl, rfl⟩
                  go_wp2_with fail
                  refine (Hg.out _ (HX3.out.trans (by repeat (first | exact Ext.refl _ | exact Ext.pre (by simp) | exact Ext.alloc (by assumption) _ | refine Ext.alloc ?_ _ |  refine Ext.more ?_ _ _ | refine Ext.drew ?_ | refine Ext.drewN ?_ _)))).out.mono ?_
                  rintro e w1 ⟨rfl, rfl⟩
                  go_wp2_with fail
                  refine (Hh.out _ (by repeat (first | exact Ext.refl _ | exact Ext.pre (by simp) | exact Ext.alloc (by assumption) _ | refine Ext.alloc ?_ _ |  refine Ext.more ?_ _ _ | refine Ext.drew ?_ | refine Ext.drewN ?_ _))).out.mono ?_
                  rintro e w1 ⟨rfl, rfl⟩
                  go_wp2_with (at_builtin; refine wpList_append_row _ rfl _ _ 65 rfl wo.heap.size 9 i0 _ 1 16 Try.underlying65 hi hz0 hz1 hz2 rfl (by decide) _ O.length (O.map encStr) rfl (HO.out.alloc _) _ 1 1 [encStr y] rfl ?c2 ?c3 ?c4 ?c5 ?c6 ?_)
                  case c2 => exact Strs.boxed _ (at_newB _ _ _ (by simp))
                  case c3 => intro y hy; simp at hy; subst hy; rfl
                  case c4 => unfold maxLen; omega
                  case c5 => omega
                  case c6 => have := HX3.out.size; simp; omega
                  intro v5 w5 hown5 hg5 _
                  have X5 := hide (Ext.app (HX3.out.alloc _) hg5 (HO.out.alloc _) (Nat.le_refl _))
                  have O5 := hide hown5
                  clear hown5 hg5
                  go_wp2
                  go_roundw
                  case rel => exact ⟨m + 1, hltm, by go_num, X5, hide (by rw [Hs2.out]; simpa using O5.out)⟩
                  case measure => simp [intOf]; omega
                · have Hs2 := hide Hsn.out
                  simp only [Bool.not_true, Bool.and_false, Bool.false_eq_true, ↓reduceIte] at Hs2
                  go_wp2_with fail
                  refine (Ha.out _ (HX3.out.trans (by repeat (first | exact Ext.refl _ | exact Ext.pre (by simp) | exact Ext.alloc (by assumption) _ | refine Ext.alloc ?_ _ |  refine Ext.more ?_ _ _ | refine Ext.drew ?_ | refine Ext.drewN ?_ _)))).out.mono ?_
                  rintro e w1 ⟨rfl, rfl⟩
                  go_wp2_with fail
                  refine (Hg.out _ (HX3.out.trans (by repeat (first | exact Ext.refl _ | exact Ext.pre (by simp) | exact Ext.alloc (by assumption) _ | refine Ext.alloc ?_ _ |  refine Ext.more ?_ _ _ | refine Ext.drew ?_ | refine Ext.drewN ?_ _)))).out.mono ?_
                  rintro e w1 ⟨rfl, rfl⟩
                  go_wp2_with fail
                  refine (Hh.out _ (by repeat (first | exact Ext.refl _ | exact Ext.pre (by simp) | exact Ext.alloc (by assumption) _ | refine Ext.alloc ?_ _ |  refine Ext.more ?_ _ _ | refine Ext.drew ?_ | refine Ext.drewN ?_ _))).out.mono ?_
                  rintro e w1 ⟨rfl, rfl⟩
                  go_wp2
                  go_roundw
                  case rel => exact ⟨m + 1, hltm, by go_num, HX3, hide (by rw [Hs2.out]; exact HO.out)⟩
                  case measure => simp [intOf]; omega
              · have Hs2 := hide Hsn.out
                simp only [Bool.not_true, Bool.and_false, Bool.false_and, Bool.false_eq_true, ↓reduceIte] at Hs2
                go_wp2_with fail
                refine (Ha.out _ (HX3.out.trans (by repeat (first | exact Ext.refl _ | exact Ext.pre (by simp) | exact Ext.alloc (by assumption) _ | refine Ext.alloc ?_ _ |  refine Ext.more ?_ _ _ | refine Ext.drew ?_ | refine Ext.drewN ?_ _)))).out.mono ?_
                rintro e w1 ⟨rfl, rfl⟩
                go_wp2_with fail
                refine (Hg.out _ (HX3.out.trans (by repeat (first | exact Ext.refl _ | exact Ext.pre (by simp) | exact Ext.alloc (by assumption) _ | refine Ext.alloc ?_ _ |  refine Ext.more ?_ _ _ | refine Ext.drew ?_ | refine Ext.drewN ?_ _)))).out.mono ?_
                rintro e w1 ⟨rfl, rfl⟩
                go_wp2
                go_roundw
                case rel => exact ⟨m + 1, hltm, by go_num, HX3, hide (by rw [Hs2.out]; exact HO.out)⟩
                case measure => simp [intOf]; omega
          · have hge2 : (ns.length : Int) ≤ (m : Int) := by omega
            have hkl : ns.take m = ns := List.take_of_length_le (by omega)
            rw [hkl] at HO
            clear hkl
            obtain ⟨A5, c5, rfl, p1, p2, p3, _⟩ := Strs.of_own HO.out
            have P3 := hide p3
            clear p3
            go_wp2
            go_ret
            exact ⟨⟨A5, c5, rfl, p1, p2, P3.out⟩, HX.out.trans HX3.out⟩
end

end Go.Proofs.Ytnegamkakdbhfaa
