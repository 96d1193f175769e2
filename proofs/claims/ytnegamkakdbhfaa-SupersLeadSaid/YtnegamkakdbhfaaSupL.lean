/- Contracts: those that are not above others, the reference's; are classes not too many. -/
import Derived.Test.YtnegamkakdbhfaaSupK
namespace Go.Proofs.Ytnegamkakdbhfaa
open Go.RowKit

def fewL (l : List Cls) : Bool := decide (l.length ≤ 9) && (List.range l.length).all fun i => decide ((supAt l i).length ≤ 9)
theorem fewL_iff (l : List Cls) : fewL l = true ↔ l.length ≤ 9 ∧ ∀ c ∈ l, c.sup.length ≤ 9 := by
  unfold fewL
  simp only [Bool.and_eq_true, decide_eq_true_eq, List.all_eq_true, List.mem_range]
  constructor
  · rintro ⟨h1, h2⟩
    refine ⟨h1, fun c hc => ?_⟩
    obtain ⟨i, hi, rfl⟩ := List.getElem_of_mem hc
    have := h2 i hi
    rwa [supAt_eq hi] at this
  · rintro ⟨h1, h2⟩
    exact ⟨h1, fun i hi => by rw [supAt_eq hi]; exact h2 _ (List.getElem_mem hi)⟩

section
variable (A B : Option Addr) (cap cap' : Nat) (l : List Cls) (ns : List Str) (w : World)
set_option maxRecDepth 10000 in
set_option maxHeartbeats 1000000 in
theorem few_ok (h : Classes w A l) (hle : l.length ≤ 9223372036854775807) :
    Calls Try.prog 41 #[.slice A l.length cap] w fun e w' => e = .returned (.int .i64 (if fewL l then 1 else 0)) ∧ w' = w := by
  have HC := hide h
  clear h
  by_cases hl : l.length ≤ 9
  · have hl' : (l.length : Int) ≤ 9 := by omega
    have HR : Hid (fewL l = (List.range l.length).all fun i => decide ((supAt l i).length ≤ 9)) := hide (by unfold fewL; simp [hl])
    generalize fewL l = R at *
    go_enter Try.func41, Try.ntmps41
    go_wp2
    go_loop [3] (fun i => ∃ k : Nat, k ≤ l.length ∧ i = .int .i64 k ∧ Hid (∀ j, j < k → decide ((supAt l j).length ≤ 9) = true)) (fun i => l.length - (intOf i).toNat)
    case atStart => exact ⟨0, Nat.zero_le _, rfl, hide (fun j hj => absurd hj (by omega))⟩
    case round =>
      obtain ⟨k, hk, rfl, HJ⟩ := hrel
      by_cases hlt : k < l.length
      · obtain ⟨b, o, rfl, hb, q0, q1, q2⟩ := HC.out.at_ hlt
        have hlt' : (k : Int) < (l.length : Int) := by omega
        have Hs := hide (supAt_eq hlt)
        clear q0 q2
        generalize (l[k]'hlt).sup = S at *
        by_cases hs : S.length ≤ 9
        · have hs' : (S.length : Int) ≤ 9 := by omega
          go_wp2
          go_round
          case rel =>
            refine ⟨k + 1, hlt, by go_num, hide (fun j hj => ?_)⟩
            by_cases e : j = k
            · subst e; rw [Hs.out]; simpa using hs
            · exact HJ.out j (by omega)
          case measure => simp [intOf]; omega
        · have hs' : (9 : Int) < (S.length : Int) := by omega
          have hR : R = false := by rw [HR.out]; exact allR_no hlt (by rw [Hs.out]; simpa using hs)
          subst hR
          go_wp2
          go_ret
          exact ⟨rfl, rfl⟩
      · have hge : (l.length : Int) ≤ (k : Int) := by omega
        have hR : R = true := by rw [HR.out]; exact allR_yes (fun j hj => HJ.out j (by omega))
        subst hR
        go_wp2
        go_ret
        exact ⟨rfl, rfl⟩
  · have hl' : (9 : Int) < (l.length : Int) := by omega
    have hR : fewL l = false := by unfold fewL; simp [hl]
    rw [hR]
    clear hR
    go_enter Try.func41, Try.ntmps41
    go_wp2
    go_ret
    exact ⟨rfl, rfl⟩

theorem orR_yes {p : Nat → Bool} {n k : Nat} (hk : k < n) (h : p k = true) : (List.range n).any p = true := List.any_eq_true.2 ⟨k, by simpa using hk, h⟩
theorem aboveAny_range (x : Str) : aboveAny l ns x = (List.range ns.length).any fun k => (aboveL l (ns.getD k [])).any (· == x) := by
  unfold aboveAny
  rw [Bool.eq_iff_iff, List.any_eq_true, List.any_eq_true]
  constructor
  · rintro ⟨y, hy, h⟩
    obtain ⟨k, hk, rfl⟩ := List.getElem_of_mem hy
    exact ⟨k, by simpa using hk, by simpa [hk] using h⟩
  · rintro ⟨k, hk, h⟩
    simp only [List.mem_range] at hk
    exact ⟨ns.getD k [], by simp [hk], h⟩
theorem anyR_succ (p : Nat → Bool) (k : Nat) : (List.range (k + 1)).any p = ((List.range k).any p || p k) := by
  rw [List.range_succ, List.any_append]; simp

set_option maxRecDepth 10000 in
set_option maxHeartbeats 4000000 in
theorem ref_most (h : Classes w A l) (hl : l.length ≤ 9) (hs : ∀ c ∈ l, c.sup.length ≤ 9) (hn : Strs w B ns) (hns : ns.length ≤ 20) :
    Calls Try.prog 54 #[.slice A l.length cap, .slice B ns.length cap'] w fun e w' => (∃ A' cap', e = .returned (.slice A' (mostL l ns).length cap') ∧ (mostL l ns).length ≤ cap' ∧ cap' ≤ 9223372036854775807 ∧ Strs w' A' (mostL l ns)) ∧ Ext w w' := by
  have HC := hide h
  have HS := hide hs
  have HN := hide hn
  have hle : l.length ≤ 9223372036854775807 := by omega
  have Ho := hide (ref_ok A cap l w h hl hs)
  clear h hs hn
  cases ho : okL l
  · have hR : mostL l ns = [] := by unfold mostL; rw [ho]; rfl
    rw [ho] at Ho
    rw [hR]
    clear hR ho
    go_enter Try.func54, Try.ntmps54
    go_wp2_with fail
    refine Ho.out.mono ?_
    rintro e w2 ⟨rfl, l2, d2, rfl⟩
    go_wp2
    go_ret
    exact ⟨⟨none, 0, rfl, Nat.le_refl _, by omega, Strs.nil _⟩, (by repeat (first | exact Ext.refl _ | exact Ext.pre (by simp) | exact Ext.alloc (by assumption) _ | refine Ext.alloc ?_ _ |  refine Ext.more ?_ _ _ | refine Ext.drew ?_ | refine Ext.drewN ?_ _))⟩
  · have hR : mostL l ns = ns.foldl (mostStep l ns) [] := by unfold mostL; rw [ho]; rfl
    rw [ho] at Ho
    rw [hR]
    clear hR ho
    obtain ⟨i0, hi, hz0, hz1, hz2⟩ := info_parts str_infoB
    have Hml : Hid (∀ m, ((ns.take m).foldl (mostStep l ns) []).length ≤ 20) := hide (by
      intro m
      have h1 := most_len l ns (ns.take m) []
      have h2 : (ns.take m).length ≤ 20 := by rw [List.length_take]; omega
      rw [List.length_nil] at h1
      omega)
    go_enter Try.func54, Try.ntmps54
    go_wp2_with fail
    refine Ho.out.mono ?_
    rintro e w2 ⟨rfl, hx2⟩
    have HX2 := hide hx2
    clear hx2
    go_wp2
    go_loopw [5, 6] (fun u i wr => ∃ m : Nat, m ≤ ns.length ∧ i = .int .i64 m ∧ Hid (Ext w wr) ∧ Hid (wr.ownsRow w.heap.size 9 1 u ((ns.take m).foldl (mostStep l ns) []).length (((ns.take m).foldl (mostStep l ns) []).map encStr))) (fun _ i _ => ns.length - (intOf i).toNat)
    case atStart => exact ⟨0, Nat.zero_le _, rfl, HX2, hide (World.ownsRow_nil _ _ _ _)⟩
    case round =>
      obtain ⟨m, hm, rfl, HX, HO⟩ := hrel
      obtain ⟨wo, rfl⟩ : ∃ wo : World, wo = wr := ⟨_, rfl⟩
      by_cases hltm : m < ns.length
      · obtain ⟨b, o, rfl, hb, q0⟩ := (HN.out.ext HX.out).at_ hltm
        have hltm' : (m : Int) < (ns.length : Int) := by omega
        have hm0 : (0 : Int) ≤ (m : Int) := by omega
        have Hsn : Hid ((ns.take (m + 1)).foldl (mostStep l ns) [] = if (names l).any (· == ns.getD m []) && !aboveAny l ns (ns.getD m []) && !(((ns.take m).foldl (mostStep l ns) []).any (· == ns.getD m [])) then (ns.take m).foldl (mostStep l ns) [] ++ [ns.getD m []] else (ns.take m).foldl (mostStep l ns) []) := hide (by rw [take_snocS ns hltm, most_snoc]; rfl)
        have hml := Hml.out m
        have Hany := hide (aboveAny_range l ns (ns.getD m []))
        generalize ns.getD m [] = y at *
        generalize (ns.take m).foldl (mostStep l ns) [] = O at *
        have Ha := hide (fun w' (e : Ext wo w') => hide (ref_at22 A cap l y w' (HC.out.ext (HX.out.trans e)) hle))
        have hneg := atI_neg l y
        obtain ⟨AO, cO, rfl, p1, p2, p3, _⟩ := Strs.of_own HO.out
        have P3 := hide p3
        have Hh := hide (fun w' (e : Ext wo w') => hide (ref_has AO cO O y w' (P3.out.ext e) (by omega)))
        clear p3
        generalize hg0 : (!(names l).any (· == y) || O.any (· == y)) = g0
        have Hg0 := hide hg0
        generalize O.any (· == y) = oy at *
        generalize (names l).any (· == y) = kn at *
        generalize atI l y = a at *
        -- what stands before the inner loop is walked for each way; the loop itself is one
        cases kn
        · have ha : a < 0 := by simpa using hneg
          have hgt : g0 = true := by rw [← hg0]; rfl
          clear hneg hg0
          subst hgt
          have Hs2 := hide Hsn.out
          simp only [Bool.false_and, Bool.false_eq_true, ↓reduceIte] at Hs2
          go_wp2_with fail
          refine (Ha.out _ (by repeat (first | exact Ext.refl _ | exact Ext.pre (by simp) | exact Ext.alloc (by assumption) _ | refine Ext.alloc ?_ _ |  refine Ext.more ?_ _ _ | refine Ext.drew ?_ | refine Ext.drewN ?_ _))).out.mono ?_
          rintro e w1 ⟨rfl, rfl⟩
          go_wp2
          go_loopw [7, 8] (fun g j wr => ∃ k : Nat, k ≤ ns.length ∧ j = .int .i64 k ∧ g = .bool true ∧ Hid (Ext w1 wr)) (fun _ j _ => ns.length - (intOf j).toNat)
          case atStart => exact ⟨0, Nat.zero_le _, rfl, rfl, hide (by repeat (first | exact Ext.refl _ | exact Ext.pre (by simp) | exact Ext.alloc (by assumption) _ | refine Ext.alloc ?_ _ |  refine Ext.more ?_ _ _ | refine Ext.drew ?_ | refine Ext.drewN ?_ _))⟩
          case round =>
            obtain ⟨k, hk, rfl, rfl, HX2⟩ := hrel
            by_cases hltk : k < ns.length
            · have hltk' : (k : Int) < (ns.length : Int) := by omega
              go_wp2
              go_quiet (fail)
              go_wp2
              go_roundw
              case rel => exact ⟨k + 1, hltk, by go_num, rfl, hide (HX2.out.trans (by repeat (first | exact Ext.refl _ | exact Ext.pre (by simp) | exact Ext.alloc (by assumption) _ | refine Ext.alloc ?_ _ |  refine Ext.more ?_ _ _ | refine Ext.drew ?_ | refine Ext.drewN ?_ _)))⟩
              case measure => simp [intOf]; omega
            · have hgek : (ns.length : Int) ≤ (k : Int) := by omega
              go_wp2
              go_roundw
              case rel => exact ⟨m + 1, hltm, by go_num, hide (HX.out.trans HX2.out), hide (by rw [Hs2.out]; exact own_extB HO.out HX2.out)⟩
              case measure => simp [intOf]; omega
        · have ha : ¬ a < 0 := by simpa using hneg
          have hgt : g0 = oy := by rw [← hg0]; rfl
          clear hneg hg0
          subst hgt
          go_wp2_with fail
          refine (Ha.out _ (by repeat (first | exact Ext.refl _ | exact Ext.pre (by simp) | exact Ext.alloc (by assumption) _ | refine Ext.alloc ?_ _ |  refine Ext.more ?_ _ _ | refine Ext.drew ?_ | refine Ext.drewN ?_ _))).out.mono ?_
          rintro e w1 ⟨rfl, rfl⟩
          go_wp2_with fail
          refine (Hh.out _ (by repeat (first | exact Ext.refl _ | exact Ext.pre (by simp) | exact Ext.alloc (by assumption) _ | refine Ext.alloc ?_ _ |  refine Ext.more ?_ _ _ | refine Ext.drew ?_ | refine Ext.drewN ?_ _))).out.mono ?_
          rintro e w1 ⟨rfl, rfl⟩
          go_wp2
          go_loopw [7, 8] (fun g j wr => ∃ k : Nat, k ≤ ns.length ∧ j = .int .i64 k ∧ g = .bool (g0 || (List.range k).any fun k => (aboveL l (ns.getD k [])).any (· == y)) ∧ Hid (Ext w1 wr)) (fun _ j _ => ns.length - (intOf j).toNat)
          case atStart => exact ⟨0, Nat.zero_le _, rfl, by simp; intro hneg2; omega, hide (by repeat (first | exact Ext.refl _ | exact Ext.pre (by simp) | exact Ext.alloc (by assumption) _ | refine Ext.alloc ?_ _ |  refine Ext.more ?_ _ _ | refine Ext.drew ?_ | refine Ext.drewN ?_ _))⟩
          case round =>
            obtain ⟨k, hk, rfl, hgv, HX2⟩ := hrel
            by_cases hltk : k < ns.length
            · have hltk' : (k : Int) < (ns.length : Int) := by omega
              have hk0 : (0 : Int) ≤ (k : Int) := by omega
              have Hsu := hide (anyR_succ (fun k => (aboveL l (ns.getD k [])).any (· == y)) k)
              generalize ((List.range k).any fun k => (aboveL l (ns.getD k [])).any (· == y)) = gk at *
              generalize hgg : (g0 || gk) = gg at *
              have Hgg := hide hgg
              subst hgv
              obtain ⟨b2, o2, he2, hb2, r0⟩ := (HN.out.ext (HX.out.trans HX2.out)).at_ hltk
              injection he2 with he2
              injection he2 with he3 he4
              subst he3 he4
              have q2 : wr.cell? ⟨b, o + m, none⟩ = some (.string ⟨y.toArray⟩) := (World.cell?_of_block (a := ⟨b, o + m, none⟩) (HX2.out.heap hb)).trans q0
              have Hab := hide (fun w' (e : Ext wr w') => hide (ref_above A cap l (ns.getD k []) w' (HC.out.ext ((HX.out.trans HX2.out).trans e)) hl HS.out))
              clear hgg
              generalize ns.getD k [] = z at *
              generalize aboveL l z = V at *
              cases gg
              · cases hv : V.any (· == y)
                all_goals
                  rw [hv] at Hsu
                  go_wp2
                  go_region_held3 (fun w' => w'.cell? ⟨b, o + k, none⟩ = some (.string ⟨z.toArray⟩) ∧ w'.cell? ⟨b, o + m, none⟩ = some (.string ⟨y.toArray⟩)) (first | assumption | go_keep | (refine ⟨?_, ?_⟩ <;> first | assumption | go_keep)) (first
                    | (go_at_call 79
                       refine Calls.mono (Hab.out _ ?e).out ?_
                       case e => exact (by repeat (first | exact Ext.refl _ | exact Ext.pre (by simp) | exact Ext.alloc (by assumption) _ | refine Ext.alloc ?_ _ |  refine Ext.more ?_ _ _ | refine Ext.drew ?_ | refine Ext.drewN ?_ _))
                       rintro e w3 ⟨⟨A3, c3, rfl, g1, g2, g3⟩, hx3⟩
                       have S3 := hide g3
                       have X3 : Hid (Ext wr w3) := hide (Ext.trans (by repeat (first | exact Ext.refl _ | exact Ext.pre (by simp) | exact Ext.alloc (by assumption) _ | refine Ext.alloc ?_ _ |  refine Ext.more ?_ _ _ | refine Ext.drew ?_ | refine Ext.drewN ?_ _)) hx3)
                       have s1 : w3.cell? ⟨b, o + k, none⟩ = some (.string ⟨z.toArray⟩) := (World.cell?_of_block (a := ⟨b, o + k, none⟩) (X3.out.heap hb2)).trans r0
                       have s2 : w3.cell? ⟨b, o + m, none⟩ = some (.string ⟨y.toArray⟩) := (World.cell?_of_block (a := ⟨b, o + m, none⟩) (X3.out.heap hb2)).trans q2
                       clear g3 hx3)
                    | (go_at_call 56
                       refine Calls.mono (ref_has A3 c3 V y _ (S3.out.ext (by repeat (first | exact Ext.refl _ | exact Ext.pre (by simp) | exact Ext.alloc (by assumption) _ | refine Ext.alloc ?_ _ |  refine Ext.more ?_ _ _ | refine Ext.drew ?_ | refine Ext.drewN ?_ _))) (by omega)) ?_
                       rw [hv]
                       rintro e w4 ⟨rfl, rfl⟩))
                  all_goals
                    go_wp2
                    go_roundw
                    case rel =>
                      refine ⟨k + 1, hltk, by go_num, ?_, hide (HX2.out.trans (X3.out.trans (by repeat (first | exact Ext.refl _ | exact Ext.pre (by simp) | exact Ext.alloc (by assumption) _ | refine Ext.alloc ?_ _ |  refine Ext.more ?_ _ _ | refine Ext.drew ?_ | refine Ext.drewN ?_ _))))⟩
                      rw [Hsu.out, ← Bool.or_assoc, Hgg.out]
                      rfl
                    case measure => simp [intOf]; omega
              · go_wp2
                go_quiet (fail)
                go_wp2
                go_roundw
                case rel =>
                  refine ⟨k + 1, hltk, by go_num, ?_, hide (HX2.out.trans (by repeat (first | exact Ext.refl _ | exact Ext.pre (by simp) | exact Ext.alloc (by assumption) _ | refine Ext.alloc ?_ _ |  refine Ext.more ?_ _ _ | refine Ext.drew ?_ | refine Ext.drewN ?_ _)))⟩
                  rw [Hsu.out, ← Bool.or_assoc, Hgg.out]
                  rfl
                case measure => simp [intOf]; omega
            · have hgek : (ns.length : Int) ≤ (k : Int) := by omega
              have hkn : k = ns.length := by omega
              rw [hkn, ← Hany.out] at hgv
              clear hkn
              generalize aboveAny l ns y = an at *
              subst hgv
              have q2 : wr.cell? ⟨b, o + m, none⟩ = some (.string ⟨y.toArray⟩) := (World.cell?_of_block (a := ⟨b, o + m, none⟩) (HX2.out.heap hb)).trans q0
              cases hc : (g0 || an)
              · have hcc : g0 = false ∧ an = false := by simpa using hc
                obtain ⟨rfl, rfl⟩ := hcc
                have Hs2 := hide Hsn.out
                simp only [Bool.not_false, Bool.and_self, ↓reduceIte] at Hs2
                have O2 := hide (own_extB HO.out HX2.out)
                clear hc
                go_wp2_with (at_builtin; refine wpList_append_row _ rfl _ _ 65 rfl w.heap.size 9 i0 _ 1 16 Try.underlying65 hi hz0 hz1 hz2 rfl (by decide) _ O.length (O.map encStr) rfl (O2.out.alloc _) _ 1 1 [encStr y] rfl ?c2 ?c3 ?c4 ?c5 ?c6 ?_)
                case c2 => exact Strs.boxed _ (at_newB _ _ _ (by simp))
                case c3 => intro y hy; simp at hy; subst hy; rfl
                case c4 => unfold maxLen; omega
                case c5 => omega
                case c6 => have := (HX.out.trans HX2.out).size; simp; omega
                intro v5 w5 hown5 hg5 _
                have X5 := hide (Ext.app ((HX.out.trans HX2.out).alloc _) hg5 (O2.out.alloc _) (Nat.le_refl _))
                have O5 := hide hown5
                clear hown5 hg5
                go_wp2
                go_roundw
                case rel => exact ⟨m + 1, hltm, by go_num, X5, hide (by rw [Hs2.out]; simpa using O5.out)⟩
                case measure => simp [intOf]; omega
              · have Hs2 : Hid ((ns.take (m + 1)).foldl (mostStep l ns) [] = O) := hide (by
                  rw [Hsn.out, if_neg]
                  cases g0 <;> cases an <;> simp_all)
                go_wp2
                go_roundw
                case rel => exact ⟨m + 1, hltm, by go_num, hide (HX.out.trans HX2.out), hide (by rw [Hs2.out]; exact own_extB HO.out HX2.out)⟩
                case measure => simp [intOf]; omega
      · have hge2 : (ns.length : Int) ≤ (m : Int) := by omega
        have hkl : ns.take m = ns := List.take_of_length_le (by omega)
        rw [hkl] at HO
        clear hkl
        obtain ⟨A5, c5, rfl, p1, p2, p3, _⟩ := Strs.of_own HO.out
        have P3 := hide p3
        clear p3
        go_wp2
        go_ret
        exact ⟨⟨A5, c5, rfl, p1, p2, P3.out⟩, HX.out⟩
end

end Go.Proofs.Ytnegamkakdbhfaa
