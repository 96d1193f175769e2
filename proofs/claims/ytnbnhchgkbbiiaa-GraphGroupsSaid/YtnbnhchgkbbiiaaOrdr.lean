/- Contract: all vertices, in order. -/
import Derived.Test.YtnbnhchgkbbiiaaCyc
namespace Go.Proofs.Ytnbnhchgkbbiiaa
open Go.RowKit

/-- All vertices in order, and the error. -/
noncomputable def orderL (n : Int) (es : List Edge) : List Nat := if graphOk n es && !(grpsL n es).any (roundL es) then (grpsL n es).flatten else []
noncomputable def orderN (n : Int) (es : List Edge) : Int := if graphOk n es then (if (grpsL n es).any (roundL es) then 9 else 0) else 1

set_option maxRecDepth 10000 in
set_option maxHeartbeats 4000000 in
theorem g_order (n : Int) (A : Option Addr) (cap : Nat) (es : List Edge) (w : World) (h : Edges w A es) (hlen : es.length ≤ 100000) :
    Calls Try.prog 14 #[.int .i64 n, .slice A es.length cap] w fun e w' => (∃ A' cap', e = .returned (.tuple #[.slice A' (orderL n es).length cap', .int .i64 (orderN n es)]) ∧ (orderL n es).length ≤ cap' ∧ cap' ≤ 9223372036854775807 ∧ Ints w' A' (zs (orderL n es))) ∧ Ext w w' := by
  obtain ⟨i0, hi, hz0, hz1, hz2⟩ := info_parts int_info
  have Hr := hide h
  have Hmem := hide (fun g (hg : g ∈ grpsL n es) => grps_mem hg)
  have hgl := grps_len n es
  have Hgr := hide (g_groupsA n A cap es w h hlen)
  cases hok : graphOk n es
  · have e1 : orderL n es = [] := by unfold orderL; rw [hok]; rfl
    have e2 : orderN n es = 1 := by unfold orderN; rw [hok]; rfl
    have e3 : okN n es = 1 := by unfold okN; rw [hok]; rfl
    rw [e1, e2]
    rw [e3] at Hgr
    clear e1 e2 e3 hok h
    generalize grpsL n es = gs at *
    go_enter Try.func14, Try.ntmps14
    go_wp2_with fail
    refine Hgr.out.mono ?_
    rintro e w1 ⟨⟨A1, c1, rfl, -, -, -⟩, hx1⟩
    go_wp2
    go_ret2
    exact ⟨⟨none, 0, rfl, Nat.le_refl _, by omega, RowOf.nil _ _ _⟩, hx1⟩
  · have e3 : okN n es = 0 := by unfold okN; rw [hok]; rfl
    have HL : Hid (orderL n es = if (grpsL n es).any (roundL es) then [] else (grpsL n es).flatten) := hide (by unfold orderL; rw [hok]; cases (grpsL n es).any (roundL es) <;> rfl)
    have HN : Hid (orderN n es = if (grpsL n es).any (roundL es) then 9 else 0) := hide (by unfold orderN; rw [hok]; rfl)
    rw [e3] at Hgr
    clear e3 hok h
    generalize orderL n es = OL at *
    generalize orderN n es = ON at *
    generalize grpsL n es = gs at *
    have HR : Hid ((gs.drop 0).any (roundL es) = gs.any (roundL es)) := hide rfl
    generalize hAny : gs.any (roundL es) = R at *
    clear hAny
    go_enter Try.func14, Try.ntmps14
    go_wp2_with fail
    refine Hgr.out.mono ?_
    rintro e w1 ⟨⟨A1, c1, rfl, h1, h2, hG⟩, hx1⟩
    have HG := hide hG
    have HX1 := hide hx1
    clear hG hx1
    go_wp2
    go_loopw [8, 22] (fun u i wr => ∃ k : Nat, k ≤ gs.length ∧ i = .int .i64 k ∧ (gs.take k).flatten.length ≤ k * 1000 ∧ Hid (Ext w1 wr) ∧ Hid (wr.ownsRow w1.heap.size 3 1 u (gs.take k).flatten.length ((zs (gs.take k).flatten).map (Value.int .i64))) ∧ Hid ((gs.drop k).any (roundL es) = R)) (fun _ i _ => gs.length - (intOf i).toNat)
    case atStart => exact ⟨0, Nat.zero_le _, rfl, by simp, hide (Ext.refl _), hide (World.ownsRow_nil _ _ _ _), HR⟩
    case round =>
      obtain ⟨k, hk, rfl, hfl, HX, HO, HK⟩ := hrel
      by_cases hlt : k < gs.length
      · have hlt' : (k : Int) < (gs.length : Int) := by omega
        obtain ⟨b, o, A2, c2, rfl, hb, q1, q2, q3, q4⟩ := (HG.out.ext HX.out).at_ hlt
        have HI := hide q4
        obtain ⟨m1, m2, _⟩ := Hmem.out _ (List.getElem_mem hlt)
        have HK2 : Hid ((roundL es (gs[k]'hlt) || (gs.drop (k + 1)).any (roundL es)) = R) := hide (by rw [← any_drop]; exact HK.out)
        have Htk : Hid ((gs.take (k + 1)).flatten = (gs.take k).flatten ++ gs[k]'hlt) := hide (by rw [List.take_succ_eq_append_getElem hlt, List.flatten_append]; simp)
        clear q4
        generalize gs[k]'hlt = g at *
        generalize hF : (gs.take k).flatten = F at *
        have HF := hide hF
        clear hF
        have Hrd := hide (g_round A2 A c2 cap g es wr HI.out m1 m2 (RowOf.ext edgeC Hr.out (HX1.out.trans HX.out)) hlen)
        cases hrr : roundL es g
        · rw [hrr] at Hrd HK2
          clear hrr
          go_wp2_with fail
          refine Hrd.out.mono ?_
          rintro e w2 ⟨rfl, hx2⟩
          have HX2 := hide hx2
          clear hx2
          go_wp2_with (at_builtin; refine wpList_append_row _ rfl _ _ 31 rfl w1.heap.size 3 i0 _ 1 8 Try.underlying31 hi hz0 hz1 hz2 rfl (by decide) u8 F.length ((zs F).map (Value.int .i64)) rfl (own_extB HO.out HX2.out) A2 g.length c2 ((zs g).map (Value.int .i64)) rfl ?c2 ?c3 ?c4 ?c5 ?c6 ?_)
          case c2 => have := Ints.row (RowOf.ext intC HI.out HX2.out); rwa [zs_len] at this
          case c3 => exact one_ints _
          case c4 => unfold maxLen; omega
          case c5 => omega
          case c6 => exact (HX.out.trans HX2.out).size
          intro v4 w4 hown4 hg4 _
          have X4 := hide (Ext.app (HX.out.trans HX2.out) hg4 (own_extB HO.out HX2.out) (Nat.le_refl _))
          have O4 := hide hown4
          clear hown4 hg4
          go_wp2
          go_roundw
          case rel =>
            refine ⟨k + 1, hlt, by go_num, ?_, X4, hide ?_, hide (by have := HK2.out; rwa [Bool.false_or] at this)⟩
            · rw [Htk.out, List.length_append]; omega
            · rw [Htk.out]
              have e1 : zs (F ++ g) = zs F ++ zs g := by unfold zs; rw [List.map_append]
              rw [List.length_append, e1, List.map_append]
              exact O4.out
          case measure => simp [intOf]; omega
        · rw [hrr] at Hrd HK2
          have hR : R = true := HK2.out.symm
          clear hrr HK2 HK HR
          subst hR
          have e4 : OL = [] := HL.out
          have e5 : ON = 9 := HN.out
          clear HL HN
          subst e4 e5
          go_wp2_with fail
          refine Hrd.out.mono ?_
          rintro e w2 ⟨rfl, hx2⟩
          have HX2 := hide hx2
          clear hx2
          go_wp2
          go_ret2
          exact ⟨⟨none, 0, rfl, Nat.le_refl _, by omega, RowOf.nil _ _ _⟩, (HX1.out.trans HX.out).trans HX2.out⟩
      · have hge : (gs.length : Int) ≤ (k : Int) := by omega
        have hR : R = false := by
          have := HK.out
          rw [List.drop_eq_nil_of_le (by omega)] at this
          exact this.symm
        clear HK HR
        subst hR
        have e4 : OL = gs.flatten := HL.out
        have e5 : ON = 0 := HN.out
        have e6 : gs.take k = gs := List.take_of_length_le (by omega)
        rw [e6, ← e4] at HO
        clear HL HN e4 e6
        subst e5
        obtain ⟨A5, c5, rfl, p1, p2, p3, _⟩ := Ints.own (l := zs OL) (by rw [zs_len]; exact HO.out)
        have P3 := hide p3
        rw [zs_len] at p1
        clear p3
        go_wp2
        go_ret2
        rw [zs_len]
        exact ⟨⟨A5, c5, rfl, p1, p2, P3.out⟩, HX1.out.trans HX.out⟩

end Go.Proofs.Ytnbnhchgkbbiiaa
