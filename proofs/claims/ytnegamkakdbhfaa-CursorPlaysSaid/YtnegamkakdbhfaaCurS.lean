/- 'CursorPlays': whatever is done, the program's cursor and the reference's answer alike. -/
import Derived.Test.YtnegamkakdbhfaaCurR
import Derived.WalkSpells
import Derived.WalkLawsBesides
import Derived.Deep.QuietTactic
import Derived.BigQuiet
import Derived.Deep.RegionWith
import Derived.Deep.RegionHeld3
import Derived.Deep.DeepCutAuto
import Derived.Deep.CutBlock
namespace Go.Proofs.Ytnegamkakdbhfaa
open Go.RowKit
attribute [local go_sem] setBlk_setCell refCells

set_option maxRecDepth 10000 in
set_option maxHeartbeats 16000000 in
theorem law_plays (A A' : Option Addr) (cap cap' : Nat) (l : List Tok) (ds : List Deed) (w : World) (h : Toks w A l) (hle : l.length ≤ cap) (hcap : cap ≤ 9223372036854775807) (hd : Deeds w A' ds) :
    Calls Try.prog 3 #[.slice A l.length cap, .slice A' ds.length cap'] w fun e w' => e = .returned (.bool true) ∧ Ext w w' := by
  by_cases hl : l.length ≤ 100 ∧ ds.length ≤ 300
  · go_enter Try.func3, Try.ntmps3
    go_wp2_with fail
    refine (few_yes _ _ _ _ _ _ _ hl.1 hl.2).mono ?_
    rintro e w' ⟨rfl, rfl⟩
    go_wp2_with fail
    refine (cur_new A cap l _ h hl.1 hle hcap).mono ?_
    rintro e w1 ⟨⟨c, A1, cap1, rfl, hc1, hA1, hcur⟩, hx1⟩
    have hrl : (initM l).rest.length ≤ 100 := by
      have : (initM l).rest.length ≤ l.length := (List.takeWhile_sublist _).length_le
      omega
    have Hrn := hide (ref_new A cap l w1 (h.ext hx1) hl.1 hle hcap)
    have Hrn0 : Hid (∀ cap2, RefC w1 A cap2 (initM l) → RefC w A cap2 (initM l)) := hide (fun cap2 hr => ⟨hr.le, hr.max, hr.nest, by
      rcases Nat.eq_zero_or_pos (initM l).rest.length with h0 | h0
      · have : (initM l).rest = [] := List.eq_nil_of_length_eq_zero h0
        rw [this]; exact Toks.nil _
      · have e1 : (initM l).rest = l.take (initM l).rest.length := by
          show l.takeWhile _ = l.take (l.takeWhile _).length
          exact List.prefix_iff_eq_take.1 (List.takeWhile_prefix _)
        have := h.take (k := (initM l).rest.length) ((List.takeWhile_sublist _).length_le)
        rw [← e1] at this
        exact this⟩)
    generalize hm : initM l = m0 at *
    have Hcur := hide hcur
    have Hx := hide hx1
    have Hds := hide hd
    have hdl : ds.length ≤ 300 := hl.2
    clear hcur hx1 hm h hd hl
    go_wp2_with fail
    refine Hrn.out.mono ?_
    rintro e w2 ⟨⟨cap2, rfl, hr2⟩, l2, d2, rfl⟩
    have HR := hide (Hrn0.out _ hr2)
    clear hr2 Hrn Hrn0
    go_wp2_with fail
    have hXe : w1.heap.size + l2.length = ((more w1 l2 d2)).heap.size := by simp
    have HL : Hid (PL w ((more w1 l2 d2).alloc (.cells (refCells A cap2 m0) 31)) c A1 cap1 m0.rest m0 (w1.heap.size + l2.length) A cap2 m0) :=
      hide ⟨(Hx.out.more _ _).alloc _, ⟨0, (Hcur.out.ext ⟨_, _, rfl⟩).ext ((Ext.refl _).alloc _)⟩, heap_alloc_at _ _ _ hXe, HR.out, by have := Hcur.out.lt; omega, fun h0 o e => by
        obtain ⟨b, o', e', hb, _⟩ := Hcur.out.row.2 h0
        rw [e'] at e
        injection e with e
        injection e with e
        omega, hrl, hrl, hc1⟩
    clear Hx Hcur HR hXe hrl
    generalize w1.heap.size + l2.length = X at *
    go_loopw [7] (fun iv wr => ∃ (i : Nat) (m : M) (A2 : Option Addr) (cap2 : Nat), i ≤ ds.length ∧ iv = .int .i64 i ∧ Hid (PL w wr c A1 cap1 m0.rest m X A2 cap2 m)) (fun iv _ => ds.length - (intOf iv).toNat)
    case atStart => exact ⟨0, _, _, _, Nat.zero_le _, rfl, HL⟩
    case round =>
      clear HL
      obtain ⟨i, m, A2, cap2, hi, rfl, H⟩ := hrel
      by_cases hlt : i < ds.length
      · obtain ⟨b, o, rfl, hb, q0, q1, q2⟩ := (Hds.out.ext H.out.ext).at_ hlt
        have hlt' : (i : Int) < (ds.length : Int) := by omega
        generalize deedAt ds i = d at *
        obtain ⟨dk, dn, dt⟩ := d
        simp only at q0 q1 q2
        have xlt := H.out.xlt; have xc := H.out.xcell; have xf := H.out.xfree; have xs := H.out.xset; have xc2 := H.out.xcell2; have xf2 := H.out.xfree2; have clt := H.out.lt; have cwlt : c < wr.heap.size := (by omega)
        go_upto_block 2 with fail
        go_cut [8] (fun s8 wx => s8 = .bool true ∧ ∃ (m2 : M) (A3 : Option Addr) (cap3 : Nat), Hid (PL w wx c A1 cap1 m0.rest m2 X A3 cap3 m2))
        case first =>
          have Hk := hide H.out.cur
          by_cases h0 : dk = 0
          · as_aux_lemma =>
              subst h0
              go_wp2_with fail
              refine (ref_next A2 cap2 m w _ H.out.xr (H.out.ext.trans (by repeat (first | exact Ext.refl _ | exact Ext.alloc (by assumption) _ | refine Ext.alloc ?_ _ | refine Ext.more ?_ _ _ | refine Ext.drew ?_ | refine Ext.drewN ?_ _)))).mono ?_
              rintro e w3 ⟨⟨A3, cap3, rfl, hr3⟩, l3, d3, rfl⟩
              have H2 := hide (H.out.setX hr3 (Nat.le_trans (rest_next m) H.out.hr))
              clear hr3
              go_wp2
              obtain ⟨k, hk⟩ := H2.out.cur
              have HK := hide hk
              clear hk
              go_region_with (go_at_call 20; refine (cur_next (HK.out.ext (by repeat (first | exact Ext.refl _ | exact Ext.alloc (by assumption) _ | refine Ext.alloc ?_ _ | refine Ext.more ?_ _ _ | refine Ext.drew ?_ | refine Ext.drewN ?_ _))) H2.out.hts).mono ?_; rintro e w4 ⟨rfl, k4, hd4, l4, d4, rfl⟩)
              all_goals
                go_wp2_with fail
                go_meet
                exact ⟨rfl, m.next, A3, cap3, hide ((H2.out.extend (by repeat (first | exact Ext.refl _ | exact Ext.alloc (by assumption) _ | refine Ext.alloc ?_ _ | refine Ext.more ?_ _ _ | refine Ext.drew ?_ | refine Ext.drewN ?_ _))).upd hd4 ⟨_, _, rfl⟩)⟩
          · replace h0 : (dk == 0) = false := by simpa using h0
            by_cases h1 : dk = 1
            · as_aux_lemma =>
                subst h1
                have H2 := H
                obtain ⟨k, hk⟩ := H2.out.cur
                have HK := hide hk
                clear hk
                go_wp2
                go_region_held3 (fun w' : World => w'.cell? ⟨X, 0, none⟩ = some (.slice A2 m.rest.length cap2) ∧ w'.cell? ⟨X, 1, none⟩ = some (.int .i64 0) ∧ w'.cell? ⟨X, 2, none⟩ = some (.int .i64 m.ep) ∧ w'.cell? ⟨X, 3, none⟩ = some (.int .i64 0) ∧ w'.cell? ⟨X, 4, none⟩ = some (.string ⟨#[]⟩) ∧ w'.cell? ⟨X, 5, none⟩ = some (.int .i64 m.nest) ∧ w'.cell? ⟨X, 6, none⟩ = some (.int .i64 m.err) ∧ w'.cell? ⟨X, 7, none⟩ = some (.int .i64 m.pos) ∧ w'.cell? ⟨wr.heap.size, 2, none⟩ = some (.string dt)) (refine ⟨?_, ?_, ?_, ?_, ?_, ?_, ?_, ?_, ?_⟩ <;> simp [go_sem, *]) (first | (go_at_call 21; refine (cur_is (HK.out.ext (by repeat (first | exact Ext.refl _ | exact Ext.alloc (by assumption) _ | refine Ext.alloc ?_ _ | refine Ext.more ?_ _ _ | refine Ext.drew ?_ | refine Ext.drewN ?_ _))) dt).mono ?_; rintro e w4 ⟨rfl, l4, d4, rfl⟩) | (go_at_call 22; refine (ref_is A2 cap2 m dt _ (H.out.xr.ext (H.out.ext.trans (by repeat (first | exact Ext.refl _ | exact Ext.alloc (by assumption) _ | refine Ext.alloc ?_ _ | refine Ext.more ?_ _ _ | refine Ext.drew ?_ | refine Ext.drewN ?_ _))))).mono ?_; rintro e w5 ⟨rfl, l5, d5, rfl⟩))
                all_goals
                  go_wp2_with fail
                  go_meet
                  exact ⟨rfl, m, A2, cap2, hide ((H.out.extend (by repeat (first | exact Ext.refl _ | exact Ext.alloc (by assumption) _ | refine Ext.alloc ?_ _ | refine Ext.more ?_ _ _ | refine Ext.drew ?_ | refine Ext.drewN ?_ _))))⟩
            · replace h1 : (dk == 1) = false := by simpa using h1
              by_cases h2 : dk = 2
              · as_aux_lemma =>
                  subst h2
                  go_wp2_with fail
                  refine (ref_take A2 cap2 m dt w _ H.out.xr (H.out.ext.trans (by repeat (first | exact Ext.refl _ | exact Ext.alloc (by assumption) _ | refine Ext.alloc ?_ _ | refine Ext.more ?_ _ _ | refine Ext.drew ?_ | refine Ext.drewN ?_ _)))).mono ?_
                  rintro e w3 ⟨⟨A3, cap3, rfl, hr3⟩, l3, d3, rfl⟩
                  have H2 := hide (H.out.setX hr3 (Nat.le_trans (rest_take m dt) H.out.hr))
                  clear hr3
                  obtain ⟨k, hk⟩ := H2.out.cur
                  have HK := hide hk
                  clear hk
                  go_wp2_with fail
                  refine (cur_take (HK.out.ext (by repeat (first | exact Ext.refl _ | exact Ext.alloc (by assumption) _ | refine Ext.alloc ?_ _ | refine Ext.more ?_ _ _ | refine Ext.drew ?_ | refine Ext.drewN ?_ _))) H2.out.hts dt).mono ?_
                  rintro e w4 ⟨rfl, k4, hd4, l4, d4, rfl⟩
                  all_goals
                    go_wp2_with fail
                    go_meet
                    exact ⟨rfl, m.take dt, A3, cap3, hide ((H2.out.extend (by repeat (first | exact Ext.refl _ | exact Ext.alloc (by assumption) _ | refine Ext.alloc ?_ _ | refine Ext.more ?_ _ _ | refine Ext.drew ?_ | refine Ext.drewN ?_ _))).upd hd4 ⟨_, _, rfl⟩)⟩
              · replace h2 : (dk == 2) = false := by simpa using h2
                by_cases h3 : dk = 3
                · as_aux_lemma =>
                    subst h3
                    go_wp2_with fail
                    refine (ref_want A2 cap2 m dt w _ H.out.xr (H.out.ext.trans (by repeat (first | exact Ext.refl _ | exact Ext.alloc (by assumption) _ | refine Ext.alloc ?_ _ | refine Ext.more ?_ _ _ | refine Ext.drew ?_ | refine Ext.drewN ?_ _)))).mono ?_
                    rintro e w3 ⟨⟨A3, cap3, rfl, hr3⟩, l3, d3, rfl⟩
                    have H2 := hide (H.out.setX hr3 (Nat.le_trans (rest_want m dt) H.out.hr))
                    clear hr3
                    obtain ⟨k, hk⟩ := H2.out.cur
                    have HK := hide hk
                    clear hk
                    go_wp2_with fail
                    refine (cur_want (HK.out.ext (by repeat (first | exact Ext.refl _ | exact Ext.alloc (by assumption) _ | refine Ext.alloc ?_ _ | refine Ext.more ?_ _ _ | refine Ext.drew ?_ | refine Ext.drewN ?_ _))) H2.out.hts dt).mono ?_
                    rintro e w4 ⟨rfl, k4, hd4, l4, d4, rfl⟩
                    all_goals
                      go_wp2_with fail
                      go_meet
                      exact ⟨rfl, m.want dt, A3, cap3, hide ((H2.out.extend (by repeat (first | exact Ext.refl _ | exact Ext.alloc (by assumption) _ | refine Ext.alloc ?_ _ | refine Ext.more ?_ _ _ | refine Ext.drew ?_ | refine Ext.drewN ?_ _))).upd hd4 ⟨_, _, rfl⟩)⟩
                · replace h3 : (dk == 3) = false := by simpa using h3
                  by_cases h4 : dk = 4
                  · as_aux_lemma =>
                      subst h4
                      go_wp2_with fail
                      refine (ref_kind A2 cap2 m dn w _ H.out.xr (H.out.ext.trans (by repeat (first | exact Ext.refl _ | exact Ext.alloc (by assumption) _ | refine Ext.alloc ?_ _ | refine Ext.more ?_ _ _ | refine Ext.drew ?_ | refine Ext.drewN ?_ _)))).mono ?_
                      rintro e w3 ⟨⟨A3, cap3, rfl, hr3⟩, l3, d3, rfl⟩
                      have H2 := hide (H.out.setX hr3 (Nat.le_trans (rest_kind m dn) H.out.hr))
                      clear hr3
                      obtain ⟨k, hk⟩ := H2.out.cur
                      have HK := hide hk
                      clear hk
                      go_wp2_with fail
                      refine (cur_kind (HK.out.ext (by repeat (first | exact Ext.refl _ | exact Ext.alloc (by assumption) _ | refine Ext.alloc ?_ _ | refine Ext.more ?_ _ _ | refine Ext.drew ?_ | refine Ext.drewN ?_ _))) H2.out.hts dn).mono ?_
                      rintro e w4 ⟨rfl, k4, hd4, l4, d4, rfl⟩
                      all_goals
                        go_wp2_with fail
                        go_meet
                        refine ⟨rfl, m.kind dn, A3, cap3, hide ?_⟩
                        refine PL.extend (w := more (setBlk _ c _) l4 d4) ?_ ((Ext.refl _).alloc _)
                        exact (H2.out.extend (by repeat (first | exact Ext.refl _ | exact Ext.alloc (by assumption) _ | refine Ext.alloc ?_ _ | refine Ext.more ?_ _ _ | refine Ext.drew ?_ | refine Ext.drewN ?_ _))).upd hd4 ⟨_, _, rfl⟩
                  · replace h4 : (dk == 4) = false := by simpa using h4
                    by_cases h5 : dk = 5
                    · as_aux_lemma =>
                        subst h5
                        have H2 := H
                        obtain ⟨k, hk⟩ := H2.out.cur
                        have HK := hide hk
                        clear hk
                        go_wp2
                        go_region_held3 (fun w' : World => w'.cell? ⟨X, 0, none⟩ = some (.slice A2 m.rest.length cap2) ∧ w'.cell? ⟨X, 1, none⟩ = some (.int .i64 0) ∧ w'.cell? ⟨X, 2, none⟩ = some (.int .i64 m.ep) ∧ w'.cell? ⟨X, 3, none⟩ = some (.int .i64 0) ∧ w'.cell? ⟨X, 4, none⟩ = some (.string ⟨#[]⟩) ∧ w'.cell? ⟨X, 5, none⟩ = some (.int .i64 m.nest) ∧ w'.cell? ⟨X, 6, none⟩ = some (.int .i64 m.err) ∧ w'.cell? ⟨X, 7, none⟩ = some (.int .i64 m.pos) ∧ w'.cell? ⟨wr.heap.size, 2, none⟩ = some (.string dt)) (refine ⟨?_, ?_, ?_, ?_, ?_, ?_, ?_, ?_, ?_⟩ <;> simp [go_sem, *]) (first | (go_at_call 29; refine (cur_ahead (HK.out.ext (by repeat (first | exact Ext.refl _ | exact Ext.alloc (by assumption) _ | refine Ext.alloc ?_ _ | refine Ext.more ?_ _ _ | refine Ext.drew ?_ | refine Ext.drewN ?_ _))) H2.out.hts dt).mono ?_; rintro e w4 ⟨rfl, l4, d4, rfl⟩) | (go_at_call 30; refine (ref_ahead A2 cap2 m dt _ (H.out.xr.ext (H.out.ext.trans (by repeat (first | exact Ext.refl _ | exact Ext.alloc (by assumption) _ | refine Ext.alloc ?_ _ | refine Ext.more ?_ _ _ | refine Ext.drew ?_ | refine Ext.drewN ?_ _)))) H.out.hr).mono ?_; rintro e w5 ⟨rfl, l5, d5, rfl⟩))
                        all_goals
                          go_wp2_with fail
                          go_meet
                          exact ⟨rfl, m, A2, cap2, hide ((H.out.extend (by repeat (first | exact Ext.refl _ | exact Ext.alloc (by assumption) _ | refine Ext.alloc ?_ _ | refine Ext.more ?_ _ _ | refine Ext.drew ?_ | refine Ext.drewN ?_ _))))⟩
                    · replace h5 : (dk == 5) = false := by simpa using h5
                      by_cases h6 : dk = 6
                      · as_aux_lemma =>
                          subst h6
                          go_wp2_with fail
                          refine (ref_enter A2 cap2 m _ (H.out.xr.ext (H.out.ext.trans (by repeat (first | exact Ext.refl _ | exact Ext.alloc (by assumption) _ | refine Ext.alloc ?_ _ | refine Ext.more ?_ _ _ | refine Ext.drew ?_ | refine Ext.drewN ?_ _))))).mono ?_
                          rintro e w3 ⟨rfl, l3, d3, rfl⟩
                          have H2 := hide (H.out.setX H.out.xr.enter_ (Nat.le_trans (rest_enter m) H.out.hr))
                          obtain ⟨k, hk⟩ := H2.out.cur
                          have HK := hide hk
                          clear hk
                          go_wp2_with fail
                          refine (cur_enter (HK.out.ext (by repeat (first | exact Ext.refl _ | exact Ext.alloc (by assumption) _ | refine Ext.alloc ?_ _ | refine Ext.more ?_ _ _ | refine Ext.drew ?_ | refine Ext.drewN ?_ _)))).mono ?_
                          rintro e w4 ⟨rfl, k4, hd4, l4, d4, rfl⟩
                          all_goals
                            go_wp2_with fail
                            go_meet
                            exact ⟨rfl, m.enter, A2, cap2, hide ((H2.out.extend (by repeat (first | exact Ext.refl _ | exact Ext.alloc (by assumption) _ | refine Ext.alloc ?_ _ | refine Ext.more ?_ _ _ | refine Ext.drew ?_ | refine Ext.drewN ?_ _))).upd hd4 ⟨_, _, rfl⟩)⟩
                      · replace h6 : (dk == 6) = false := by simpa using h6
                        by_cases h7 : dk = 7
                        · as_aux_lemma =>
                            subst h7
                            have H2 := hide (H.out.setX H.out.xr.leave_ (Nat.le_trans (rest_leave m) H.out.hr))
                            obtain ⟨k, hk⟩ := Hk.out
                            have HK := hide hk
                            clear hk
                            go_wp2_with fail
                            refine (cur_leave (HK.out.ext (by repeat (first | exact Ext.refl _ | exact Ext.alloc (by assumption) _ | refine Ext.alloc ?_ _ | refine Ext.more ?_ _ _ | refine Ext.drew ?_ | refine Ext.drewN ?_ _)))).mono ?_
                            rintro e w4 ⟨rfl, k4, hd4, l4, d4, rfl⟩
                            go_wp2_with fail
                            refine (ref_leave A2 cap2 m _ H.out.xr.nest).mono ?_
                            rintro e w3 ⟨rfl, l3, d3, rfl⟩
                            all_goals
                              go_wp2_with fail
                              go_meet
                              exact ⟨rfl, m.leave, A2, cap2, hide ((H2.out.extend (by repeat (first | exact Ext.refl _ | exact Ext.alloc (by assumption) _ | refine Ext.alloc ?_ _ | refine Ext.more ?_ _ _ | refine Ext.drew ?_ | refine Ext.drewN ?_ _))).upd hd4 ⟨_, _, rfl⟩)⟩
                        · replace h7 : (dk == 7) = false := by simpa using h7
                          by_cases h8 : dk = 8
                          · as_aux_lemma =>
                              subst h8
                              go_wp2_with fail
                              refine (ref_fail A2 cap2 m dn _ (H.out.xr.ext (H.out.ext.trans (by repeat (first | exact Ext.refl _ | exact Ext.alloc (by assumption) _ | refine Ext.alloc ?_ _ | refine Ext.more ?_ _ _ | refine Ext.drew ?_ | refine Ext.drewN ?_ _))))).mono ?_
                              rintro e w3 ⟨rfl, l3, d3, rfl⟩
                              have H2 := hide (H.out.setX (H.out.xr.fail_ dn) (Nat.le_trans (rest_fail m dn) H.out.hr))
                              obtain ⟨k, hk⟩ := H2.out.cur
                              have HK := hide hk
                              clear hk
                              go_wp2_with fail
                              refine (cur_fail (HK.out.ext (by repeat (first | exact Ext.refl _ | exact Ext.alloc (by assumption) _ | refine Ext.alloc ?_ _ | refine Ext.more ?_ _ _ | refine Ext.drew ?_ | refine Ext.drewN ?_ _))) dn).mono ?_
                              rintro e w4 ⟨rfl, k4, hd4, l4, d4, rfl⟩
                              all_goals
                                go_wp2_with fail
                                go_meet
                                exact ⟨rfl, (m.fail dn), A2, cap2, hide ((H2.out.extend (by repeat (first | exact Ext.refl _ | exact Ext.alloc (by assumption) _ | refine Ext.alloc ?_ _ | refine Ext.more ?_ _ _ | refine Ext.drew ?_ | refine Ext.drewN ?_ _))).upd hd4 ⟨_, _, rfl⟩)⟩
                          · replace h8 : (dk == 8) = false := by simpa using h8
                            go_wp2_with fail
                            go_meet
                            exact ⟨rfl, m, A2, cap2, hide (H.out.extend (by repeat (first | exact Ext.refl _ | exact Ext.alloc (by assumption) _ | refine Ext.alloc ?_ _ | refine Ext.more ?_ _ _ | refine Ext.drew ?_ | refine Ext.drewN ?_ _)))⟩
        case rest =>
          clear H xlt xc xf xs xc2 xf2 clt cwlt
          obtain ⟨rfl, m2, A3, cap3, H⟩ := hcut
          have xlt := H.out.xlt; have xc := H.out.xcell; have xf := H.out.xfree; have xs := H.out.xset; have xc2 := H.out.xcell2; have xf2 := H.out.xfree2; have clt := H.out.lt; have cwlt : c < wc.heap.size := (by omega)
          obtain ⟨k, hk⟩ := H.out.cur
          have HK := hide hk
          clear hk
          go_wp2_with fail
          refine (cur_done HK.out).mono ?_
          rintro e w5 ⟨rfl, l5, d5, rfl⟩
          go_wp2_with fail
          refine (ref_done A3 cap3 m2 _ (H.out.xr.ext (H.out.ext.trans (by repeat (first | exact Ext.refl _ | exact Ext.alloc (by assumption) _ | refine Ext.alloc ?_ _ | refine Ext.more ?_ _ _ | refine Ext.drew ?_ | refine Ext.drewN ?_ _))))).mono ?_
          rintro e w6 ⟨rfl, l6, d6, rfl⟩
          go_wp2
          go_region_held3 (fun w' : World => w'.cell? ⟨X, 0, none⟩ = some (.slice A3 m2.rest.length cap3) ∧ w'.cell? ⟨X, 1, none⟩ = some (.int .i64 0) ∧ w'.cell? ⟨X, 2, none⟩ = some (.int .i64 m2.ep) ∧ w'.cell? ⟨X, 3, none⟩ = some (.int .i64 0) ∧ w'.cell? ⟨X, 4, none⟩ = some (.string ⟨#[]⟩) ∧ w'.cell? ⟨X, 5, none⟩ = some (.int .i64 m2.nest) ∧ w'.cell? ⟨X, 6, none⟩ = some (.int .i64 m2.err) ∧ w'.cell? ⟨X, 7, none⟩ = some (.int .i64 m2.pos)) (refine ⟨?_, ?_, ?_, ?_, ?_, ?_, ?_, ?_⟩ <;> simp [go_sem, *]) (first | (go_at_call 39; refine (cur_peek (HK.out.ext (by repeat (first | exact Ext.refl _ | exact Ext.alloc (by assumption) _ | refine Ext.alloc ?_ _ | refine Ext.more ?_ _ _ | refine Ext.drew ?_ | refine Ext.drewN ?_ _)))).mono ?_; rintro e w7 ⟨rfl, l7, d7, rfl⟩) | (go_at_call 40; refine (ref_peek A3 cap3 m2 _ (H.out.xr.ext (H.out.ext.trans (by repeat (first | exact Ext.refl _ | exact Ext.alloc (by assumption) _ | refine Ext.alloc ?_ _ | refine Ext.more ?_ _ _ | refine Ext.drew ?_ | refine Ext.drewN ?_ _))))).mono ?_; rintro e w8 ⟨rfl, l8, d8, rfl⟩))
          all_goals
            go_wp2
            go_roundw
            case rel => exact ⟨i + 1, m2, A3, cap3, hlt, by go_num, hide (H.out.extend (by repeat (first | exact Ext.refl _ | exact Ext.alloc (by assumption) _ | refine Ext.alloc ?_ _ | refine Ext.more ?_ _ _ | refine Ext.drew ?_ | refine Ext.drewN ?_ _)))⟩
            case measure => simp [intOf]; omega
      · have hge : (ds.length : Int) ≤ (i : Int) := by omega
        have HX := hide H.out.ext
        clear H
        go_wp2_with fail
        refine (awake05 _).mono ?_
        rintro e w7 ⟨rfl, x7⟩
        have HX7 := hide (HX.out.trans x7)
        clear HX x7
        go_wp2
        go_ret
        exact ⟨rfl, HX7.out⟩
  · go_enter Try.func3, Try.ntmps3
    go_wp2_with fail
    refine (few_no _ _ _ _ _ _ _ hl).mono ?_
    rintro e w' ⟨rfl, rfl⟩
    go_wp2_with fail
    refine (awake05 _).mono ?_
    rintro e w' ⟨rfl, l1, d1, rfl⟩
    go_wp2
    go_ret
    exact ⟨rfl, (by repeat (first | exact Ext.refl _ | exact Ext.alloc (by assumption) _ | refine Ext.alloc ?_ _ | refine Ext.more ?_ _ _ | refine Ext.drew ?_ | refine Ext.drewN ?_ _))⟩

end Go.Proofs.Ytnegamkakdbhfaa
