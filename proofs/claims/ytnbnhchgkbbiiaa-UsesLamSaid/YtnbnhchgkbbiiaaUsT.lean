/- The law UsesLam, walked. -/
import Derived.Test.YtnbnhchgkbbiiaaUsQ
import Derived.Test.YtnbnhchgkbbiiaaUsS
namespace Go.Proofs.Ytnbnhchgkbbiiaa
open Go.RowKit Go.Sort

theorem filter_take {α : Type} (p : α → Bool) (l : List α) {k : Nat} (h : k < l.length) : (l.take (k + 1)).filter p = (l.take k).filter p ++ if p (l[k]'h) then [l[k]'h] else [] := by
  rw [List.take_succ_eq_append_getElem h, List.filter_append]
  congr 1
  cases hp : p (l[k]'h) <;> simp [hp]

set_option maxRecDepth 10000 in
set_option maxHeartbeats 4000000 in
theorem law_lam (t : Tree) (s : Str) (w : World) (h : NodeIn w t) (hs : s.length ≤ 9223372036854775807) :
    Calls Try.prog 8 #[treeV t, encStr s] w fun e w' => e = .returned (.bool true) ∧ Ext w w' := by
  have X0 : Hid (Ext w (w.alloc (.cells #[.int .i64 t.kind, .int .i64 t.pos, .int .i64 t.n, encStr t.text, .slice t.A t.kids.length t.cap] 54))) := hide ((Ext.refl _).alloc _)
  have HB0 := hide (NBox.new w t)
  have HF := hide (fun w' (e : Ext w w') => hide (l_few06 t w' (h.ext e)))
  have Hh := hide h
  cases hf : fewB t
  · rw [hf] at HF
    clear hf h
    unfold treeV at *
    go_enter Try.func8, Try.ntmps8
    go_wp2_with fail
    refine (HF.out _ X0.out).out.mono ?_
    rintro e w1 ⟨rfl, hx1⟩
    go_wp2_with fail
    refine (l_awake14 _).mono ?_
    rintro e w2 ⟨rfl, hx2⟩
    go_wp2
    go_ret
    exact ⟨rfl, (X0.out.trans hx1).trans hx2⟩
  · rw [hf] at HF
    have hsz : t.size ≤ 3000 := by unfold fewB at hf; simpa using hf
    have HX := hide (fun w' (e : Ext w w') => hide (n_exp t w' (h.ext e) (by omega)))
    cases he : isExpB t
    · rw [he] at HX
      clear hf h he
      unfold treeV at *
      go_enter Try.func8, Try.ntmps8
      go_wp2_with fail
      refine (HF.out _ X0.out).out.mono ?_
      rintro e w1 ⟨rfl, hx1⟩
      have X1 := hide (X0.out.trans hx1)
      have HB1 := hide (HB0.out.ext hx1)
      have c0 := HB1.out.c0
      have c1 := HB1.out.c1
      have c2 := HB1.out.c2
      have c3 := HB1.out.c3
      have c4 := HB1.out.c4
      clear hx1
      go_wp2_with fail
      refine (HX.out _ X1.out).out.mono ?_
      rintro e w2 ⟨rfl, hx2⟩
      have X2 := hide (X1.out.trans hx2)
      clear hx2
      go_wp2_with fail
      refine (l_awake14 _).mono ?_
      rintro e w3 ⟨rfl, hx3⟩
      go_wp2
      go_ret
      exact ⟨rfl, X2.out.trans hx3⟩
    · rw [he] at HX
      have He := hide he
      have HFr := hide (fun w' (e : Ext w w') => hide (u_free t w' (h.ext e) (by omega) (usesE_txt h)))
      have hfl := freeE_len t
      have Hs := hide hs
      obtain ⟨i0, hi, hz0, hz1, hz2⟩ := info_parts str_infoU
      clear hf h he
      unfold treeV at HF HX HFr
      show Calls Try.prog 8 #[.agg #[.int .i64 t.kind, .int .i64 t.pos, .int .i64 t.n, encStr t.text, .slice t.A t.kids.length t.cap], encStr s] w _
      go_enter Try.func8, Try.ntmps8
      go_wp2_with fail
      refine (HF.out _ X0.out).out.mono ?_
      rintro e w1 ⟨rfl, hx1⟩
      have X1 := hide (X0.out.trans hx1)
      have HB1 := hide (HB0.out.ext hx1)
      have c0 := HB1.out.c0
      have c1 := HB1.out.c1
      have c2 := HB1.out.c2
      have c3 := HB1.out.c3
      have c4 := HB1.out.c4
      clear hx1
      go_wp2_with fail
      refine (HX.out _ X1.out).out.mono ?_
      rintro e w2 ⟨rfl, hx2⟩
      have X2 := hide (X1.out.trans hx2)
      have HB2 := hide (HB1.out.ext hx2)
      have d0 := HB2.out.c0
      have d1 := HB2.out.c1
      have d2 := HB2.out.c2
      have d3 := HB2.out.c3
      have d4 := HB2.out.c4
      have XA : Hid (Ext w2 (w2.alloc (.cells #[.int .i64 t.kind, .int .i64 t.pos, .int .i64 t.n, encStr t.text, .slice t.A t.kids.length t.cap] 54))) := hide ((Ext.refl _).alloc _)
      have HM : Hid (∀ w', Ext (w2.alloc (.cells #[.int .i64 t.kind, .int .i64 t.pos, .int .i64 t.n, encStr t.text, .slice t.A t.kids.length t.cap] 54)) w' → NodeIn w' (lamT s w2.heap.size t)) := hide (fun w' e => lamT_in Hs.out (Hh.out.ext ((X2.out.trans XA.out).trans e)) ((e.heap (by simp)).trans (NBox.new w2 t)))
      have hms := lamT_size s w2.heap.size t
      have HME := hide (fun w' e => hide (n_exp (lamT s w2.heap.size t) w' (HM.out w' e) (by omega)))
      have HMU := hide (fun w' e => hide (u_uses (lamT s w2.heap.size t) w' (HM.out w' e) (by omega)))
      have HMF := hide (fun w' e => hide (u_free (lamT s w2.heap.size t) w' (HM.out w' e) (by omega) (usesE_txt (HM.out w' e))))
      clear hx2 c0 c1 c2 c3 c4
      cases hm : isExpB (lamT s w2.heap.size t)
      · have hU : usesE (lamT s w2.heap.size t) = [] := by unfold usesE; rw [hm]; rfl
        rw [hm] at HME
        rw [hU] at HMU
        clear hU hm HMF
        go_wp2_with fail
        refine (HME.out _ ((Ext.refl _).alloc _)).out.mono ?_
        rintro e w4 ⟨rfl, hx4⟩
        have X4 : Hid (Ext (w2.alloc (.cells #[.int .i64 t.kind, .int .i64 t.pos, .int .i64 t.n, encStr t.text, .slice t.A t.kids.length t.cap] 54)) w4) := hide (((Ext.refl _).alloc _).trans hx4)
        have hb5 : w4.heap[w2.heap.size + 1]? = some (.cells #[.int .i64 25, .int .i64 0, .int .i64 0, encStr s, .slice (some ⟨w2.heap.size, 0, none⟩) 1 1] 54 (0, 0)) := (hx4.heap (by simp)).trans (at_newB _ _ _ (by simp))
        have g0 : w4.cell? ⟨w2.heap.size + 1, 0, none⟩ = some (.int .i64 25) := by simp [World.cell?, hb5]
        have g1 : w4.cell? ⟨w2.heap.size + 1, 1, none⟩ = some (.int .i64 0) := by simp [World.cell?, hb5]
        have g2 : w4.cell? ⟨w2.heap.size + 1, 2, none⟩ = some (.int .i64 0) := by simp [World.cell?, hb5]
        have g3 : w4.cell? ⟨w2.heap.size + 1, 3, none⟩ = some (encStr s) := by simp [World.cell?, hb5]
        have g4 : w4.cell? ⟨w2.heap.size + 1, 4, none⟩ = some (.slice (some ⟨w2.heap.size, 0, none⟩) 1 1) := by simp [World.cell?, hb5]
        clear hx4 hb5
        go_wp2_with fail
        refine (HMU.out _ X4.out).out.mono ?_
        rintro e w5 ⟨⟨A5, p5, rfl, -, -, -⟩, hx5⟩
        have X5 := hide (X4.out.trans hx5)
        clear hx5
        go_wp2_with fail
        refine (l_awake14 _).mono ?_
        rintro e w6 ⟨rfl, hx6⟩
        go_wp2
        go_ret
        exact ⟨rfl, ((X2.out.trans XA.out).trans X5.out).trans hx6⟩
      · have hFm := lam_free He.out hm
        have HFm := hide hFm
        have hmf := freeE_len (lamT s w2.heap.size t)
        rw [hm] at HME
        clear hFm hm HMU
        go_wp2_with fail
        refine (HME.out _ ((Ext.refl _).alloc _)).out.mono ?_
        rintro e w4 ⟨rfl, hx4⟩
        have X4 : Hid (Ext (w2.alloc (.cells #[.int .i64 t.kind, .int .i64 t.pos, .int .i64 t.n, encStr t.text, .slice t.A t.kids.length t.cap] 54)) w4) := hide (((Ext.refl _).alloc _).trans hx4)
        have hb5 : w4.heap[w2.heap.size + 1]? = some (.cells #[.int .i64 25, .int .i64 0, .int .i64 0, encStr s, .slice (some ⟨w2.heap.size, 0, none⟩) 1 1] 54 (0, 0)) := (hx4.heap (by simp)).trans (at_newB _ _ _ (by simp))
        have HC : Hid (∀ w', Ext w4 w' → w'.cell? ⟨w2.heap.size + 1, 0, none⟩ = some (.int .i64 25) ∧ w'.cell? ⟨w2.heap.size + 1, 1, none⟩ = some (.int .i64 0) ∧ w'.cell? ⟨w2.heap.size + 1, 2, none⟩ = some (.int .i64 0) ∧ w'.cell? ⟨w2.heap.size + 1, 3, none⟩ = some (encStr s) ∧ w'.cell? ⟨w2.heap.size + 1, 4, none⟩ = some (.slice (some ⟨w2.heap.size, 0, none⟩) 1 1)) := hide (fun w' e => by
          have h := (e.heap (lt_of_obj hb5)).trans hb5
          refine ⟨?_, ?_, ?_, ?_, ?_⟩ <;> simp [World.cell?, h])
        have X24 : Hid (Ext w w4) := hide ((X2.out.trans XA.out).trans X4.out)
        have HB4 := hide (HB2.out.ext (XA.out.trans X4.out))
        have g0 := HB4.out.c0
        have g1 := HB4.out.c1
        have g2 := HB4.out.c2
        have g3 := HB4.out.c3
        have g4 := HB4.out.c4
        clear hx4 hb5 d0 d1 d2 d3 d4
        go_wp2_with fail
        refine (HFr.out _ X24.out).out.mono ?_
        rintro e w6 ⟨⟨v6, rfl, hO6⟩, hx6⟩
        obtain ⟨A6, p6, rfl, r1, r2, hS6, -⟩ := Strs.of_own hO6
        have X6 := hide hx6
        have S6 := hide hS6
        clear hO6 hx6 hS6 g0 g1 g2 g3 g4
        generalize freeE t = L at *
        go_wp2
        go_loopw [7, 8] (fun v iv wr => ∃ k : Nat, k ≤ L.length ∧ iv = .int .i64 k ∧ Hid (Ext w6 wr) ∧ Hid (wr.ownsRow w6.heap.size 9 1 v ((L.take k).filter (fun x => !(x == s))).length (((L.take k).filter (fun x => !(x == s))).map encStr))) (fun _ iv _ => L.length - (intOf iv).toNat)
        case atStart => exact ⟨0, Nat.zero_le _, rfl, hide (Ext.refl _), hide (World.ownsRow_nil _ _ _ _)⟩
        case round =>
          obtain ⟨k, hk, rfl, HX7, HO⟩ := hrel
          by_cases hlt : k < L.length
          · have hlt' : (k : Int) < (L.length : Int) := by omega
            have hk0 : (0 : Int) ≤ (k : Int) := by omega
            obtain ⟨b, o, rfl, hb, q0⟩ := (S6.out.ext HX7.out).at_ hlt
            have Hst := hide (filter_take (fun x => !(x == s)) L hlt)
            have hgd : L.getD k [] = L[k]'hlt := by simp [hlt]
            rw [hgd] at q0
            have hol : ((L.take k).filter (fun x => !(x == s))).length ≤ k := Nat.le_trans (List.length_filter_le _ _) (by simp; omega)
            clear hgd
            generalize (L.take k).filter (fun x => !(x == s)) = L1 at *
            generalize L[k]'hlt = y at *
            cases hy : (y == s)
            · rw [hy] at Hst
              go_wp2_with (at_builtin; refine wpList_append_row _ rfl _ _ 51 rfl w6.heap.size 9 i0 _ 1 16 Try.underlying51 hi hz0 hz1 hz2 rfl (by decide) u7 L1.length (L1.map encStr) rfl (own_extB HO.out ((Ext.refl _).alloc _)) _ 1 1 [encStr y] rfl ?c2 ?c3 ?c4 ?c5 ?c6 ?_)
              case c2 => exact Strs.boxedU _ (at_newB _ _ _ (by simp))
              case c3 => first | rfl | (intro z hz; simp at hz; subst hz; rfl)
              case c4 => unfold maxLen; omega
              case c5 => omega
              case c6 => have := HX7.out.size; simp; omega
              intro v9 w9 hown9 hg9 _
              have X9 := hide (Ext.appU (HX7.out.alloc _) hg9 (own_extB HO.out ((Ext.refl _).alloc _)) (Nat.le_refl _))
              have O9 := hide hown9
              clear hown9 hg9
              go_wp2
              go_roundw
              case rel => exact ⟨k + 1, hlt, by go_num, X9, hide (by rw [Hst.out]; simpa using O9.out)⟩
              case measure => simp [intOf]; omega
            · rw [hy] at Hst
              go_wp2
              go_roundw
              case rel => exact ⟨k + 1, hlt, by go_num, HX7, hide (by rw [Hst.out]; simpa using HO.out)⟩
              case measure => simp [intOf]; omega
          · have hge : ¬ (k : Int) < (L.length : Int) := by omega
            have hkl : L.take k = L := List.take_of_length_le (by omega)
            rw [hkl, ← HFm.out] at HO
            obtain ⟨A8, p8, rfl, -, -, hS8, -⟩ := Strs.of_own HO.out
            have S8 := hide hS8
            have X8 : Hid (Ext (w2.alloc (.cells #[.int .i64 t.kind, .int .i64 t.pos, .int .i64 t.n, encStr t.text, .slice t.A t.kids.length t.cap] 54)) wr) := hide ((X4.out.trans X6.out).trans HX7.out)
            obtain ⟨g0, g1, g2, g3, g4⟩ := HC.out _ (X6.out.trans HX7.out)
            clear hkl hS8
            go_wp2_with fail
            refine (HMF.out _ X8.out).out.mono ?_
            rintro e w9 ⟨⟨v9, rfl, hO9⟩, hx9⟩
            obtain ⟨A9, p9, rfl, -, -, hS9, -⟩ := Strs.of_own hO9
            have S9 := hide hS9
            have S89 := hide (S8.out.ext hx9)
            have X9 := hide (X8.out.trans hx9)
            clear hO9 hS9 hx9
            go_wp2_with fail
            refine (ref_texts A9 A8 p9 p8 _ _ _ S9.out S89.out (by omega)).mono ?_
            rintro e wa ⟨rfl, hxa⟩
            have Xa := hide (X9.out.trans hxa)
            have hdd : decide (freeE (lamT s w2.heap.size t) = freeE (lamT s w2.heap.size t)) = true := by simp
            rw [hdd]
            clear hxa hdd
            go_wp2_with fail
            refine (l_awake14 _).mono ?_
            rintro e wb ⟨rfl, hxb⟩
            go_wp2
            go_ret
            exact ⟨rfl, ((X2.out.trans XA.out).trans Xa.out).trans hxb⟩

end Go.Proofs.Ytnbnhchgkbbiiaa
