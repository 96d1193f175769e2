/- The law UsesApp, walked. -/
import Derived.Test.YtnbnhchgkbbiiaaUsQ
import Derived.Test.YtnbnhchgkbbiiaaUsU
import Derived.Deep.RegionHeld3
import Derived.Test.YtnbnhchgkbbiiaaBut
namespace Go.Proofs.Ytnbnhchgkbbiiaa
open Go.RowKit Go.Sort

/-- Five cells of a node in a box. -/
def BoxC (w : World) (b : Nat) (t : Tree) : Prop := w.cell? ⟨b, 0, none⟩ = some (.int .i64 t.kind) ∧ w.cell? ⟨b, 1, none⟩ = some (.int .i64 t.pos) ∧ w.cell? ⟨b, 2, none⟩ = some (.int .i64 t.n) ∧ w.cell? ⟨b, 3, none⟩ = some (encStr t.text) ∧ w.cell? ⟨b, 4, none⟩ = some (.slice t.A t.kids.length t.cap)
theorem NBox.cells {w : World} {b : Nat} {t : Tree} (h : NBox w b t) : BoxC w b t := ⟨h.c0, h.c1, h.c2, h.c3, h.c4⟩

theorem one_use (l : List Use) : ∀ u ∈ l.flatMap useC.f, u.oneCell' = true := by
  intro u hu
  obtain ⟨x, _, hx⟩ := List.mem_flatMap.1 hu
  simp only [useC, List.mem_cons, List.not_mem_nil, or_false] at hx
  rcases hx with rfl | rfl <;> rfl

set_option maxRecDepth 10000 in
set_option maxHeartbeats 8000000 in
theorem law_app (f x : Tree) (w : World) (hf : NodeIn w f) (hx : NodeIn w x) :
    Calls Try.prog 9 #[treeV f, treeV x] w fun e w' => e = .returned (.bool true) ∧ Ext w w' := by
  obtain ⟨W, hW⟩ : ∃ W, W = ((((w.alloc (.cells #[.int .i64 f.kind, .int .i64 f.pos, .int .i64 f.n, encStr f.text, .slice f.A f.kids.length f.cap] 54)).alloc (.cells #[.int .i64 x.kind, .int .i64 x.pos, .int .i64 x.n, encStr x.text, .slice x.A x.kids.length x.cap] 54)).alloc (.cells #[.int .i64 f.kind, .int .i64 f.pos, .int .i64 f.n, encStr f.text, .slice f.A f.kids.length f.cap, .int .i64 x.kind, .int .i64 x.pos, .int .i64 x.n, encStr x.text, .slice x.A x.kids.length x.cap] 54)).alloc (.cells #[.int .i64 24, .int .i64 0, .int .i64 0, .string { data := #[] }, .slice (some ⟨w.heap.size + 2, 0, none⟩) 2 2] 54)) := ⟨_, rfl⟩
  have X0 : Hid (Ext w W) := hide (by rw [hW]; exact ((((Ext.refl _).alloc _).alloc _).alloc _).alloc _)
  have b0 : NBox W w.heap.size f := by
    rw [hW]
    exact ((((Ext.refl _).alloc _).alloc _).alloc _).heap (by simp) |>.trans (NBox.new w f)
  have b1 : NBox W (w.heap.size + 1) x := by
    rw [hW]
    refine ((((Ext.refl _).alloc _).alloc _).heap (by simp)).trans ?_
    have := NBox.new (w.alloc (.cells #[.int .i64 f.kind, .int .i64 f.pos, .int .i64 f.n, encStr f.text, .slice f.A f.kids.length f.cap] 54)) x
    rwa [World.size_alloc] at this
  have b2 : W.heap[w.heap.size + 2]? = some (.cells #[.int .i64 f.kind, .int .i64 f.pos, .int .i64 f.n, encStr f.text, .slice f.A f.kids.length f.cap, .int .i64 x.kind, .int .i64 x.pos, .int .i64 x.n, encStr x.text, .slice x.A x.kids.length x.cap] 54 (0, 0)) := by
    rw [hW]
    exact (((Ext.refl _).alloc _).heap (by simp)).trans (at_newB _ _ _ (by simp))
  have b3 : NBox W (w.heap.size + 3) (appT (w.heap.size + 2) f x) := by
    rw [hW]
    exact at_newB _ _ _ (by simp)
  have hsW : W.heap.size = w.heap.size + 4 := by rw [hW]; simp
  have HN : Hid (NodeIn W (appT (w.heap.size + 2) f x)) := hide (appT_in (hf.ext X0.out) (hx.ext X0.out) b2)
  have HFf := hide (hf.ext X0.out)
  have HFx := hide (hx.ext X0.out)
  have HSf : Hid (∀ w', Ext W w' → BoxC w' w.heap.size f) := hide (fun w' e => (b0.ext e).cells)
  have HSx : Hid (∀ w', Ext W w' → BoxC w' (w.heap.size + 1) x) := hide (fun w' e => (b1.ext e).cells)
  have HSn : Hid (∀ w', Ext W w' → w'.cell? ⟨w.heap.size + 3, 0, none⟩ = some (.int .i64 24) ∧ w'.cell? ⟨w.heap.size + 3, 1, none⟩ = some (.int .i64 0) ∧ w'.cell? ⟨w.heap.size + 3, 2, none⟩ = some (.int .i64 0) ∧ w'.cell? ⟨w.heap.size + 3, 3, none⟩ = some (.string { data := #[] }) ∧ w'.cell? ⟨w.heap.size + 3, 4, none⟩ = some (.slice (some ⟨w.heap.size + 2, 0, none⟩) 2 2)) := hide (fun w' e => (b3.ext e).cells)
  have hsn := appT_size (w.heap.size + 2) f x
  have HF := hide (l_few06 (appT (w.heap.size + 2) f x) W HN.out)
  clear hf hx b0 b1 b2 b3
  cases hfw : fewB (appT (w.heap.size + 2) f x)
  · rw [hfw] at HF
    clear hfw HFf HFx HSf HSx HSn HN
    unfold treeV at *
    go_enter Try.func9, Try.ntmps9
    go_wp2_with fail
    rw [← hW]
    refine HF.out.mono ?_
    rintro e w1 ⟨rfl, hx1⟩
    go_wp2_with fail
    refine (l_awake14 _).mono ?_
    rintro e w2 ⟨rfl, hx2⟩
    go_wp2
    go_ret
    exact ⟨rfl, (X0.out.trans hx1).trans hx2⟩
  · rw [hfw] at HF
    have hsz : f.size + x.size + 1 ≤ 3000 := by unfold fewB at hfw; rw [hsn] at hfw; simpa using hfw
    have HX := hide (fun w' (e : Ext W w') => hide (n_exp (appT (w.heap.size + 2) f x) w' (HN.out.ext e) (by omega)))
    cases he : isExpB (appT (w.heap.size + 2) f x)
    · rw [he] at HX
      clear hfw he HFf HFx HSf HSx HN
      unfold treeV at *
      go_enter Try.func9, Try.ntmps9
      go_wp2_with fail
      rw [← hW]
      refine HF.out.mono ?_
      rintro e w1 ⟨rfl, hx1⟩
      have X1 := hide hx1
      obtain ⟨c0, c1, c2, c3, c4⟩ := HSn.out _ X1.out
      clear hx1
      go_wp2_with fail
      refine (HX.out _ X1.out).out.mono ?_
      rintro e w2 ⟨rfl, hx2⟩
      have X2 := hide (X1.out.trans hx2)
      clear hx2
      go_wp2_with fail
      refine (l_awake14 _).mono ?_
      rintro e w3 ⟨rfl, hx3⟩
      go_wp2
      go_ret
      exact ⟨rfl, (X0.out.trans X2.out).trans hx3⟩
    · rw [he] at HX
      obtain ⟨i0, hi, hz0, hz1, hz2⟩ := info_parts use_info
      have HUa := hide (app_uses he)
      have HFa := hide (fun y => @app_free (w.heap.size + 2) f x he y)
      have HUf := hide (fun w' (e : Ext W w') => hide (u_uses f w' (HFf.out.ext e) (by omega)))
      have HUx := hide (fun w' (e : Ext W w') => hide (u_uses x w' (HFx.out.ext e) (by omega)))
      have HUn := hide (fun w' (e : Ext W w') => hide (u_uses (appT (w.heap.size + 2) f x) w' (HN.out.ext e) (by omega)))
      have HRf := hide (fun w' (e : Ext W w') => hide (u_free f w' (HFf.out.ext e) (by omega) (usesE_txt (HFf.out))))
      have HRx := hide (fun w' (e : Ext W w') => hide (u_free x w' (HFx.out.ext e) (by omega) (usesE_txt (HFx.out))))
      have HRn := hide (fun w' (e : Ext W w') => hide (u_free (appT (w.heap.size + 2) f x) w' (HN.out.ext e) (by omega) (usesE_txt (HN.out))))
      have huf := usesE_len f
      have hux := usesE_len x
      have hff := freeE_len f
      have hfx := freeE_len x
      have hfn := freeE_len (appT (w.heap.size + 2) f x)
      obtain ⟨LL, hLL⟩ : ∃ LL, usesE f ++ usesE x = LL := ⟨_, rfl⟩
      have hll : LL.length ≤ 6000 := by rw [← hLL, List.length_append]; omega
      have HLL := hide hLL
      rw [HUa.out, hLL] at HUn
      clear hLL
      clear hfw he HFf HFx HN
      generalize usesE f = LF at *
      generalize usesE x = LX at *
      generalize freeE f = FF at *
      generalize freeE x = FX at *
      generalize freeE (appT (w.heap.size + 2) f x) = FN at *
      unfold treeV at *
      go_enter Try.func9, Try.ntmps9
      go_wp2_with fail
      rw [← hW]
      refine HF.out.mono ?_
      rintro e w1 ⟨rfl, hx1⟩
      have X1 := hide hx1
      obtain ⟨c0, c1, c2, c3, c4⟩ := HSn.out _ X1.out
      clear hx1
      go_wp2_with fail
      refine (HX.out _ X1.out).out.mono ?_
      rintro e w2 ⟨rfl, hx2⟩
      have X2 := hide (X1.out.trans hx2)
      clear hx2 c0 c1 c2 c3 c4
      go_wp2
      have HS : Hid (∀ w', Ext W w' → w'.cell? ⟨w.heap.size, 0, none⟩ = some (.int .i64 f.kind) ∧ w'.cell? ⟨w.heap.size, 1, none⟩ = some (.int .i64 f.pos) ∧ w'.cell? ⟨w.heap.size, 2, none⟩ = some (.int .i64 f.n) ∧ w'.cell? ⟨w.heap.size, 3, none⟩ = some (encStr f.text) ∧ w'.cell? ⟨w.heap.size, 4, none⟩ = some (.slice f.A f.kids.length f.cap) ∧ w'.cell? ⟨w.heap.size + 1, 0, none⟩ = some (.int .i64 x.kind) ∧ w'.cell? ⟨w.heap.size + 1, 1, none⟩ = some (.int .i64 x.pos) ∧ w'.cell? ⟨w.heap.size + 1, 2, none⟩ = some (.int .i64 x.n) ∧ w'.cell? ⟨w.heap.size + 1, 3, none⟩ = some (encStr x.text) ∧ w'.cell? ⟨w.heap.size + 1, 4, none⟩ = some (.slice x.A x.kids.length x.cap)) := hide (fun w' e => by
        obtain ⟨a0, a1, a2, a3, a4⟩ := HSf.out w' e
        obtain ⟨e0, e1, e2, e3, e4⟩ := HSx.out w' e
        exact ⟨a0, a1, a2, a3, a4, e0, e1, e2, e3, e4⟩)
      have hfl : LF.length ≤ 3000 := by omega
      have hxl : LX.length ≤ 3000 := by omega
      go_region_held3 (fun w' => w'.cell? ⟨w.heap.size, 0, none⟩ = some (.int .i64 f.kind) ∧ w'.cell? ⟨w.heap.size, 1, none⟩ = some (.int .i64 f.pos) ∧ w'.cell? ⟨w.heap.size, 2, none⟩ = some (.int .i64 f.n) ∧ w'.cell? ⟨w.heap.size, 3, none⟩ = some (encStr f.text) ∧ w'.cell? ⟨w.heap.size, 4, none⟩ = some (.slice f.A f.kids.length f.cap) ∧ w'.cell? ⟨w.heap.size + 1, 0, none⟩ = some (.int .i64 x.kind) ∧ w'.cell? ⟨w.heap.size + 1, 1, none⟩ = some (.int .i64 x.pos) ∧ w'.cell? ⟨w.heap.size + 1, 2, none⟩ = some (.int .i64 x.n) ∧ w'.cell? ⟨w.heap.size + 1, 3, none⟩ = some (encStr x.text) ∧ w'.cell? ⟨w.heap.size + 1, 4, none⟩ = some (.slice x.A x.kids.length x.cap)) (first | exact HS.out _ XZ.out | exact HS.out _ XX.out | exact HS.out _ XA1.out | exact HS.out _ XF.out | exact HS.out _ (X2.out.trans ((Ext.refl _).drew))) (first
        | (have O1q := O1.out
           refine step_append_rowB _ rfl (.tmp 24) (.tmp 26) 57 rfl W.heap.size 84 i0 _ 2 24 Try.underlying57 hi hz0 hz1 hz2 rfl (by decide) v7 LF.length (LF.flatMap useC.f) rfl (by first | exact O1x.out | exact O1.out) AX LX.length pX (LX.flatMap useC.f) rfl (by first | exact RXa.out | exact RX.out) (one_use _) (by unfold maxLen; omega) (by omega) (by first | exact XX.out.size | exact XA1.out.size) ?_
           intro v9 wz hown9 hg9 hat9
           have XZ : Hid (Ext W wz) := hide (by first | exact Ext.appU XX.out hg9 O1x.out (Nat.le_refl _) | exact Ext.appU XA1.out hg9 O1.out (Nat.le_refl _))
           rw [← List.flatMap_append, ← List.length_append, HLL.out] at hown9
           obtain ⟨A6, p6, rfl, -, -, hR6, -⟩ := Use.own hown9
           have R6 := hide hR6
           clear O1q hown9 hg9 hat9 hR6)
        | (refine step_append_rowB _ rfl (.const (.slice none 0 0)) (.tmp 23) 57 rfl W.heap.size 84 i0 _ 2 24 Try.underlying57 hi hz0 hz1 hz2 rfl (by decide) (.slice none 0 0) 0 [] rfl (World.ownsRow_nil _ _ _ _) AF LF.length pF (LF.flatMap useC.f) rfl (by first | exact RFX.out | exact RF.out) (one_use _) (by unfold maxLen; omega) (by omega) (by first | exact XX.out.size | exact XF.out.size) ?_
           intro v7 wa hown7 hg7 hat7
           have XA1 : Hid (Ext W wa) := hide (by first | exact Ext.appU XX.out hg7 (World.ownsRow_nil _ W.heap.size 84 2) (Nat.le_refl _) | exact Ext.appU XF.out hg7 (World.ownsRow_nil _ W.heap.size 84 2) (Nat.le_refl _))
           try (have RXa := hide (RowOf.ext useC RX.out (Ext.of_grown hg7)))
           rw [Nat.zero_add, List.nil_append] at hown7
           have O1 := hide hown7
           clear hown7 hg7 hat7)
        | (go_at_call 34
           have RF0 := RF.out
           first
            | (have O1q := O1.out
               refine Calls.mono (HUx.out _ XA1.out).out ?_
               rintro e wx ⟨⟨AX, pX, rfl, lX, mX, hRX⟩, hxX⟩
               have RX := hide hRX
               have O1x := hide (own_extB O1q hxX)
               have XX := hide (XA1.out.trans hxX)
               clear O1q RF0 hRX hxX)
            | (refine Calls.mono (HUx.out _ XF.out).out ?_
               rintro e wx ⟨⟨AX, pX, rfl, lX, mX, hRX⟩, hxX⟩
               have RX := hide hRX
               have RFX := hide (RowOf.ext useC RF0 hxX)
               have XX := hide (XF.out.trans hxX)
               clear RF0 hRX hxX))
        | (go_at_call 34
           refine Calls.mono (HUf.out _ (X2.out.trans ((Ext.refl _).drew))).out ?_
           rintro e wf ⟨⟨AF, pF, rfl, lF, mF, hRF⟩, hxF⟩
           have RF := hide hRF
           have XF := hide ((X2.out.trans ((Ext.refl _).drew)).trans hxF)
           clear hRF hxF))
      all_goals (
        obtain ⟨c0, c1, c2, c3, c4⟩ := HSn.out _ XZ.out
        go_wp2_with fail
        refine (HRn.out _ XZ.out).out.mono ?_
        rintro e wn ⟨⟨vn, rfl, hOn⟩, hxn⟩
        obtain ⟨AN, pN, rfl, -, -, hSn, -⟩ := Strs.of_own hOn
        have XN := hide (XZ.out.trans hxn)
        have SN := hide hSn
        have R6n := hide (RowOf.ext useC R6.out hxn)
        clear hOn hSn hxn c0 c1 c2 c3 c4
        go_wp2
        go_loopw [8] (fun iv wr => ∃ k : Nat, k ≤ FN.length ∧ iv = .int .i64 k ∧ Hid (Ext wn wr)) (fun iv _ => FN.length - (intOf iv).toNat)
        case atStart => exact ⟨0, Nat.zero_le _, rfl, hide (Ext.refl _)⟩
        case round =>
          obtain ⟨k, hk, rfl, HX7⟩ := hrel
          have XR := hide (XN.out.trans HX7.out)
          by_cases hlt : k < FN.length
          · have hlt' : (k : Int) < (FN.length : Int) := by omega
            have hk0 : (0 : Int) ≤ (k : Int) := by omega
            obtain ⟨b, o, rfl, hb, q0⟩ := (SN.out.ext HX7.out).at_ hlt
            have hmem : FN.getD k [] ∈ FN := by simp [hlt]
            have hAB := HFa.out _ hmem
            clear hmem
            generalize FN.getD k [] = y at *
            have HSr : Hid (∀ w', Ext wr w' → w'.cell? ⟨w.heap.size, 0, none⟩ = some (.int .i64 f.kind) ∧ w'.cell? ⟨w.heap.size, 1, none⟩ = some (.int .i64 f.pos) ∧ w'.cell? ⟨w.heap.size, 2, none⟩ = some (.int .i64 f.n) ∧ w'.cell? ⟨w.heap.size, 3, none⟩ = some (encStr f.text) ∧ w'.cell? ⟨w.heap.size, 4, none⟩ = some (.slice f.A f.kids.length f.cap) ∧ w'.cell? ⟨w.heap.size + 1, 0, none⟩ = some (.int .i64 x.kind) ∧ w'.cell? ⟨w.heap.size + 1, 1, none⟩ = some (.int .i64 x.pos) ∧ w'.cell? ⟨w.heap.size + 1, 2, none⟩ = some (.int .i64 x.n) ∧ w'.cell? ⟨w.heap.size + 1, 3, none⟩ = some (encStr x.text) ∧ w'.cell? ⟨w.heap.size + 1, 4, none⟩ = some (.slice x.A x.kids.length x.cap) ∧ w'.cell? ⟨b, o + k, none⟩ = some (encStr y)) := hide (fun w' e => by
              obtain ⟨a0, a1, a2, a3, a4⟩ := HSf.out w' (XR.out.trans e)
              obtain ⟨e0, e1, e2, e3, e4⟩ := HSx.out w' (XR.out.trans e)
              exact ⟨a0, a1, a2, a3, a4, e0, e1, e2, e3, e4, (World.cell?_of_block (a := ⟨b, o + k, none⟩) (e.heap hb)).trans q0⟩)
            cases hA : FF.any (· == y)
            · have hB : FX.any (· == y) = true := by
                rcases hAB with h | h
                · rw [hA] at h; cases h
                · exact h
              clear hAB
              go_wp2
              go_region_held3 (fun w' => w'.cell? ⟨w.heap.size, 0, none⟩ = some (.int .i64 f.kind) ∧ w'.cell? ⟨w.heap.size, 1, none⟩ = some (.int .i64 f.pos) ∧ w'.cell? ⟨w.heap.size, 2, none⟩ = some (.int .i64 f.n) ∧ w'.cell? ⟨w.heap.size, 3, none⟩ = some (encStr f.text) ∧ w'.cell? ⟨w.heap.size, 4, none⟩ = some (.slice f.A f.kids.length f.cap) ∧ w'.cell? ⟨w.heap.size + 1, 0, none⟩ = some (.int .i64 x.kind) ∧ w'.cell? ⟨w.heap.size + 1, 1, none⟩ = some (.int .i64 x.pos) ∧ w'.cell? ⟨w.heap.size + 1, 2, none⟩ = some (.int .i64 x.n) ∧ w'.cell? ⟨w.heap.size + 1, 3, none⟩ = some (encStr x.text) ∧ w'.cell? ⟨w.heap.size + 1, 4, none⟩ = some (.slice x.A x.kids.length x.cap) ∧ w'.cell? ⟨b, o + k, none⟩ = some (encStr y)) (first | exact HSr.out _ X9r.out | exact HSr.out _ X8r.out | exact HSr.out _ ((Ext.refl _).drew)) (first
                | (go_at_call 36
                   have SXq := SX9.out
                   have HH := ref_has AX9 pX9 FX y _ SXq (by omega)
                   rw [hB] at HH
                   refine Calls.mono HH ?_
                   rintro e w' ⟨rfl, rfl⟩)
                | (go_at_call 36
                   have HH := ref_has AF8 pF8 FF y _ SF8.out (by omega)
                   rw [hA] at HH
                   refine Calls.mono HH ?_
                   rintro e w' ⟨rfl, rfl⟩)
                | (go_at_call 35
                   have SFq := SF8.out
                   refine Calls.mono (HRx.out _ (XR.out.trans X8r.out)).out ?_
                   rintro e w9 ⟨⟨v9, rfl, hO9⟩, hx9⟩
                   obtain ⟨AX9, pX9, rfl, -, -, hS9, -⟩ := Strs.of_own hO9
                   have SX9 := hide hS9
                   have X9r := hide (X8r.out.trans hx9)
                   clear SFq hO9 hx9 hS9)
                | (go_at_call 35
                   refine Calls.mono (HRf.out _ (XR.out.trans ((Ext.refl _).drew))).out ?_
                   rintro e w8 ⟨⟨v8, rfl, hO8⟩, hx8⟩
                   obtain ⟨AF8, pF8, rfl, -, -, hS8, -⟩ := Strs.of_own hO8
                   have SF8 := hide hS8
                   have X8r := hide (((Ext.refl wr).drew).trans hx8)
                   clear hO8 hx8 hS8))
              go_wp2
              go_roundw
              case rel => exact ⟨k + 1, hlt, by go_num, hide (HX7.out.trans X9r.out)⟩
              case measure => simp [intOf]; omega
            · clear hAB
              go_wp2
              have HSa : Hid (∀ w', Ext wr w' → (fun w' => w'.cell? ⟨w.heap.size, 0, none⟩ = some (.int .i64 f.kind) ∧ w'.cell? ⟨w.heap.size, 1, none⟩ = some (.int .i64 f.pos) ∧ w'.cell? ⟨w.heap.size, 2, none⟩ = some (.int .i64 f.n) ∧ w'.cell? ⟨w.heap.size, 3, none⟩ = some (encStr f.text) ∧ w'.cell? ⟨w.heap.size, 4, none⟩ = some (.slice f.A f.kids.length f.cap) ∧ w'.cell? ⟨b, o + k, none⟩ = some (encStr y)) w') := hide (fun w' e => by
                obtain ⟨a0, a1, a2, a3, a4, e0, e1, e2, e3, e4, ey⟩ := HSr.out w' e
                exact ⟨a0, a1, a2, a3, a4, ey⟩)
              have hS0 := HSa.out _ ((Ext.refl wr).drew)
              refine but_startN 99 18 #[false, false, false, false, false, false, false, false, false, false, false, false, false, false, false, false, false, false] (fun w' => w'.cell? ⟨w.heap.size, 0, none⟩ = some (.int .i64 f.kind) ∧ w'.cell? ⟨w.heap.size, 1, none⟩ = some (.int .i64 f.pos) ∧ w'.cell? ⟨w.heap.size, 2, none⟩ = some (.int .i64 f.n) ∧ w'.cell? ⟨w.heap.size, 3, none⟩ = some (encStr f.text) ∧ w'.cell? ⟨w.heap.size, 4, none⟩ = some (.slice f.A f.kids.length f.cap) ∧ w'.cell? ⟨b, o + k, none⟩ = some (encStr y)) (by kernel_rfl) (by kernel_rfl) (by kernel_rfl) ?_
              (refine but_takeL (i := 0) (v := ?_) rfl (by kernel_rfl) (by kernel_rfl) (by kernel_rfl) (by kernel_rfl) (fun _ _ _ h => h) (Or.inl ⟨by kernel_rfl, ?_⟩) (by assumption) ?_; rotate_left 1; (focus (intro w hSw; (try dsimp only at hSw); (try obtain ⟨g1, g2, g3⟩ := hSw); (try obtain ⟨g1, g2⟩ := hSw); go_simp; try with_reducible rfl)); simp only [Act.put, List.setIfInBounds_toArray, List.set_cons_zero, List.set_cons_succ])
              (refine but_takeL (i := 2) (v := ?_) rfl (by kernel_rfl) (by kernel_rfl) (by kernel_rfl) (by kernel_rfl) (fun _ _ _ h => h) (Or.inl ⟨by kernel_rfl, ?_⟩) (by assumption) ?_; rotate_left 1; (focus (intro w hSw; (try dsimp only at hSw); (try obtain ⟨g1, g2, g3⟩ := hSw); (try obtain ⟨g1, g2⟩ := hSw); go_simp; try with_reducible rfl)); simp only [Act.put, List.setIfInBounds_toArray, List.set_cons_zero, List.set_cons_succ])
              (refine but_takeL (i := 3) (v := ?_) rfl (by kernel_rfl) (by kernel_rfl) (by kernel_rfl) (by kernel_rfl) (fun _ _ _ h => h) (Or.inl ⟨by kernel_rfl, ?_⟩) (by assumption) ?_; rotate_left 1; (focus (intro w hSw; (try dsimp only at hSw); (try obtain ⟨g1, g2, g3⟩ := hSw); (try obtain ⟨g1, g2⟩ := hSw); go_simp; try with_reducible rfl)); simp only [Act.put, List.setIfInBounds_toArray, List.set_cons_zero, List.set_cons_succ])
              (refine but_takeL (i := 4) (v := ?_) rfl (by kernel_rfl) (by kernel_rfl) (by kernel_rfl) (by kernel_rfl) (fun _ _ _ h => h) (Or.inl ⟨by kernel_rfl, ?_⟩) (by assumption) ?_; rotate_left 1; (focus (intro w hSw; (try dsimp only at hSw); (try obtain ⟨g1, g2, g3⟩ := hSw); (try obtain ⟨g1, g2⟩ := hSw); go_simp; try with_reducible rfl)); simp only [Act.put, List.setIfInBounds_toArray, List.set_cons_zero, List.set_cons_succ])
              (refine but_takeL (i := 5) (v := ?_) rfl (by kernel_rfl) (by kernel_rfl) (by kernel_rfl) (by kernel_rfl) (fun _ _ _ h => h) (Or.inl ⟨by kernel_rfl, ?_⟩) (by assumption) ?_; rotate_left 1; (focus (intro w hSw; (try dsimp only at hSw); (try obtain ⟨g1, g2, g3⟩ := hSw); (try obtain ⟨g1, g2⟩ := hSw); go_simp; try with_reducible rfl)); simp only [Act.put, List.setIfInBounds_toArray, List.set_cons_zero, List.set_cons_succ])
              refine but_step (i := 1) (by kernel_rfl) rfl (fun KK hK => ?_)
              go_simp
              refine Calls.mono (HRf.out _ (XR.out.trans ((Ext.refl _).drew))).out ?_
              rintro e w8 ⟨⟨v8, rfl, hO8⟩, hx8⟩
              obtain ⟨AF8, pF8, rfl, -, -, hS8, -⟩ := Strs.of_own hO8
              have SF8 := hide hS8
              have X8r := hide (((Ext.refl wr).drew).trans hx8)
              clear hO8 hx8 hS8 hS0
              have hS8 := HSa.out _ X8r.out
              refine hK.out _ _ (fun _ => hS8) ?_
              clear hK KK
              simp only [List.setIfInBounds_toArray, List.set_cons_zero, List.set_cons_succ]
              refine but_step (i := 6) (by kernel_rfl) rfl (fun KK hK => ?_)
              go_simp
              have HH := ref_has AF8 pF8 FF y _ SF8.out (by omega)
              rw [hA] at HH
              refine Calls.mono HH ?_
              rintro e w' ⟨rfl, rfl⟩
              refine hK.out _ _ (fun _ => hS8) ?_
              clear hK KK HH
              simp only [List.setIfInBounds_toArray, List.set_cons_zero, List.set_cons_succ]
              (refine but_takeL (i := 7) (v := ?_) rfl (by kernel_rfl) (by kernel_rfl) (by kernel_rfl) (by kernel_rfl) (fun _ _ _ h => h) (Or.inl ⟨by kernel_rfl, ?_⟩) (by assumption) ?_; rotate_left 1; (focus (intro w hSw; (try dsimp only at hSw); (try obtain ⟨g1, g2, g3⟩ := hSw); (try obtain ⟨g1, g2⟩ := hSw); go_simp; try with_reducible rfl)); simp only [Act.put, List.setIfInBounds_toArray, List.set_cons_zero, List.set_cons_succ])
              (refine but_takeL (i := 8) (v := ?_) rfl (by kernel_rfl) (by kernel_rfl) (by kernel_rfl) (by kernel_rfl) (fun _ _ _ h => h) (Or.inl ⟨by kernel_rfl, ?_⟩) (by assumption) ?_; rotate_left 1; (focus (intro w hSw; (try dsimp only at hSw); (try obtain ⟨g1, g2, g3⟩ := hSw); (try obtain ⟨g1, g2⟩ := hSw); go_simp; try with_reducible rfl)); simp only [Act.put, List.setIfInBounds_toArray, List.set_cons_zero, List.set_cons_succ])
              (refine but_takeL (i := 9) (v := undef) rfl (by kernel_rfl) (by kernel_rfl) (by kernel_rfl) (by kernel_rfl) (fun _ _ _ h => h) (Or.inr ⟨by kernel_rfl, rfl⟩) (by assumption) ?_; simp only [Act.put, List.setIfInBounds_toArray, List.set_cons_zero, List.set_cons_succ])
              (refine but_takeL (i := 10) (v := undef) rfl (by kernel_rfl) (by kernel_rfl) (by kernel_rfl) (by kernel_rfl) (fun _ _ _ h => h) (Or.inr ⟨by kernel_rfl, rfl⟩) (by assumption) ?_; simp only [Act.put, List.setIfInBounds_toArray, List.set_cons_zero, List.set_cons_succ])
              (refine but_takeL (i := 11) (v := undef) rfl (by kernel_rfl) (by kernel_rfl) (by kernel_rfl) (by kernel_rfl) (fun _ _ _ h => h) (Or.inr ⟨by kernel_rfl, rfl⟩) (by assumption) ?_; simp only [Act.put, List.setIfInBounds_toArray, List.set_cons_zero, List.set_cons_succ])
              (refine but_takeL (i := 12) (v := undef) rfl (by kernel_rfl) (by kernel_rfl) (by kernel_rfl) (by kernel_rfl) (fun _ _ _ h => h) (Or.inr ⟨by kernel_rfl, rfl⟩) (by assumption) ?_; simp only [Act.put, List.setIfInBounds_toArray, List.set_cons_zero, List.set_cons_succ])
              (refine but_takeL (i := 13) (v := undef) rfl (by kernel_rfl) (by kernel_rfl) (by kernel_rfl) (by kernel_rfl) (fun _ _ _ h => h) (Or.inr ⟨by kernel_rfl, rfl⟩) (by assumption) ?_; simp only [Act.put, List.setIfInBounds_toArray, List.set_cons_zero, List.set_cons_succ])
              (refine but_takeL (i := 14) (v := undef) rfl (by kernel_rfl) (by kernel_rfl) (by kernel_rfl) (by kernel_rfl) (fun _ _ _ h => h) (Or.inr ⟨by kernel_rfl, rfl⟩) (by assumption) ?_; simp only [Act.put, List.setIfInBounds_toArray, List.set_cons_zero, List.set_cons_succ])
              (refine but_takeL (i := 15) (v := undef) rfl (by kernel_rfl) (by kernel_rfl) (by kernel_rfl) (by kernel_rfl) (fun _ _ _ h => h) (Or.inr ⟨by kernel_rfl, rfl⟩) (by assumption) ?_; simp only [Act.put, List.setIfInBounds_toArray, List.set_cons_zero, List.set_cons_succ])
              (refine but_takeL (i := 16) (v := undef) rfl (by kernel_rfl) (by kernel_rfl) (by kernel_rfl) (by kernel_rfl) (fun _ _ _ h => h) (Or.inr ⟨by kernel_rfl, rfl⟩) (by assumption) ?_; simp only [Act.put, List.setIfInBounds_toArray, List.set_cons_zero, List.set_cons_succ])
              (refine but_takeL (i := 17) (v := ?_) rfl (by kernel_rfl) (by kernel_rfl) (by kernel_rfl) (by kernel_rfl) (fun _ _ _ h => h) (Or.inl ⟨by kernel_rfl, ?_⟩) (by assumption) ?_; rotate_left 1; (focus (intro w hSw; (try dsimp only at hSw); (try obtain ⟨g1, g2, g3⟩ := hSw); (try obtain ⟨g1, g2⟩ := hSw); go_simp; try with_reducible rfl)); simp only [Act.put, List.setIfInBounds_toArray, List.set_cons_zero, List.set_cons_succ])
              refine but_done (by kernel_rfl) ?_ _
              clear hS8
              go_wp2
              go_roundw
              case rel => exact ⟨k + 1, hlt, by go_num, hide (HX7.out.trans X8r.out)⟩
              case measure => simp [intOf]; omega
          · have hge : ¬ (k : Int) < (FN.length : Int) := by omega
            obtain ⟨c0, c1, c2, c3, c4⟩ := HSn.out _ XR.out
            have R6r := hide (RowOf.ext useC R6n.out HX7.out)
            go_wp2_with fail
            refine (HUn.out _ XR.out).out.mono ?_
            rintro e wq ⟨⟨AQ, pQ, rfl, -, -, hRQ⟩, hxq⟩
            have RQ := hide hRQ
            have R6q := hide (RowOf.ext useC R6r.out hxq)
            have XQ := hide (XR.out.trans hxq)
            clear hRQ hxq
            go_wp2_with fail
            refine (r_same14 AQ A6 pQ p6 LL _ RQ.out R6q.out (by omega)).mono ?_
            rintro e ws ⟨rfl, hxs⟩
            have XS := hide (XQ.out.trans hxs)
            clear hxs
            go_wp2_with fail
            refine (l_awake14 _).mono ?_
            rintro e wt ⟨rfl, hxt⟩
            go_wp2
            go_ret
            exact ⟨rfl, (X0.out.trans XS.out).trans hxt⟩
        )

end Go.Proofs.Ytnbnhchgkbbiiaa
