/- Contracts of the reference: an instance's name; who has a method; the type of what is always there; predicates and schemes that are the same. (A program of ours has printed this.) -/
import Derived.Test.YtnomibjbjplieaaGreatJC37
import Derived.Deep.QuietTactic
import Derived.BigQuiet
import Derived.Deep.DeepCutAuto
/- Contracts of the reference: an instance's name; who has a method; the type of what is always there; predicates and schemes that are the same. (A program of ours has printed this.) -/
namespace Go.Proofs.YtnomibjbjplieaaGreat
open Go.RowKit

set_option maxRecDepth 10000 in
set_option maxHeartbeats 1000000 in
theorem r_name33 (c t : Str) (w : World) (hc : c.length ≤ 1000000000000000000) (ht : t.length ≤ 1000000000000000000) :
    Calls Tryz.prog 16 #[encStr c, encStr t] w fun e w' => e = .returned (encStr (nameS c t)) ∧ w' = w := by
  have hs1 : ¬ ((⟨[(64 : UInt8)].toArray⟩ : ByteArray).size + (⟨c.toArray⟩ : ByteArray).size > 9223372036854775807) := by rw [ba_size, ba_size]; simp; omega
  have e1 := ByteArray.mk_append_mk [(64 : UInt8)] c
  have hs2 : ¬ ((⟨(64 :: c).toArray⟩ : ByteArray).size + (⟨[(64 : UInt8)].toArray⟩ : ByteArray).size > 9223372036854775807) := by rw [ba_size, ba_size]; simp; omega
  have e2 := ByteArray.mk_append_mk (64 :: c) [(64 : UInt8)]
  have hs3 : ¬ ((⟨(64 :: (c ++ [64])).toArray⟩ : ByteArray).size + (⟨t.toArray⟩ : ByteArray).size > 9223372036854775807) := by rw [ba_size, ba_size]; simp; omega
  have e3 := ByteArray.mk_append_mk (64 :: (c ++ [64])) t
  go_enter Tryz.func16, Tryz.ntmps16
  go_wp2
  go_ret
  exact ⟨by simp [nameS], rfl⟩

theorem methIx_drop (s : Str) (d : KlD) : methIx s d = ((d.meths.drop 0).findIdx? fun c => c.name == s).map (· + 0) := by rw [List.drop_zero]; simp [methIx]

set_option maxRecDepth 10000 in
set_option maxHeartbeats 2000000 in
theorem r_meth28 (C : Option Addr) (cc : Nat) (cls : List KlD) (name : Str) (w : World) (h : KlsIn w C cls) (hle : cls.length ≤ cc) (hmx : cc ≤ 9223372036854775807) :
    Calls Tryz.prog 31 #[.slice C cls.length cc, encStr name] w fun e w' => e = .returned (.tuple #[.int .i64 (fstN (methF name 0 cls) : Int), .int .i64 (sndN (methF name 0 cls) : Int), .bool (methF name 0 cls).isSome]) ∧ Ext w w' := by
  have HC := hide h
  clear h
  obtain ⟨F, hF⟩ : ∃ F, F = methF name 0 cls := ⟨_, rfl⟩
  rw [← hF]
  have HF : Hid (F = methF name 0 (cls.drop 0)) := hide (by rw [hF, List.drop_zero])
  clear hF
  go_enter Tryz.func31, Tryz.ntmps31
  go_wp2
  go_loopw [7] (fun i wr => ∃ k : Nat, k ≤ cls.length ∧ i = .int .i64 k ∧ Hid (Ext w wr) ∧ Hid (F = methF name k (cls.drop k))) (fun i _ => cls.length - (intOf i).toNat)
  case atStart => exact ⟨0, Nat.zero_le _, rfl, hide (Ext.refl _), HF⟩
  case round =>
    obtain ⟨k, hk, rfl, HX, HR⟩ := hrel
    by_cases hlt : k < cls.length
    · have hlt' : (k : Int) < (cls.length : Int) := by omega
      have hk0 : (0 : Int) ≤ (k : Int) := by omega
      obtain ⟨b, o, rfl, hb, q0, q1, q2⟩ := (HC.out.ext HX.out).at_ hlt
      have HR2 := hide (HR.out.trans (methF_step name cls hlt))
      have HD := hide ((HC.out.ext HX.out).all _ (List.getElem_mem hlt))
      have HQ : Hid (∀ w', Ext wr w' → w'.cell? ⟨b, o + k * 3 + 2, none⟩ = some (.slice (cls[k]'hlt).A (cls[k]'hlt).meths.length (cls[k]'hlt).cap) ∧ b < w'.heap.size) := hide (fun w' e => ⟨e.cell q2, by have := e.size; omega⟩)
      generalize cls[k]'hlt = d at *
      clear HR q0 q1
      obtain ⟨G, hG⟩ : ∃ G, G = methIx name d := ⟨_, rfl⟩
      rw [← hG] at HR2
      have HG : Hid (G = ((d.meths.drop 0).findIdx? fun c => c.name == name).map (· + 0)) := hide (by rw [hG]; exact methIx_drop name d)
      clear hG
      have hdl := HD.out.le
      have hdm := HD.out.max
      have HCo := hide HD.out.row
      go_wp2
      rename World => wA
      go_loopw [8] (fun j wr => ∃ m : Nat, m ≤ d.meths.length ∧ j = .int .i64 m ∧ Hid (Ext wA wr) ∧ Hid (G = ((d.meths.drop m).findIdx? fun c => c.name == name).map (· + m))) (fun j _ => d.meths.length - (intOf j).toNat)
      case atStart => exact ⟨0, Nat.zero_le _, rfl, hide (Ext.refl _), HG⟩
      case round =>
        obtain ⟨m, hm, rfl, HY, HS⟩ := hrel
        have XY := hide (HX.out.trans HY.out)
        obtain ⟨q3, hbq⟩ := HQ.out _ HY.out
        clear q2
        by_cases hlm : m < d.meths.length
        · have hlm' : (m : Int) < (d.meths.length : Int) := by omega
          have hm0 : (0 : Int) ≤ (m : Int) := by omega
          obtain ⟨b2, o2, hA2, hb2, r0, r1, r2, r3, r4⟩ := (HCo.out.ext HY.out).at_ hlm
          have HS2 := hide (HS.out.trans (findIdx_step d.meths (fun c => c.name == name) hlm))
          generalize d.meths[m]'hlm = c at *
          rw [hA2] at q3
          clear hA2
          cases hc : (c.name == name)
          · rw [hc] at HS2
            go_wp2
            go_roundw
            case rel => exact ⟨m + 1, hlm, by go_num, HY, hide (by have := HS2.out; simpa using this)⟩
            case measure => simp [intOf]; omega
          · rw [hc] at HS2
            have hG : G = some m := by have := HS2.out; simpa using this
            clear HS2 HS HG
            subst hG
            have hF : F = some (k, m) := HR2.out
            clear HR2 HF
            subst hF
            go_wp2
            refine bodyPost_ret (v := .tuple #[.int .i64 (k : Int), .int .i64 (m : Int), .bool true]) ?_ rfl ⟨rfl, XY.out⟩
            simp [results, Tryz.f31, go_sem]
        · have hge : ¬ (m : Int) < (d.meths.length : Int) := by omega
          have hG : G = none := HS.out.trans (findIdx_end d.meths _ hlm)
          clear HS HG
          subst hG
          go_wp2
          go_roundw
          case rel => exact ⟨k + 1, hlt, by go_num, hide XY.out, HR2⟩
          case measure => simp [intOf]; omega
    · have hge : ¬ (k : Int) < (cls.length : Int) := by omega
      have hF : F = none := by rw [HR.out, List.drop_eq_nil_of_le (by omega)]; rfl
      clear HR HF
      subst hF
      go_wp2
      refine bodyPost_ret (v := .tuple #[.int .i64 0, .int .i64 0, .bool false]) ?_ rfl ⟨rfl, HX.out⟩
      simp [results, Tryz.f31, go_sem]

set_option maxRecDepth 10000 in
set_option maxHeartbeats 8000000 in
theorem r_prim33 (name : Str) (w : World) : Calls Tryz.prog 8 #[encStr name] w fun e w' => (∃ p : Po, e = .returned (.tuple #[poV p, .bool (primTo name).isSome]) ∧ PrimOk w' (primTo name) p) ∧ Ext w w' := by
  have HP : Hid (primTo name = _) := hide (by unfold primTo; exact rfl)
  generalize primTo name = F at *
  unfold poV
  go_enter Tryz.func8, Tryz.ntmps8
  obtain ⟨W, hW⟩ : ∃ W, W = (((w.alloc (.cells #[.slice none 0 0, .string ⟨#[]⟩, .int .i64 0, .slice none 0 0] 34)).alloc (.cells #[.string ⟨#[73, 110, 116]⟩, .int .i64 0, .slice none 0 0] 32)).alloc (.cells #[.string ⟨#[73, 110, 116]⟩, .int .i64 0, .slice none 0 0, .string ⟨#[73, 110, 116]⟩, .int .i64 0, .slice none 0 0] 32)) := ⟨_, rfl⟩
  have X0 : Hid (Ext w W) := hide (by rw [hW]; exact (by repeat (first | exact Ext.refl _ | exact Ext.pre (by simp) | exact Ext.alloc (by assumption) _ | refine Ext.alloc ?_ _ |  refine Ext.more ?_ _ _ | refine Ext.drew ?_ | refine Ext.drewN ?_ _)))
  have BP : Hid (W.heap[w.heap.size]? = some (.cells zeroPo 34 (0, 0))) := hide (by rw [hW]; exact (((Ext.refl _).alloc _).alloc _ |>.heap (by simp)).trans (at_newB _ _ _ rfl))
  have B1 : Hid (TBox W (w.heap.size + 1) (conT [73, 110, 116])) := hide (by rw [hW]; exact (((Ext.refl _).alloc _).heap (by simp)).trans (at_newB _ _ _ (by simp)))
  have B2 : Hid (TysIn W (some ⟨w.heap.size + 1 + 1, 0, none⟩) [conT [73, 110, 116], conT [73, 110, 116]]) := hide (by
    rw [hW]
    exact ⟨RowOf.block tyC [conT [73, 110, 116], conT [73, 110, 116]] (at_newB _ _ _ (by simp)), by simp only [List.mem_cons, List.not_mem_nil, or_false]; rintro k (rfl | rfl) <;> exact conT_in _ _ (by decide)⟩)
  have hWsz : Hid (w.heap.size + 3 ≤ W.heap.size) := hide (by rw [hW]; simp)
  have HFn := hide (fun s (hs : s.length ≤ 9223372036854775807) => hide (r_fun16 (some ⟨w.heap.size + 1 + 1, 0, none⟩) 2 [conT [73, 110, 116], conT [73, 110, 116]] (conT s) W B2.out (conT_in _ s hs) (by decide)))
  go_upto_region 3 with fail
  rw [← hW]
  clear hW
  cases hadd : (name == ([97, 100, 100] : Str))
  · cases hmul : (name == ([109, 117, 108] : Str))
    · cases hquot : (name == ([113, 117, 111, 116] : Str))
      · cases hrem : (name == ([114, 101, 109] : Str))
        · cases hsub : (name == ([115, 117, 98] : Str))
          · cases heqInt : (name == ([101, 113, 73, 110, 116] : Str))
            · cases hltInt : (name == ([108, 116, 73, 110, 116] : Str))
              · have hF : F = none := by rw [HP.out]; simp [hadd, hmul, hquot, hrem, hsub, heqInt, hltInt]
                subst hF
                clear HP HFn
                obtain ⟨z0, z1, z2, z3, z4, z5, z6, z7, z8⟩ := zpo (Ext.refl _) BP.out
                go_wp2
                refine bodyPost_ret (v := .tuple #[.agg #[.slice none 0 0, .string ⟨#[]⟩, .int .i64 0, .slice none 0 0], .bool false]) ?_ rfl ⟨⟨⟨[], none, 0, Ty.zero⟩, rfl, ⟨⟨Nat.le_refl _, Nat.zero_le _, RowOf.nil _ _ _, TyIn.zero _⟩, rfl, rfl⟩⟩, ?_⟩
                · simp [results, Tryz.f8, go_sem, z0, z1, z2, z3]
                · exact (((X0.out.setCell (by simp) _).setCell (by simp) _).setCell (by simp) _).setCell (by simp) _
              · have hF : F = some [66, 111, 111, 108] := by rw [HP.out]; simp [heqInt, hltInt]
                subst hF
                clear HP 
                have HF2 := hide (HFn.out [66, 111, 111, 108] (by decide)).out
                unfold tyV at HF2
                have HF3 := HF2.out
                simp only [conT] at HF3
                have HF4 := hide HF3
                clear HF2 HF3 HFn
                have b1 := B1.out.lt
                have d0 := B1.out.c0
                have d1 := B1.out.c1
                have d2 := B1.out.c2
                simp only [conT] at d0 d1 d2
                go_wp2_with fail
                refine HF4.out.mono ?_
                rintro e w6 ⟨⟨u, rfl, hu, hup, hua⟩, hx6⟩
                obtain ⟨z0, z1, z2, z3, z4, z5, z6, z7, z8⟩ := zpo hx6 BP.out
                have HR := hide (po_ret (w := w) (X0.out.trans hx6) (B := w.heap.size) (Nat.le_refl _) (l := []) (A := none) (c := 0) (Nat.le_refl _) (Nat.zero_le _) (RowOf.nil _ _ _) (by simp) hu (hua _ ⟨by have := hWsz.out; omega, conT_away _ [66, 111, 111, 108], by simp only [List.mem_cons, List.not_mem_nil, or_false]; rintro k (rfl | rfl) <;> exact conT_away _ [73, 110, 116]⟩))
                have HU := hide hup
                clear hu hup hua hx6
                go_wp2
                refine bodyPost_ret (v := .tuple #[.agg #[.slice none 0 0, encStr u.con, .int .i64 u.var, .slice u.A u.args.length u.cap], .bool true]) ?_ rfl ⟨⟨⟨[], none, 0, u⟩, rfl, ⟨HR.out.1, rfl, HU.out⟩⟩, HR.out.2⟩
                simp [results, Tryz.f8, go_sem, z0, z1, z2, z3]
            · have hF : F = some [66, 111, 111, 108] := by rw [HP.out]; simp [heqInt]
              subst hF
              clear HP 
              have HF2 := hide (HFn.out [66, 111, 111, 108] (by decide)).out
              unfold tyV at HF2
              have HF3 := HF2.out
              simp only [conT] at HF3
              have HF4 := hide HF3
              clear HF2 HF3 HFn
              have b1 := B1.out.lt
              have d0 := B1.out.c0
              have d1 := B1.out.c1
              have d2 := B1.out.c2
              simp only [conT] at d0 d1 d2
              go_wp2_with fail
              refine HF4.out.mono ?_
              rintro e w6 ⟨⟨u, rfl, hu, hup, hua⟩, hx6⟩
              obtain ⟨z0, z1, z2, z3, z4, z5, z6, z7, z8⟩ := zpo hx6 BP.out
              have HR := hide (po_ret (w := w) (X0.out.trans hx6) (B := w.heap.size) (Nat.le_refl _) (l := []) (A := none) (c := 0) (Nat.le_refl _) (Nat.zero_le _) (RowOf.nil _ _ _) (by simp) hu (hua _ ⟨by have := hWsz.out; omega, conT_away _ [66, 111, 111, 108], by simp only [List.mem_cons, List.not_mem_nil, or_false]; rintro k (rfl | rfl) <;> exact conT_away _ [73, 110, 116]⟩))
              have HU := hide hup
              clear hu hup hua hx6
              go_wp2
              refine bodyPost_ret (v := .tuple #[.agg #[.slice none 0 0, encStr u.con, .int .i64 u.var, .slice u.A u.args.length u.cap], .bool true]) ?_ rfl ⟨⟨⟨[], none, 0, u⟩, rfl, ⟨HR.out.1, rfl, HU.out⟩⟩, HR.out.2⟩
              simp [results, Tryz.f8, go_sem, z0, z1, z2, z3]
          · have heqInt : (name == ([101, 113, 73, 110, 116] : Str)) = false := by rw [eq_of_beq hsub]; decide
            have hltInt : (name == ([108, 116, 73, 110, 116] : Str)) = false := by rw [eq_of_beq hsub]; decide
            have hF : F = some [73, 110, 116] := by rw [HP.out]; simp [hadd, hmul, hquot, hrem, hsub, heqInt, hltInt]
            subst hF
            clear HP heqInt hltInt
            have HF2 := hide (HFn.out [73, 110, 116] (by decide)).out
            unfold tyV at HF2
            have HF3 := HF2.out
            simp only [conT] at HF3
            have HF4 := hide HF3
            clear HF2 HF3 HFn
            have b1 := B1.out.lt
            have d0 := B1.out.c0
            have d1 := B1.out.c1
            have d2 := B1.out.c2
            simp only [conT] at d0 d1 d2
            go_wp2_with fail
            refine HF4.out.mono ?_
            rintro e w6 ⟨⟨u, rfl, hu, hup, hua⟩, hx6⟩
            obtain ⟨z0, z1, z2, z3, z4, z5, z6, z7, z8⟩ := zpo hx6 BP.out
            have HR := hide (po_ret (w := w) (X0.out.trans hx6) (B := w.heap.size) (Nat.le_refl _) (l := []) (A := none) (c := 0) (Nat.le_refl _) (Nat.zero_le _) (RowOf.nil _ _ _) (by simp) hu (hua _ ⟨by have := hWsz.out; omega, conT_away _ [73, 110, 116], by simp only [List.mem_cons, List.not_mem_nil, or_false]; rintro k (rfl | rfl) <;> exact conT_away _ [73, 110, 116]⟩))
            have HU := hide hup
            clear hu hup hua hx6
            go_wp2
            refine bodyPost_ret (v := .tuple #[.agg #[.slice none 0 0, encStr u.con, .int .i64 u.var, .slice u.A u.args.length u.cap], .bool true]) ?_ rfl ⟨⟨⟨[], none, 0, u⟩, rfl, ⟨HR.out.1, rfl, HU.out⟩⟩, HR.out.2⟩
            simp [results, Tryz.f8, go_sem, z0, z1, z2, z3]
        · have heqInt : (name == ([101, 113, 73, 110, 116] : Str)) = false := by rw [eq_of_beq hrem]; decide
          have hltInt : (name == ([108, 116, 73, 110, 116] : Str)) = false := by rw [eq_of_beq hrem]; decide
          have hF : F = some [73, 110, 116] := by rw [HP.out]; simp [hadd, hmul, hquot, hrem, heqInt, hltInt]
          subst hF
          clear HP heqInt hltInt
          have HF2 := hide (HFn.out [73, 110, 116] (by decide)).out
          unfold tyV at HF2
          have HF3 := HF2.out
          simp only [conT] at HF3
          have HF4 := hide HF3
          clear HF2 HF3 HFn
          have b1 := B1.out.lt
          have d0 := B1.out.c0
          have d1 := B1.out.c1
          have d2 := B1.out.c2
          simp only [conT] at d0 d1 d2
          go_wp2_with fail
          refine HF4.out.mono ?_
          rintro e w6 ⟨⟨u, rfl, hu, hup, hua⟩, hx6⟩
          obtain ⟨z0, z1, z2, z3, z4, z5, z6, z7, z8⟩ := zpo hx6 BP.out
          have HR := hide (po_ret (w := w) (X0.out.trans hx6) (B := w.heap.size) (Nat.le_refl _) (l := []) (A := none) (c := 0) (Nat.le_refl _) (Nat.zero_le _) (RowOf.nil _ _ _) (by simp) hu (hua _ ⟨by have := hWsz.out; omega, conT_away _ [73, 110, 116], by simp only [List.mem_cons, List.not_mem_nil, or_false]; rintro k (rfl | rfl) <;> exact conT_away _ [73, 110, 116]⟩))
          have HU := hide hup
          clear hu hup hua hx6
          go_wp2
          refine bodyPost_ret (v := .tuple #[.agg #[.slice none 0 0, encStr u.con, .int .i64 u.var, .slice u.A u.args.length u.cap], .bool true]) ?_ rfl ⟨⟨⟨[], none, 0, u⟩, rfl, ⟨HR.out.1, rfl, HU.out⟩⟩, HR.out.2⟩
          simp [results, Tryz.f8, go_sem, z0, z1, z2, z3]
      · have heqInt : (name == ([101, 113, 73, 110, 116] : Str)) = false := by rw [eq_of_beq hquot]; decide
        have hltInt : (name == ([108, 116, 73, 110, 116] : Str)) = false := by rw [eq_of_beq hquot]; decide
        have hF : F = some [73, 110, 116] := by rw [HP.out]; simp [hadd, hmul, hquot, heqInt, hltInt]
        subst hF
        clear HP heqInt hltInt
        have HF2 := hide (HFn.out [73, 110, 116] (by decide)).out
        unfold tyV at HF2
        have HF3 := HF2.out
        simp only [conT] at HF3
        have HF4 := hide HF3
        clear HF2 HF3 HFn
        have b1 := B1.out.lt
        have d0 := B1.out.c0
        have d1 := B1.out.c1
        have d2 := B1.out.c2
        simp only [conT] at d0 d1 d2
        go_wp2_with fail
        refine HF4.out.mono ?_
        rintro e w6 ⟨⟨u, rfl, hu, hup, hua⟩, hx6⟩
        obtain ⟨z0, z1, z2, z3, z4, z5, z6, z7, z8⟩ := zpo hx6 BP.out
        have HR := hide (po_ret (w := w) (X0.out.trans hx6) (B := w.heap.size) (Nat.le_refl _) (l := []) (A := none) (c := 0) (Nat.le_refl _) (Nat.zero_le _) (RowOf.nil _ _ _) (by simp) hu (hua _ ⟨by have := hWsz.out; omega, conT_away _ [73, 110, 116], by simp only [List.mem_cons, List.not_mem_nil, or_false]; rintro k (rfl | rfl) <;> exact conT_away _ [73, 110, 116]⟩))
        have HU := hide hup
        clear hu hup hua hx6
        go_wp2
        refine bodyPost_ret (v := .tuple #[.agg #[.slice none 0 0, encStr u.con, .int .i64 u.var, .slice u.A u.args.length u.cap], .bool true]) ?_ rfl ⟨⟨⟨[], none, 0, u⟩, rfl, ⟨HR.out.1, rfl, HU.out⟩⟩, HR.out.2⟩
        simp [results, Tryz.f8, go_sem, z0, z1, z2, z3]
    · have heqInt : (name == ([101, 113, 73, 110, 116] : Str)) = false := by rw [eq_of_beq hmul]; decide
      have hltInt : (name == ([108, 116, 73, 110, 116] : Str)) = false := by rw [eq_of_beq hmul]; decide
      have hF : F = some [73, 110, 116] := by rw [HP.out]; simp [hadd, hmul, heqInt, hltInt]
      subst hF
      clear HP heqInt hltInt
      have HF2 := hide (HFn.out [73, 110, 116] (by decide)).out
      unfold tyV at HF2
      have HF3 := HF2.out
      simp only [conT] at HF3
      have HF4 := hide HF3
      clear HF2 HF3 HFn
      have b1 := B1.out.lt
      have d0 := B1.out.c0
      have d1 := B1.out.c1
      have d2 := B1.out.c2
      simp only [conT] at d0 d1 d2
      go_wp2_with fail
      refine HF4.out.mono ?_
      rintro e w6 ⟨⟨u, rfl, hu, hup, hua⟩, hx6⟩
      obtain ⟨z0, z1, z2, z3, z4, z5, z6, z7, z8⟩ := zpo hx6 BP.out
      have HR := hide (po_ret (w := w) (X0.out.trans hx6) (B := w.heap.size) (Nat.le_refl _) (l := []) (A := none) (c := 0) (Nat.le_refl _) (Nat.zero_le _) (RowOf.nil _ _ _) (by simp) hu (hua _ ⟨by have := hWsz.out; omega, conT_away _ [73, 110, 116], by simp only [List.mem_cons, List.not_mem_nil, or_false]; rintro k (rfl | rfl) <;> exact conT_away _ [73, 110, 116]⟩))
      have HU := hide hup
      clear hu hup hua hx6
      go_wp2
      refine bodyPost_ret (v := .tuple #[.agg #[.slice none 0 0, encStr u.con, .int .i64 u.var, .slice u.A u.args.length u.cap], .bool true]) ?_ rfl ⟨⟨⟨[], none, 0, u⟩, rfl, ⟨HR.out.1, rfl, HU.out⟩⟩, HR.out.2⟩
      simp [results, Tryz.f8, go_sem, z0, z1, z2, z3]
  · have heqInt : (name == ([101, 113, 73, 110, 116] : Str)) = false := by rw [eq_of_beq hadd]; decide
    have hltInt : (name == ([108, 116, 73, 110, 116] : Str)) = false := by rw [eq_of_beq hadd]; decide
    have hF : F = some [73, 110, 116] := by rw [HP.out]; simp [hadd, heqInt, hltInt]
    subst hF
    clear HP heqInt hltInt
    have HF2 := hide (HFn.out [73, 110, 116] (by decide)).out
    unfold tyV at HF2
    have HF3 := HF2.out
    simp only [conT] at HF3
    have HF4 := hide HF3
    clear HF2 HF3 HFn
    have b1 := B1.out.lt
    have d0 := B1.out.c0
    have d1 := B1.out.c1
    have d2 := B1.out.c2
    simp only [conT] at d0 d1 d2
    go_wp2_with fail
    refine HF4.out.mono ?_
    rintro e w6 ⟨⟨u, rfl, hu, hup, hua⟩, hx6⟩
    obtain ⟨z0, z1, z2, z3, z4, z5, z6, z7, z8⟩ := zpo hx6 BP.out
    have HR := hide (po_ret (w := w) (X0.out.trans hx6) (B := w.heap.size) (Nat.le_refl _) (l := []) (A := none) (c := 0) (Nat.le_refl _) (Nat.zero_le _) (RowOf.nil _ _ _) (by simp) hu (hua _ ⟨by have := hWsz.out; omega, conT_away _ [73, 110, 116], by simp only [List.mem_cons, List.not_mem_nil, or_false]; rintro k (rfl | rfl) <;> exact conT_away _ [73, 110, 116]⟩))
    have HU := hide hup
    clear hu hup hua hx6
    go_wp2
    refine bodyPost_ret (v := .tuple #[.agg #[.slice none 0 0, encStr u.con, .int .i64 u.var, .slice u.A u.args.length u.cap], .bool true]) ?_ rfl ⟨⟨⟨[], none, 0, u⟩, rfl, ⟨HR.out.1, rfl, HU.out⟩⟩, HR.out.2⟩
    simp [results, Tryz.f8, go_sem, z0, z1, z2, z3]

set_option maxRecDepth 10000 in
set_option maxHeartbeats 1000000 in
theorem r_same20 (a b : Pd) (w : World) (ha : TyIn w a.ty) (hb : TyIn w b.ty) (h : a.cls = b.cls) (hs : sameB a.ty b.ty = true) :
    Calls Tryz.prog 71 #[pdV a, pdV b] w fun e w' => e = .returned (.bool true) ∧ Ext w w' := by
  obtain ⟨W, hW⟩ : ∃ W, W = (w.alloc (.cells #[encStr a.cls, encStr a.ty.con, .int .i64 a.ty.var, .slice a.ty.A a.ty.args.length a.ty.cap] 69)).alloc (.cells #[encStr b.cls, encStr b.ty.con, .int .i64 b.ty.var, .slice b.ty.A b.ty.args.length b.ty.cap] 69) := ⟨_, rfl⟩
  have HW := hide hW.symm
  have X0 : Hid (Ext w W) := hide (by rw [hW]; exact ((Ext.refl _).alloc _).alloc _)
  have B1 : Hid (PdBox W w.heap.size a) := hide (by rw [hW]; exact (PdBox.new w a).ext ((Ext.refl _).alloc _))
  have B2 : Hid (PdBox W (w.heap.size + 1) b) := hide (by rw [hW]; exact at_newB _ _ _ (by simp))
  have HS := hide (r_same16 a.ty b.ty W (ha.ext X0.out) (hb.ext X0.out))
  rw [hs] at HS
  obtain ⟨c0, c1, c2, c3⟩ := B1.out.cells
  obtain ⟨d0, d1, d2, d3⟩ := B2.out.cells
  have hb1 := B1.out.lt
  have hb2 := B2.out.lt
  have hq : (b.cls == b.cls) = true := by simp
  rw [h] at c0
  clear hW ha hb h hs
  unfold tyV at HS
  unfold pdV
  go_enter Tryz.func71, Tryz.ntmps71
  go_upto_region 1 with fail
  rw [HW.out]
  go_wp2_with fail
  refine HS.out.mono ?_
  rintro e w2 ⟨rfl, hx⟩
  go_wp2
  go_ret
  exact ⟨rfl, X0.out.trans hx⟩

set_option maxRecDepth 10000 in
set_option maxHeartbeats 2000000 in
theorem r_rows20 (A B : Option Addr) (ca cb : Nat) (l m : List Pd) (w : World) (hl : PdsIn w A l) (hm : PdsIn w B m) (h : l.map (fun d => (d.cls, d.ty.pure)) = m.map (fun d => (d.cls, d.ty.pure))) (hn : l.length ≤ 9223372036854775807) :
    Calls Tryz.prog 42 #[.slice A l.length ca, .slice B m.length cb] w fun e w' => e = .returned (.bool true) ∧ Ext w w' := by
  have hlen : l.length = m.length := by simpa using congrArg List.length h
  have HP : Hid (∀ i (h1 : i < l.length) (h2 : i < m.length), (l[i]'h1).cls = (m[i]'h2).cls ∧ sameB (l[i]'h1).ty (m[i]'h2).ty = true) := hide (fun i h1 h2 => by
    rw [sameB_iff]
    have : (l.map (fun d => (d.cls, d.ty.pure)))[i]? = (m.map (fun d => (d.cls, d.ty.pure)))[i]? := by rw [h]
    rw [List.getElem?_map, List.getElem?_map, List.getElem?_eq_getElem h1, List.getElem?_eq_getElem h2] at this
    simpa using this)
  have HL := hide hl
  have HM := hide hm
  have HLn := hide hlen
  rw [← hlen]
  clear hl hm h hlen
  go_enter Tryz.func42, Tryz.ntmps42
  go_wp2
  go_loopw [5] (fun i wr => ∃ k : Nat, k ≤ l.length ∧ i = .int .i64 k ∧ Hid (Ext w wr)) (fun i _ => l.length - (intOf i).toNat)
  case atStart => exact ⟨0, Nat.zero_le _, rfl, hide (by repeat (first | exact Ext.refl _ | exact Ext.pre (by simp) | exact Ext.alloc (by assumption) _ | refine Ext.alloc ?_ _ |  refine Ext.more ?_ _ _ | refine Ext.drew ?_ | refine Ext.drewN ?_ _))⟩
  case round =>
    obtain ⟨k, hk, rfl, HX⟩ := hrel
    by_cases hlt : k < l.length
    · have hltb : k < m.length := by rw [← HLn.out]; exact hlt
      have hlt' : (k : Int) < (l.length : Int) := by omega
      have hk0 : (0 : Int) ≤ (k : Int) := by omega
      obtain ⟨p, o, hA, hp, q0, q1, q2, q3⟩ := (HL.out.ext HX.out).at_ hlt
      obtain ⟨p', o', hB, hp', r0, r1, r2, r3⟩ := (HM.out.ext HX.out).at_ hltb
      have HC := hide (fun w' (e : Ext w w') => hide (r_same20 (l[k]'hlt) (m[k]'hltb) w' ((HL.out.all _ (List.getElem_mem hlt)).ty.ext e) ((HM.out.all _ (List.getElem_mem hltb)).ty.ext e) (HP.out k hlt hltb).1 (HP.out k hlt hltb).2))
      have HSa := hide (fun w' (e : Ext wr w') => And.intro (e.cell q0) (And.intro (e.cell q1) (And.intro (e.cell q2) (And.intro (e.cell q3) (And.intro (e.cell r0) (And.intro (e.cell r1) (And.intro (e.cell r2) (e.cell r3))))))))
      generalize l[k]'hlt = x at *
      generalize m[k]'hltb = y at *
      rw [hA, hB]
      clear hA hB
      unfold pdV at HC
      go_wp2
      go_region_held3 (fun w' => w'.cell? ⟨p, o + k * 4, none⟩ = some (.string ⟨x.cls.toArray⟩) ∧ w'.cell? ⟨p, o + k * 4 + 1, none⟩ = some (.string ⟨x.ty.con.toArray⟩) ∧ w'.cell? ⟨p, o + k * 4 + 2, none⟩ = some (.int .i64 x.ty.var) ∧ w'.cell? ⟨p, o + k * 4 + 3, none⟩ = some (.slice x.ty.A x.ty.args.length x.ty.cap) ∧ w'.cell? ⟨p', o' + k * 4, none⟩ = some (.string ⟨y.cls.toArray⟩) ∧ w'.cell? ⟨p', o' + k * 4 + 1, none⟩ = some (.string ⟨y.ty.con.toArray⟩) ∧ w'.cell? ⟨p', o' + k * 4 + 2, none⟩ = some (.int .i64 y.ty.var) ∧ w'.cell? ⟨p', o' + k * 4 + 3, none⟩ = some (.slice y.ty.A y.ty.args.length y.ty.cap)) (first | assumption | go_keep) (first
        | (go_at_call 71
           refine Calls.mono (HC.out _ (HX.out.trans ((Ext.refl _).drew))).out ?_
           rintro e w5 ⟨rfl, hx5⟩
           have X5 := hide (HX.out.trans (((Ext.refl wr).drew).trans hx5))
           have k5 := HSa.out _ (((Ext.refl wr).drew).trans hx5)
           clear hx5))
      clear k5
      go_wp2
      go_roundw
      case rel => exact ⟨k + 1, hlt, by go_num, X5⟩
      case measure => simp [intOf]; omega
    · have hge : ¬ (k : Int) < (l.length : Int) := by omega
      go_wp2
      go_ret
      exact ⟨rfl, HX.out⟩

set_option maxRecDepth 10000 in
set_option maxHeartbeats 2000000 in
theorem r_just21 (a b : Sc) (w : World) (ha : ScIn w a) (hb : ScIn w b) (hn : a.n = b.n) (ht : a.ty.pure = b.ty.pure) (hp : a.preds.map (fun d => (d.cls, d.ty.pure)) = b.preds.map (fun d => (d.cls, d.ty.pure))) :
    Calls Tryz.prog 14 #[scV a, scV b] w fun e w' => e = .returned (.bool true) ∧ Ext w w' := by
  obtain ⟨W, hW⟩ : ∃ W, W = (w.alloc (.cells #[.int .i64 a.n, .slice a.A a.preds.length a.cap, encStr a.ty.con, .int .i64 a.ty.var, .slice a.ty.A a.ty.args.length a.ty.cap] 39)).alloc (.cells #[.int .i64 b.n, .slice b.A b.preds.length b.cap, encStr b.ty.con, .int .i64 b.ty.var, .slice b.ty.A b.ty.args.length b.ty.cap] 39) := ⟨_, rfl⟩
  have HW := hide hW.symm
  have X0 : Hid (Ext w W) := hide (by rw [hW]; exact ((Ext.refl _).alloc _).alloc _)
  have B1 : Hid (ScBox W w.heap.size a) := hide (by rw [hW]; exact (ScBox.new w a).ext ((Ext.refl _).alloc _))
  have B2 : Hid (ScBox W (w.heap.size + 1) b) := hide (by rw [hW]; exact at_newB _ _ _ (by simp))
  have HS := hide (r_same16 a.ty b.ty W (ha.ty.ext X0.out) (hb.ty.ext X0.out))
  rw [sameB_iff.2 ht] at HS
  have hle := ha.le
  have hmx := ha.max
  have HR := hide (fun w' (e : Ext W w') => hide (r_rows20 a.A b.A a.cap b.cap a.preds b.preds w' (ha.row.ext (X0.out.trans e)) (hb.row.ext (X0.out.trans e)) hp (by omega)))
  have HC2 := hide (fun w' (e : Ext W w') => And.intro (B1.out.ext e).cells (And.intro (B2.out.ext e).cells (And.intro (B1.out.ext e).lt (B2.out.ext e).lt)))
  obtain ⟨c0, c1, c2, c3, c4⟩ := B1.out.cells
  obtain ⟨d0, d1, d2, d3, d4⟩ := B2.out.cells
  have hb1 := B1.out.lt
  have hb2 := B2.out.lt
  have hq : (b.n == b.n) = true := by simp
  rw [hn] at c0
  clear hW ha hb hn ht hp hle hmx
  unfold tyV at HS
  unfold scV
  go_enter Tryz.func14, Tryz.ntmps14
  go_upto_region 1 with fail
  rw [HW.out]
  go_wp2_with fail
  refine HS.out.mono ?_
  rintro e w2 ⟨rfl, hx⟩
  clear c0 c1 c2 c3 c4 d0 d1 d2 d3 d4 hb1 hb2
  obtain ⟨⟨c0, c1, -, -, -⟩, ⟨d0, d1, -, -, -⟩, hb1, hb2⟩ := HC2.out w2 hx
  have X2 := hide hx
  clear hx c0 d0
  go_wp2_with fail
  refine (HR.out w2 X2.out).out.mono ?_
  rintro e w3 ⟨rfl, hx⟩
  go_wp2
  go_ret
  exact ⟨rfl, X0.out.trans (X2.out.trans hx)⟩

end Go.Proofs.YtnomibjbjplieaaGreat

/- Contract of the reference of chapter 21: the scheme for all variables but some. -/
namespace Go.Proofs.YtnomibjbjplieaaGreat
open Go.RowKit

theorem any_cont (l : List Int) (x : Int) : (l.any (· == x)) = l.contains x := by
  induction l with
  | nil => rfl
  | cons y l ih =>
    rw [List.any_cons, List.contains_cons, ih]
    congr 1
    rw [Bool.eq_iff_iff]
    simp only [beq_iff_eq]
    exact eq_comm
/-- While the variables are told. -/
structure ClR (wr : World) (A : Option Addr) (c : Nat) (s : List Pr) (L R : List Int) (k : Nat) : Prop where
  prs : PrsIn wr A s
  le : s.length ≤ c
  max : c ≤ 9223372036854775807
  sets : SetsTo s L R k
  flat : ∀ p ∈ s, p.ty.args = []
theorem ClR.notYet {wr : World} {A : Option Addr} {c : Nat} {s : List Pr} {L R : List Int} {k : Nat} (h : ClR wr A c s L R k) (hn : L.Nodup) (hk : k < L.length) : putAt (vsP s) (tsP s) (L[k]'hk) = none := by
  obtain ⟨i, hi⟩ := lb_any s h.sets.rise (L[k]'hk)
  rw [putAt_lb h.sets.rise hi, h.sets.no hn hk hi]
  rfl
theorem ClR.step {wr w' : World} {A A' : Option Addr} {c c' : Nat} {s : List Pr} {L R : List Int} {k i : Nat} {tv : Int} (h : ClR wr A c s L R k) (hn : L.Nodup) (hk : k < L.length) (hto : tv = R.getD k 0) (hi : LbP s (L[k]'hk) i)
    (hp : PrsIn w' A' (insP s i (L[k]'hk) (.mk [] tv none 0 []))) (h1 : (insP s i (L[k]'hk) (.mk [] tv none 0 [])).length ≤ c') (h2 : c' ≤ 9223372036854775807) : ClR w' A' c' (insP s i (L[k]'hk) (.mk [] tv none 0 [])) L R (k + 1) := by
  refine ⟨hp, h1, h2, h.sets.snoc hn hk hi (by rw [Ty.pure_eq, hto]; rfl), fun p hp => ?_⟩
  rcases insP_mem.1 hp with rfl | hp
  · rfl
  · exact h.flat p hp
theorem ClR.away {wr : World} {A : Option Addr} {c : Nat} {s : List Pr} {L R : List Int} {k : Nat} (h : ClR wr A c s L R k) (b : Nat) : ∀ y ∈ tsP s, awayB b y = true := fun y hy => by
  obtain ⟨p, hp, rfl⟩ := List.mem_map.1 hy
  have e := h.flat p hp
  obtain ⟨v, ty⟩ := p
  cases ty with
  | mk s2 v2 A2 c2 l2 =>
    have e : l2 = [] := e
    subst e
    exact awayB_mk (fun hn => absurd rfl hn) (by simp)

set_option maxRecDepth 10000 in
set_option maxHeartbeats 4000000 in
theorem r_close21 (t : Ty) (A : Option Addr) (cap : Nat) (l : List Pd) (K : Option Addr) (kc : Nat) (keep : List Int) (w : World) (ht : TyIn w t) (hl : PdsIn w A l) (hk : Ints w K keep) (hkb : ∀ v ∈ keep, -9223372036854775808 ≤ v ∧ v ≤ 9223372036854775807) (hkl : keep.length ≤ 10000) (hlen : l.length ≤ 40000) (hsz : t.size + psz l ≤ 50000) :
    Calls Tryz.prog 32 #[tyV t, .slice A l.length cap, .slice K keep.length kc] w fun e w' => (∃ sc : Sc, e = .returned (scV sc) ∧ ScIn w' sc ∧ CloseIs keep t l sc ∧ ScOff w t l sc) ∧ Ext w w' := by
  obtain ⟨W, hW⟩ : ∃ W, W = (w.alloc (.cells #[encStr t.con, .int .i64 t.var, .slice t.A t.args.length t.cap] 32)).alloc (.cells #[.int .i64 0, .slice none 0 0, .string ⟨#[]⟩, .int .i64 0, .slice none 0 0] 39) := ⟨_, rfl⟩
  have HW := hide hW.symm
  have X0 : Hid (Ext w W) := hide (by rw [hW]; exact ((Ext.refl _).alloc _).alloc _)
  have B1 : Hid (TBox W w.heap.size t) := hide (by rw [hW]; exact (TBox.new w t).ext ((Ext.refl _).alloc _))
  have B2 : Hid (W.heap[w.heap.size + 1]? = some (.cells zeroSc 39 (0, 0))) := hide (by rw [hW]; exact at_newB _ _ _ (by simp))
  have HT := hide ht
  have HL := hide hl
  have HK := hide hk
  have HV16 : Hid (∀ (v : Int) (w : World), Calls Tryz.prog 66 #[.int .i64 v] w fun e w' => e = .returned (.agg #[.string ⟨#[]⟩, .int .i64 v, .slice none 0 0]) ∧ Ext w w') := hide (fun v w => r_V16 v w)
  have HLe := hide (r_legal16 t W (ht.ext X0.out) (by omega))
  have HAl := hide (fun w' (e : Ext w w') => hide (r_all20 A cap l w' (hl.ext e) (by omega) (fun p hp => by have := psz_mem hp; omega)))
  have HVs := hide (fun w' (e : Ext w w') => hide (r_all21 t A cap l w' (ht.ext e) (hl.ext e) hlen hsz))
  have c0 := B1.out.c0
  have c1 := B1.out.c1
  have c2 := B1.out.c2
  have hbl := B1.out.lt
  have hNo : Hid ((legalT t && l.all pdB) = false → ∀ wr, Ext W wr → (ScIn (((((wr.setCell ⟨w.heap.size + 1, 0, none⟩ (.int .i64 0)).setCell ⟨w.heap.size + 1, 1, none⟩ (.slice none 0 0)).setCell ⟨w.heap.size + 1, 2, none⟩ (.string ⟨#[]⟩)).setCell ⟨w.heap.size + 1, 3, none⟩ (.int .i64 0)).setCell ⟨w.heap.size + 1, 4, none⟩ (.slice none 0 0)) Sc.zero ∧ CloseIs keep t l Sc.zero ∧ ScOff w t l Sc.zero) ∧ Ext w (((((wr.setCell ⟨w.heap.size + 1, 0, none⟩ (.int .i64 0)).setCell ⟨w.heap.size + 1, 1, none⟩ (.slice none 0 0)).setCell ⟨w.heap.size + 1, 2, none⟩ (.string ⟨#[]⟩)).setCell ⟨w.heap.size + 1, 3, none⟩ (.int .i64 0)).setCell ⟨w.heap.size + 1, 4, none⟩ (.slice none 0 0))) := hide (fun hf wr e =>
    ⟨⟨⟨Nat.le_refl _, Nat.zero_le _, ⟨RowOf.nil _ _ _, by intro p hp; cases hp⟩, TyIn.zero _⟩, ⟨fun _ => ⟨rfl, rfl, zero_pure⟩, (fun h => by rw [hf] at h; cases h), (fun h => by rw [hf] at h; cases h), (fun h => by rw [hf] at h; cases h)⟩, ⟨fun c _ _ => away_zero c, (fun d hd => by cases hd), (fun hn => absurd rfl hn)⟩⟩,
      (((((X0.out.trans e).setCell (by simp) _).setCell (by simp) _).setCell (by simp) _).setCell (by simp) _).setCell (by simp) _⟩)
  clear hW ht hl hk
  unfold tyV at *
  unfold scV
  go_enter Tryz.func32, Tryz.ntmps32
  go_upto_region 1 with fail
  rw [HW.out]
  clear HW
  go_wp2_with fail
  refine HLe.out.mono ?_
  rintro e w2 ⟨rfl, hx⟩
  have X2 := hide (X0.out.trans hx)
  have Y2 := hide hx
  clear hx HLe c0 c1 c2 hbl
  cases hlt : legalT t
  · obtain ⟨⟨hz1, hz2, hz4⟩, hz3⟩ := hNo.out (by rw [hlt]; rfl) w2 Y2.out
    obtain ⟨k0, k1, k2, k3, k4, f0, f1, f2, f3, f4, hrl⟩ := zsc Y2.out B2.out
    have HZ := hide (And.intro hz1 (And.intro hz2 (And.intro hz4 hz3)))
    clear hNo hz1 hz2 hz3 hz4 hlt
    go_wp2
    refine bodyPost_ret (v := .agg #[.int .i64 0, .slice none 0 0, .string ⟨#[]⟩, .int .i64 0, .slice none 0 0]) ?_ rfl ⟨⟨Sc.zero, rfl, HZ.out.1, HZ.out.2.1, HZ.out.2.2.1⟩, HZ.out.2.2.2⟩
    simp [results, Tryz.f32, go_sem, k0, k1, k2, k3, k4]
  have HA2 := hide (HAl.out w2 X2.out)
  clear HAl
  go_wp2_with fail
  refine HA2.out.out.mono ?_
  rintro e w3 ⟨rfl, hx⟩
  have X3 := hide (X2.out.trans hx)
  have Y3 := hide (Y2.out.trans hx)
  clear hx HA2
  cases hla : l.all pdB
  · obtain ⟨⟨hz1, hz2, hz4⟩, hz3⟩ := hNo.out (by rw [hlt, hla]; rfl) w3 Y3.out
    obtain ⟨k0, k1, k2, k3, k4, f0, f1, f2, f3, f4, hrl⟩ := zsc Y3.out B2.out
    have HZ := hide (And.intro hz1 (And.intro hz2 (And.intro hz4 hz3)))
    clear hNo hz1 hz2 hz3 hz4 hlt hla
    go_wp2
    refine bodyPost_ret (v := .agg #[.int .i64 0, .slice none 0 0, .string ⟨#[]⟩, .int .i64 0, .slice none 0 0]) ?_ rfl ⟨⟨Sc.zero, rfl, HZ.out.1, HZ.out.2.1, HZ.out.2.2.1⟩, HZ.out.2.2.2⟩
    simp [results, Tryz.f32, go_sem, k0, k1, k2, k3, k4]
  have C1 := hide (B1.out.ext Y3.out)
  have c0 := C1.out.c0
  have c1 := C1.out.c1
  have c2 := C1.out.c2
  have hbl := C1.out.lt
  have HV2 := hide (HVs.out w3 X3.out)
  clear HVs hNo
  go_wp2_with fail
  refine HV2.out.out.mono ?_
  rintro e w4 ⟨⟨A7, c7, rfl, hle7, hmx7, hi7⟩, hx⟩
  have X4 := hide (X3.out.trans hx)
  have Y4 := hide (Y3.out.trans hx)
  have HI7 := hide hi7
  have HLen : Hid ((sVars t l).length ≤ 50000) := hide (by have := sVars_len t l; omega)
  have HNd : Hid ((sVars t l).Nodup) := hide (sVars_nodup t l)
  have HMem := hide (sv_mem t l)
  clear hx hi7 HV2 c0 c1 c2 hbl C1
  generalize hLq : sVars t l = L at *
  have HLq := hide hLq
  clear hLq
  obtain ⟨R, hR⟩ : ∃ R, R = closeGo keep 0 L := ⟨_, rfl⟩
  have HR : Hid (∀ k (hk : k < L.length), R.getD k 0 = if keep.contains (L[k]'hk) = true then min (L[k]'hk) (-1 - L[k]'hk) else (0 : Int) + closeN keep (L.take k)) := hide (fun k hk => by rw [hR]; exact closeGo_at keep L 0 hk)
  have HRe := hide hR
  have H0 : Hid (ClR w4 none 0 [] L R 0) := hide ⟨⟨RowOf.nil _ _ _, by simp⟩, Nat.le_refl _, Nat.zero_le _, SetsTo.nil L R, by simp⟩
  have hlL := HLen.out
  clear hR
  go_wp2
  go_loopw [8, 9, 10] (fun v nn i wr => ∃ (k : Nat) (A8 : Option Addr) (c8 : Nat) (s : List Pr), k ≤ L.length ∧ i = .int .i64 k ∧ v = .slice A8 s.length c8 ∧ nn = .int .i64 (closeN keep (L.take k) : Int) ∧ Hid (Ext w4 wr) ∧ Hid (ClR wr A8 c8 s L R k)) (fun _ _ i _ => L.length - (intOf i).toNat)
  case atStart => exact ⟨0, none, 0, [], Nat.zero_le _, rfl, rfl, by simp [closeN], hide (Ext.refl _), H0⟩
  case round =>
    obtain ⟨k, A8, c8, s, hk, rfl, rfl, rfl, HX, HC⟩ := hrel
    have XR := hide (X4.out.trans HX.out)
    have hs1 : s.length = k := HC.out.sets.len
    have hs2 : s.length ≤ 100000 := by omega
    have hle8 := HC.out.le
    have hmx8 := HC.out.max
    have HSl := hide hs1
    clear hs1
    by_cases hlt2 : k < L.length
    · have hlt' : (k : Int) < (L.length : Int) := by omega
      have hk0 : (0 : Int) ≤ (k : Int) := by omega
      obtain ⟨b, o, rfl, hb, q0⟩ := Ints.at_ (RowOf.ext intC HI7.out HX.out) hlt2
      have HRk := hide (HR.out k hlt2)
      have HCt := hide (closeN_take keep L hlt2)
      have HSet := hide (fun tv w' (e : Ext wr w') => hide (r_set17 A8 c8 s (L[k]'hlt2) (.mk [] tv none 0 []) w' (HC.out.prs.ext e) HC.out.le HC.out.max HC.out.sets.rise (TyIn.of (Nat.zero_le _) (by omega) (by decide) (RowOf.nil _ _ _) (by simp)) (by rw [Ty.size_eq]; show 0 + 1 ≤ 900000; omega) (legal_var _ _ _) hs2 (HC.out.notYet HNd.out hlt2)))
      have HStep := hide (fun tv w' i A' c' (hto : tv = R.getD k 0) (hi : LbP s (L[k]'hlt2) i) hp h1 h2 => HC.out.step (w' := w') (A' := A') (c' := c') HNd.out hlt2 hto hi hp h1 h2)
      have HIn := hide (r_in16 K kc keep (L[k]'hlt2) wr (RowOf.ext intC HK.out XR.out) (by omega))
      rw [any_cont] at HIn
      have hnb : closeN keep (L.take k) ≤ 50000 := by have := closeN_le keep (L.take k); rw [List.length_take] at this; omega
      have HxB := hide (fun (h : keep.contains (L[k]'hlt2) = true) => hkb (L[k]'hlt2) (by simpa using h))
      generalize L[k]'hlt2 = x at *
      generalize hq : closeN keep (L.take (k + 1)) = n' at *
      have Hq := hide hq
      clear hq
      generalize closeN keep (L.take k) = n at *
      unfold tyV at HSet
      simp only [Ty.con, Ty.var, Ty.A, Ty.cap, Ty.args, List.length_nil, encStr] at HSet
      cases hc : keep.contains x
      · rw [hc] at HIn HRk HCt
        have hto : ((n : Nat) : Int) = R.getD k 0 := by rw [HRk.out]; simp
        have hn' : ((n' : Nat) : Int) = (n : Int) + 1 := by have := HCt.out; simp at this; omega
        have Hto := hide hto
        have Hn' := hide hn'
        clear hto hn' HRk HCt hc HxB
        go_wp2_with fail
        refine HIn.out.mono ?_
        rintro e w5 ⟨rfl, rfl⟩
        go_wp2_with fail
        refine (HV16.out (n : Int) w5).mono ?_
        rintro e w6 ⟨rfl, hx6⟩
        have HS6 := hide (HSet.out (n : Int) w6 hx6)
        have X6 := hide (HX.out.trans hx6)
        clear hx6 HSet
        go_wp2_with fail
        refine HS6.out.out.mono ?_
        rintro e w7 ⟨⟨i, A', cap', rfl, hi, hp, h1, h2⟩, hx7⟩
        have X7 := hide (X6.out.trans hx7)
        have HN := hide (HStep.out _ w7 i A' cap' Hto.out hi hp h1 h2)
        clear hi hp h1 h2 hx7 HStep HS6
        go_wp2
        go_roundw
        case rel => exact ⟨k + 1, A', cap', _, hlt2, by go_num, rfl, by rw [Hq.out]; congr 1; exact Hn'.out.symm, X7, HN⟩
        case measure => simp [intOf]; omega
      · rw [hc] at HIn HRk HCt
        obtain ⟨hb1, hb2⟩ := HxB.out hc
        have hn' : n' = n := by have := HCt.out; simpa using this
        have hmin : R.getD k 0 = min x (-1 - x) := by rw [HRk.out]; simp
        subst hn'
        clear HRk HCt HxB hc
        by_cases hx0 : (0 : Int) ≤ x
        · have hto : -1 - x = R.getD k 0 := by rw [hmin]; omega
          have hw1 : IntKind.i64.wrap (-1 - x) = -1 - x := by rw [IntKind.wrap_i64]; omega
          have Hto := hide hto
          clear hto hmin
          go_wp2_with fail
          refine HIn.out.mono ?_
          rintro e w5 ⟨rfl, rfl⟩
          go_wp2_with fail
          refine (HV16.out (-1 - x) w5).mono ?_
          rintro e w6 ⟨rfl, hx6⟩
          have HS6 := hide (HSet.out (-1 - x) w6 hx6)
          have X6 := hide (HX.out.trans hx6)
          clear hx6 HSet
          go_wp2_with fail
          refine HS6.out.out.mono ?_
          rintro e w7 ⟨⟨i, A', cap', rfl, hi, hp, h1, h2⟩, hx7⟩
          have X7 := hide (X6.out.trans hx7)
          have HN := hide (HStep.out _ w7 i A' cap' Hto.out hi hp h1 h2)
          clear hi hp h1 h2 hx7 HStep HS6
          go_wp2
          go_roundw
          case rel => exact ⟨k + 1, A', cap', _, hlt2, by go_num, rfl, by rw [Hq.out], X7, HN⟩
          case measure => simp [intOf]; omega
        · have hto : x = R.getD k 0 := by rw [hmin]; omega
          have hx1 : x < (0 : Int) := by omega
          have Hto := hide hto
          clear hto hmin
          go_wp2_with fail
          refine HIn.out.mono ?_
          rintro e w5 ⟨rfl, rfl⟩
          go_wp2_with fail
          refine (HV16.out x w5).mono ?_
          rintro e w6 ⟨rfl, hx6⟩
          have HS6 := hide (HSet.out x w6 hx6)
          have X6 := hide (HX.out.trans hx6)
          clear hx6 HSet
          go_wp2_with fail
          refine HS6.out.out.mono ?_
          rintro e w7 ⟨⟨i, A', cap', rfl, hi, hp, h1, h2⟩, hx7⟩
          have X7 := hide (X6.out.trans hx7)
          have HN := hide (HStep.out _ w7 i A' cap' Hto.out hi hp h1 h2)
          clear hi hp h1 h2 hx7 HStep HS6
          go_wp2
          go_roundw
          case rel => exact ⟨k + 1, A', cap', _, hlt2, by go_num, rfl, by rw [Hq.out], X7, HN⟩
          case measure => simp [intOf]; omega
    · have hge : ¬ (k : Int) < (L.length : Int) := by omega
      have hkL : k = L.length := by omega
      have e9 : L.take k = L := List.take_of_length_le (by omega)
      rw [e9]
      clear e9 HSl
      subst hkL
      have Hty := hide (HC.out.sets.put t HMem.out.1)
      have Hps : Hid (l.map (fun x => (x.cls, putP (vsP s) (tsP s) x.ty)) = l.map fun x => (x.cls, renP (rOf L R) x.ty)) := hide (List.map_congr_left (fun x hx => by rw [HC.out.sets.put x.ty (HMem.out.2 x hx)]))
      have hll : ∀ x ∈ l, legalT x.ty = true := fun x hx => by
        have := List.all_eq_true.1 hla x hx
        unfold pdB at this
        rw [Bool.and_eq_true] at this
        exact this.2
      have HRn := hide (r_renamed21 A8 c8 s t A cap l wr HC.out.prs (by omega) HC.out.sets.legal (HT.out.ext XR.out) (HL.out.ext XR.out) hlen hlt (HC.out.sets.small hlt HMem.out.1) (fun x hx => ⟨hll x hx, HC.out.sets.small (hll x hx) (HMem.out.2 x hx)⟩))
      have HAw := hide (HC.out.away)
      have C1 := hide (B1.out.ext (Y4.out.trans HX.out))
      have c0 := C1.out.c0
      have c1 := C1.out.c1
      have c2 := C1.out.c2
      have hbl := C1.out.lt
      clear hll HC
      unfold tyV at HRn
      go_wp2_with fail
      refine HRn.out.mono ?_
      rintro e w5 ⟨⟨u, v, ds, rfl, hr⟩, hx5⟩
      obtain ⟨A6, c6, rfl, p1, p2, p3, -⟩ := RowOf.own pdC (l := ds) hr.own
      obtain ⟨W6, hW6⟩ : ∃ W6, W6 = w5.alloc (.cells #[encStr u.con, .int .i64 u.var, .slice u.A u.args.length u.cap] 32) := ⟨_, rfl⟩
      have X56 : Hid (Ext w5 W6) := hide (by rw [hW6]; exact (Ext.refl _).alloc _)
      have U6 : Hid (TBox W6 w5.heap.size u) := hide (by rw [hW6]; exact TBox.new w5 u)
      have X6 := hide (XR.out.trans (hx5.trans X56.out))
      have Y6 := hide (Y4.out.trans (HX.out.trans (hx5.trans X56.out)))
      have HRr := hide hr
      have P3 := hide p3
      have hlo : w.heap.size + 1 < wr.heap.size := by have := (Y4.out.trans HX.out).size; have := lt_of_obj B2.out; omega
      clear hr p3 hx5 HRn c0 c1 c2 hbl C1
      go_upto_region 19 with fail
      rw [← hW6]
      clear hW6
      have c0 := U6.out.c0
      have c1 := U6.out.c1
      have c2 := U6.out.c2
      have hbl := U6.out.lt
      obtain ⟨k0, k1, k2, k3, k4, f0, f1, f2, f3, f4, hrl⟩ := zsc Y6.out B2.out
      obtain ⟨WF, hWF⟩ : ∃ WF, WF = ((((W6.setCell ⟨w.heap.size + 1, 0, none⟩ (.int .i64 (closeN keep L : Int))).setCell ⟨w.heap.size + 1, 1, none⟩ (.slice A6 ds.length c6)).setCell ⟨w.heap.size + 1, 2, none⟩ (encStr u.con)).setCell ⟨w.heap.size + 1, 3, none⟩ (.int .i64 u.var)).setCell ⟨w.heap.size + 1, 4, none⟩ (.slice u.A u.args.length u.cap) := ⟨_, rfl⟩
      have HEnd : Hid ((ScIn WF ⟨(closeN keep L : Int), A6, c6, ds, u⟩ ∧ CloseIs keep t l ⟨(closeN keep L : Int), A6, c6, ds, u⟩ ∧ ScOff w t l ⟨(closeN keep L : Int), A6, c6, ds, u⟩) ∧ Ext w WF) := hide (by
        have g : W6.grownBy WF (some (w.heap.size + 1)) := by rw [hWF]; exact grown5 W6 (w.heap.size + 1) _ _ _ _ _
        have ho := own_extB HRr.out.own X56.out
        have ho2 := ho.kept g (.inr (fun e => by have := (ho.lt _ e).1; omega))
        obtain ⟨A', c', e', q1, q2, q3, -⟩ := RowOf.own pdC (l := ds) ho2
        injection e' with a1 a2 a3
        subst a1 a3
        refine ⟨⟨⟨q1, q2, ⟨q3, fun d hd => ⟨?_, (HRr.out.dty d hd).ext X56.out |>.grown g (fun c e => by injection e with e; subst e; exact HRr.out.daway d hd _ hlo (fun x hx => away_new (HL.out.all x hx).ty (by omega)) (HAw.out _))⟩⟩, (HRr.out.ty.ext X56.out).grown g (fun c e => by injection e with e; subst e; exact HRr.out.away _ hlo (away_new HT.out (by omega)) (HAw.out _))⟩, ?_⟩, ?_⟩
        · have hm : (d.cls, d.ty.pure) ∈ ds.map (fun d => (d.cls, d.ty.pure)) := List.mem_map.2 ⟨d, hd, rfl⟩
          rw [HRr.out.dis] at hm
          obtain ⟨x, hx, ex⟩ := List.mem_map.1 hm
          have e1 : x.cls = d.cls := congrArg Prod.fst ex
          rw [← e1]
          exact (HL.out.all x hx).cls
        · refine ⟨⟨(fun hf => by rw [hlt, hla] at hf; cases hf), (fun _ => by rw [HLq.out]), (fun _ => by rw [HLq.out, ← HRe.out]; exact HRr.out.is.trans Hty.out), (fun _ => by rw [HLq.out, ← HRe.out]; exact HRr.out.dis.trans Hps.out)⟩, ⟨fun c hc h1 => HRr.out.away c (by omega) h1 (HAw.out c), fun d hd c hc h1 => HRr.out.daway d hd c (by omega) h1 (HAw.out c), fun _ a ha => by have h1 := own_blocks HRr.out.own a ha; show w.heap.size ≤ a.block; omega⟩⟩
        · rw [hWF]
          exact (((((X6.out.setCell (by simp) _).setCell (by simp) _).setCell (by simp) _).setCell (by simp) _).setCell (by simp) _))
      go_wp2
      rw [← hWF]
      refine bodyPost_ret (v := .agg #[.int .i64 (closeN keep L : Int), .slice A6 ds.length c6, encStr u.con, .int .i64 u.var, .slice u.A u.args.length u.cap]) ?_ rfl ⟨⟨⟨(closeN keep L : Int), A6, c6, ds, u⟩, rfl, HEnd.out.1.1, HEnd.out.1.2.1, HEnd.out.1.2.2⟩, HEnd.out.2⟩
      rw [hWF]
      simp [results, Tryz.f32, go_sem, k0, k1, k2, k3, k4]

end Go.Proofs.YtnomibjbjplieaaGreat
