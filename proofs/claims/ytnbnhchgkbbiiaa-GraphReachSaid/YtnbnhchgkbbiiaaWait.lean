/- Contract: whether a group leads to another one that is not told yet. -/
import Derived.Test.YtnbnhchgkbbiiaaVisA
import Derived.Test.YtnbnhchgkbbiiaaOrdB
namespace Go.Proofs.Ytnbnhchgkbbiiaa
open Go.RowKit

/-- `w'` is `w`, with more drawn. -/
def Drw (w w' : World) : Prop := ∃ d, w' = w.drewN d
theorem Drw.refl (w : World) : Drw w w := ⟨0, rfl⟩
theorem Drw.on {w a : World} (h : Drw w a) (n : Nat) : Drw w (a.drewN n) := by
  obtain ⟨d, rfl⟩ := h
  exact ⟨d + n, by rw [World.drewN_drewN]⟩
theorem Drw.trans {a b c : World} (h : Drw a b) (k : Drw b c) : Drw a c := by
  obtain ⟨d, rfl⟩ := k
  exact h.on d
theorem Drw.ext {w w' : World} (h : Drw w w') : Ext w w' := by
  obtain ⟨d, rfl⟩ := h
  exact (Ext.refl w).drewN d
theorem any_drop {α : Type} (p : α → Bool) (l : List α) {k : Nat} (h : k < l.length) : (l.drop k).any p = (p (l[k]'h) || (l.drop (k + 1)).any p) := by
  rw [List.drop_eq_getElem_cons h]; rfl

/-- What the search has left, to be read: where each vertex leads, and its group. -/
structure Left (ty int tos : TypeId) (base : Nat) (w : World) (wb b : Nat) (ts : List SlV) (grp : Nat → Nat) : Prop where
  blk : ∃ r, Wk ty w wb r ∧ r.to = .slice (some ⟨b, 0, none⟩) ts.length ts.length ∧ r.group = grp
  to : w.heap[b]? = some (.cells (ts.map (·.val)).toArray tos (0, 0))
  rows : ∀ i (h : i < ts.length), ∃ A cap, (ts[i]'h).val = .slice A (ts[i]'h).l.length cap ∧ (ts[i]'h).l.length ≤ cap ∧ cap ≤ 9223372036854775807 ∧ Ints w A (ts[i]'h).l
section
variable {ty int tos : TypeId} {base : Nat} {w w' : World} {wb b : Nat} {ts : List SlV} {grp : Nat → Nat}
theorem Left.ext (h : Left ty int tos base w wb b ts grp) (e : Ext w w') : Left ty int tos base w' wb b ts grp := by
  obtain ⟨r, h1, h2, h3⟩ := h.blk
  refine ⟨⟨r, h1.keep (e.heap h1.lt), h2, h3⟩, (e.heap (lt_of_obj h.to)).trans h.to, fun i hi => ?_⟩
  obtain ⟨A, cap, g1, g2, g3, g4⟩ := h.rows i hi
  exact ⟨A, cap, g1, g2, g3, RowOf.ext intC g4 e⟩
theorem Left.cell (h : Left ty int tos base w wb b ts grp) {v : Nat} (hv : v < 1000) : w.cell? ⟨wb, 3004 + v, none⟩ = some (.int .i64 (grp v : Int)) := by
  obtain ⟨r, h1, h2, rfl⟩ := h.blk
  exact h1.group_ hv
theorem Left.to_ (h : Left ty int tos base w wb b ts grp) : w.cell? ⟨wb, 0, none⟩ = some (.slice (some ⟨b, 0, none⟩) ts.length ts.length) := by
  obtain ⟨r, h1, h2, h3⟩ := h.blk
  rw [h1.to_, h2]
theorem Left.row (h : Left ty int tos base w wb b ts grp) {v : Nat} (hv : v < ts.length) : ∃ A cap, w.cell? ⟨b, v, none⟩ = some (.slice A (ts[v]'hv).l.length cap) ∧ (ts[v]'hv).l.length ≤ cap ∧ cap ≤ 9223372036854775807 ∧ Ints w A (ts[v]'hv).l := by
  obtain ⟨A, cap, g1, g2, g3, g4⟩ := h.rows v hv
  refine ⟨A, cap, ?_, g2, g3, g4⟩
  rw [← g1]
  simp [World.cell?, h.to, hv]
theorem Left.free (h : Left ty int tos base w wb b ts grp) (i : Nat) : w.frozen? ⟨wb, i, none⟩ = false := by
  obtain ⟨r, h1, h2, h3⟩ := h.blk
  exact h1.free i
theorem Left.keep (h : Left ty int tos base w wb b ts grp) {B : Nat} (k : Below B w w') (h1 : wb < B) (h2 : b < B) (h3 : ∀ i (hi : i < ts.length), ∀ c o n cap, (ts[i]'hi).val = .slice (some ⟨c, o, none⟩) n cap → c < B) : Left ty int tos base w' wb b ts grp := by
  obtain ⟨r, k1, k2, k3⟩ := h.blk
  refine ⟨⟨r, k1.keep (k.block wb h1), k2, k3⟩, (k.block b h2).trans h.to, fun i hi => ?_⟩
  obtain ⟨A, cap, g1, g2, g3, g4⟩ := h.rows i hi
  exact ⟨A, cap, g1, g2, g3, Row.keep g4 k.size (fun c o e hb => k.block c (h3 i hi c o _ _ (e ▸ g1)))⟩
end
theorem Marks.ext {ty : TypeId} {w w' : World} {mb : Nat} {M : Nat → Bool} (h : Marks ty w mb M) (e : Ext w w') : Marks ty w' mb M := (e.heap (lt_of_obj h)).trans h

set_option maxRecDepth 10000 in
set_option maxHeartbeats 4000000 in
theorem g_waits (base wb b mb n g cap : Nat) (A : Option Addr) (ts : List SlV) (grp : Nat → Nat) (told : Nat → Bool) (ms : List Nat) (w : World) (hts : ts.length = n) (hn : n ≤ 1000) (hin : AllIn ts)
    (hL : Left 70 3 31 base w wb b ts grp) (hM : Marks 68 w mb told) (hA : Ints w A (zs ms)) (hms : ∀ x ∈ ms, x < n) (hml : ms.length ≤ 1000) (hg : ∀ x, x < n → grp x < 1000) :
    Calls Try.prog 42 #[.pointer (some ⟨wb, 0, none⟩), .int .i64 g, .slice A ms.length cap, .pointer (some ⟨mb, 0, none⟩)] w fun e w' =>
      e = .returned (.bool (ms.any fun v => (succOf ts v).any fun u => grp u != g && !told (grp u))) ∧ Drw w w' := by
  have HL := hide hL
  have HM := hide hM
  have HA := hide hA
  have Hms := hide hms
  have Hg := hide hg
  have Hin := hide hin
  have HQ : Hid (∀ v (hv : v < ts.length), succOf ts v = ((ts[v]'hv).l).map Int.toNat) := hide (fun v hv => by unfold succOf; simp [hv])
  generalize hQf : (fun u => grp u != g && !told (grp u)) = Q at *
  have HQd : Hid (∀ u, Q u = (grp u != g && !told (grp u))) := hide (fun u => by rw [← hQf])
  clear hL hM hA hms hg hin hQf
  generalize hPf : (fun v => (succOf ts v).any Q) = P at *
  have HPd : Hid (∀ v, P v = (succOf ts v).any Q) := hide (fun v => by rw [← hPf])
  clear hPf
  have HR0 : Hid ((ms.drop 0).any P = ms.any P) := hide rfl
  generalize ms.any P = R at *
  go_enter Try.func42, Try.ntmps42
  go_wp2
  go_loopw [15] (fun i wr => ∃ k : Nat, k ≤ ms.length ∧ i = .int .i64 k ∧ Hid (Drw w wr) ∧ Hid ((ms.drop k).any P = R)) (fun i _ => ms.length - (intOf i).toNat)
  case atStart => exact ⟨0, Nat.zero_le _, rfl, hide (Drw.refl _), HR0⟩
  case round =>
    obtain ⟨k, hk, rfl, HX, HK⟩ := hrel
    by_cases hlt : k < ms.length
    · have hlz : k < (zs ms).length := by rw [zs_len]; exact hlt
      obtain ⟨b1, o1, rfl, hb1, q1⟩ := Ints.at_ (RowOf.ext intC HA.out HX.out.ext) hlz
      rw [zs_get _ hlz hlt] at q1
      have hlt' : (k : Int) < (ms.length : Int) := by omega
      have hvn := Hms.out _ (List.getElem_mem hlt)
      have HK1 : Hid ((P (ms[k]'hlt) || (ms.drop (k + 1)).any P) = R) := hide (by rw [← any_drop]; exact HK.out)
      generalize ms[k]'hlt = v at *
      have hvt : v < ts.length := by omega
      have hv1 : (v : Int) < (ts.length : Int) := by omega
      have hv0 : (0 : Int) ≤ (v : Int) := by omega
      have HL1 := hide (HL.out.ext HX.out.ext)
      have hto := HL1.out.to_
      obtain ⟨A2, c2, q2, h2a, h2b, h2c⟩ := HL1.out.row hvt
      have Hr2 := hide h2c
      have Hsv := hide (HQ.out v hvt)
      have Hl2 := hide (Hin.out _ (List.getElem_mem hvt))
      clear h2c
      generalize (ts[v]'hvt).l = L at *
      have HK2 : Hid ((((L.map Int.toNat).drop 0).any Q || (ms.drop (k + 1)).any P) = R) := hide (by
        have := HK1.out
        rw [HPd.out v, Hsv.out] at this
        exact this)
      have hwr : wb < wr.heap.size := by obtain ⟨r, h1, _⟩ := HL1.out.blk; exact h1.lt
      go_wp2
      go_loopw [27] (fun i wr' => ∃ j : Nat, j ≤ L.length ∧ i = .int .i64 j ∧ Hid (Drw wr wr') ∧ Hid ((((L.map Int.toNat).drop j).any Q || (ms.drop (k + 1)).any P) = R)) (fun i _ => L.length - (intOf i).toNat)
      case atStart => exact ⟨0, Nat.zero_le _, rfl, hide (Drw.refl _), HK2⟩
      case round =>
        obtain ⟨j, hj, rfl, HX2, HJ⟩ := hrel
        by_cases hlt2 : j < L.length
        · obtain ⟨b3, o3, rfl, hb3, q3⟩ := Ints.at_ (RowOf.ext intC Hr2.out HX2.out.ext) hlt2
          have hlt2' : (j : Int) < (L.length : Int) := by omega
          obtain ⟨hu0, hu1⟩ := Hl2.out _ (List.getElem_mem hlt2)
          obtain ⟨u, hu⟩ := Int.eq_ofNat_of_zero_le hu0
          have HJ1 : Hid ((Q u || (((L.map Int.toNat).drop (j + 1)).any Q || (ms.drop (k + 1)).any P)) = R) := hide (by
            have h1 := any_drop Q (L.map Int.toNat) (k := j) (by simpa using hlt2)
            have h2 : (L.map Int.toNat)[j]'(by simpa using hlt2) = u := by simp [hu]
            rw [h2] at h1
            rw [← Bool.or_assoc, ← h1]
            exact HJ.out)
          rw [hu] at q3 hu1
          clear hu hu0
          have hu2 : u < n := by omega
          have hu3 : (u : Int) < 1000 := by omega
          have hu4 : (0 : Int) ≤ (u : Int) := by omega
          have hgu := Hg.out u hu2
          have hq4 := (HL1.out.ext HX2.out.ext).cell (v := u) (by omega)
          have hq5 := (HM.out.ext (HX.out.trans HX2.out).ext).cell hgu
          have HJ2 : Hid (Q u = (grp u != g && !told (grp u))) := hide (HQd.out u)
          generalize grp u = gu at *
          generalize told gu = tg at *
          have hg1 : (gu : Int) < 1000 := by omega
          have hg0 : (0 : Int) ≤ (gu : Int) := by omega
          by_cases hgg : gu = g
          · have hQ : Q u = false := by rw [HJ2.out]; simp [hgg]
            have hd : ((gu : Int) == (g : Int)) = true := by simp; omega
            have hd2 : ((gu : Int) != (g : Int)) = false := by simp; omega
            have HQu := hide hQ
            clear hQ
            subst hgg
            go_wp2
            go_quiet (fail)
            go_wp2
            go_roundw
            case rel => exact ⟨j + 1, hlt2, by go_num, hide (HX2.out.on _), hide (by have := HJ1.out; rw [HQu.out, Bool.false_or] at this; exact this)⟩
            case measure => simp [intOf]; omega
          · have hd : ((gu : Int) == (g : Int)) = false := by simp; omega
            have hd2 : ((gu : Int) != (g : Int)) = true := by simp; omega
            have hd3 : (gu == g) = false := by simpa using hgg
            have hd4 : (gu != g) = true := by simpa using hgg
            cases tg
            · have hR : R = true := by
                have := HJ1.out
                rw [HJ2.out, hd4] at this
                simpa using this.symm
              clear HJ2 HJ1 HJ HK2 HK1 HK HPd HQd HR0
              subst hR
              go_wp2
              go_quiet (fail)
              go_wp2
              go_ret
              exact ⟨rfl, (HX.out.trans HX2.out).on _⟩
            · have HQu : Hid (Q u = false) := hide (by rw [HJ2.out]; simp)
              go_wp2
              go_quiet (fail)
              go_wp2
              go_roundw
              case rel => exact ⟨j + 1, hlt2, by go_num, hide (HX2.out.on _), hide (by have := HJ1.out; rw [HQu.out, Bool.false_or] at this; exact this)⟩
              case measure => simp [intOf]; omega
        · have hge : (L.length : Int) ≤ (j : Int) := by omega
          have HK3 : Hid ((ms.drop (k + 1)).any P = R) := hide (by
            have := HJ.out
            rw [List.drop_eq_nil_of_le (by simp; omega)] at this
            simpa using this)
          go_wp2
          go_roundw
          case rel => exact ⟨k + 1, hlt, by go_num, hide (HX.out.trans HX2.out), HK3⟩
          case measure => simp [intOf]; omega
    · have hge : (ms.length : Int) ≤ (k : Int) := by omega
      have hR : R = false := by
        have := HK.out
        rw [List.drop_eq_nil_of_le (by omega)] at this
        simpa using this.symm
      clear HK HPd HQd HR0
      subst hR
      go_wp2
      go_ret
      exact ⟨rfl, HX.out⟩

end Go.Proofs.Ytnbnhchgkbbiiaa
