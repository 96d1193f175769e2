/- Contracts: marking what is reached; what is reached from a vertex. -/
import Derived.Test.YtnbnhchgkbbiiaaGrB
namespace Go.Proofs.Ytnbnhchgkbbiiaa
open Go.RowKit

def succOf (ts : List SlV) (v : Nat) : List Nat := ((ts.getD v ⟨.slice none 0 0, []⟩).l).map Int.toNat
/-- All that is led to are vertices. -/
def AllIn (ts : List SlV) : Prop := ∀ s ∈ ts, ∀ y ∈ s.l, 0 ≤ y ∧ y < (ts.length : Int)

set_option maxRecDepth 10000 in
set_option maxHeartbeats 4000000 in
theorem g_from (ty : TypeId) (mb b : Nat) (ts : List SlV) (base : Nat) (hmb : mb < base) (hN : ts.length ≤ 1000) (hin : AllIn ts) : ∀ (c : Nat) (M : Nat → Bool) (v : Nat) (w : World), holes M ts.length = c → v < ts.length →
    TosI 31 3 base w b ts → Marks ty w mb M →
    Calls Try.prog 46 #[.pointer (some ⟨mb, 0, none⟩), .slice (some ⟨b, 0, none⟩) ts.length ts.length, .int .i64 v] w fun e w' => e = .returned (.tuple #[]) ∧ w.grownBy w' (some mb) ∧ ∃ M', Marks ty w' mb M' ∧ Dfs (succOf ts) M M' v (succOf ts v) := by
  intro c
  induction c using Nat.strongRecOn with
  | _ c ih =>
    intro M v w hc hv hT hM
    obtain ⟨A1, c1, he, hc1, hc2, hrow, hblk⟩ := Ints.own (hT.own v hv)
    have hcell := hT.cell hv
    rw [he] at hcell
    have hmlt : mb < w.heap.size := lt_of_obj hM
    have hblt := hT.lt
    have hbge := hT.ge
    have Hrow := hide hrow
    have Hblk := hide hblk
    have hs : succOf ts v = ((ts[v]'hv).l).map Int.toNat := by unfold succOf; simp [hv]
    have Hs := hide hs
    have Hl := hide (hin _ (List.getElem_mem hv))
    have hv' : (v : Int) < (ts.length : Int) := by omega
    have hv0 : (0 : Int) ≤ (v : Int) := by omega
    have HT := hide hT
    have HM := hide hM
    have HC := hide hc
    have HI := hide ih
    clear hT hM he hrow hs hin ih hc hblk
    generalize (ts[v]'hv).l = L at *
    have Hfin : Hid ((L.map Int.toNat).take L.length = succOf ts v) := hide (by rw [Hs.out]; exact List.take_of_length_le (by simp))
    go_enter Try.func46, Try.ntmps46
    go_wp2
    go_loopw [13] (fun i wr => ∃ (k : Nat), k ≤ L.length ∧ i = .int .i64 k ∧ Hid (w.grownBy wr (some mb)) ∧ Hid (∃ M1, Marks ty wr mb M1 ∧ Dfs (succOf ts) M M1 v ((L.map Int.toNat).take k))) (fun i _ => L.length - (intOf i).toNat)
    case atStart => exact ⟨0, Nat.zero_le _, rfl, hide (World.grownBy.refl _ _), hide ⟨M, HM.out, Dfs.start _ _ _⟩⟩
    case round =>
      obtain ⟨k, hk, rfl, HG, HD⟩ := hrel
      by_cases hlt : k < L.length
      · obtain ⟨M1, hM1, hD1⟩ := HD.out
        have hmr : mb < wr.heap.size := by have := HG.out.size; omega
        have HR : Hid (Ints wr A1 L) := hide (Row.keep Hrow.out HG.out.size (fun b o e hb => HG.out.block b hb (fun h => by have := (Hblk.out b o e).1; injection h with h; omega)))
        obtain ⟨b1, o1, rfl, hb1, q1⟩ := HR.out.at_ hlt
        have hlt' : (k : Int) < (L.length : Int) := by omega
        obtain ⟨hu0, hu1⟩ := Hl.out _ (List.getElem_mem hlt)
        obtain ⟨u, hu⟩ := Int.eq_ofNat_of_zero_le hu0
        have Htk : Hid ((L.map Int.toNat).take (k + 1) = (L.map Int.toNat).take k ++ [u]) := hide (by
          rw [List.take_succ_eq_append_getElem (by simpa using hlt)]
          simp [hu])
        have Hmem : Hid (u ∈ succOf ts v) := hide (by
          rw [Hs.out, List.mem_map]
          exact ⟨_, List.getElem_mem hlt, by rw [hu]; simp⟩)
        rw [hu] at q1 hu1
        clear hu hu0
        have huN : u < ts.length := by omega
        have hu2 : (u : Int) < 1000 := by omega
        have hu3 : (0 : Int) ≤ (u : Int) := by omega
        have hcm := hM1.cell (j := u) (by omega)
        have hfm := hM1.free u
        have HM1 := hide hM1
        have HD1 := hide hD1
        clear HD hM1 hD1 hu1
        cases hMu : M1 u
        · rw [hMu] at hcm
          have HT3 : Hid (TosI 31 3 base (wr.setCell ⟨mb, u, none⟩ (.bool true)) b ts) := hide (HT.out.keep (grown_trans HG.out (grown_set _ _ _ _)) (by intro j h; injection h with h; omega))
          have HM3 := hide (HM1.out.set u)
          have Hh : Hid (holes (fun i => i == u || M1 i) ts.length < c) := hide (by
            have h1 := holes_set hMu ts.length huN
            have h2 := holes_mono HD1.out.sub ts.length
            have h3 := HC.out
            omega)
          have Hcall := hide (HI.out _ Hh.out _ u _ rfl huN HT3.out HM3.out)
          have HG3 : Hid (w.grownBy (wr.setCell ⟨mb, u, none⟩ (.bool true)) (some mb)) := hide (grown_trans HG.out (grown_set _ _ _ _))
          clear hMu
          go_wp2_with fail
          refine Hcall.out.mono ?_
          rintro e w3 ⟨rfl, hg3, M3, hM3, hD3⟩
          have HM4 := hide hM3
          have HD4 := hide (HD1.out.go Hmem.out hD3)
          have HG4 := hide (grown_trans HG3.out hg3)
          clear hg3 hM3 hD3
          go_wp2
          go_roundw
          case rel => exact ⟨k + 1, hlt, by go_num, HG4, hide ⟨M3, HM4.out, by rw [Htk.out]; exact HD4.out⟩⟩
          case measure => simp [intOf]; omega
        · rw [hMu] at hcm
          have HD4 := hide (HD1.out.skip hMu)
          clear hMu
          go_wp2
          go_roundw
          case rel => exact ⟨k + 1, hlt, by go_num, HG, hide ⟨M1, HM1.out, by rw [Htk.out]; exact HD4.out⟩⟩
          case measure => simp [intOf]; omega
      · have hge : (L.length : Int) ≤ (k : Int) := by omega
        have hkl : k = L.length := by omega
        obtain ⟨M1, hM1, hD1⟩ := HD.out
        rw [hkl, Hfin.out] at hD1
        have HM1 := hide hM1
        have HD1 := hide hD1
        clear HD hM1 hD1 hkl
        go_wp2
        go_end0
        exact ⟨rfl, HG.out, M1, HM1.out, HD1.out⟩

end Go.Proofs.Ytnbnhchgkbbiiaa
