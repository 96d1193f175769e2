/- Contracts: digits that are read; fixed types' names; of the program, and of the reference. -/
import Derived.Test.YtcnkfkjgpdmebaaGreatDoorJN8
import Derived.ScopeJumps
import Derived.WalkMore
import Derived.Deep.RegionHeld3
import Derived.Test.YtcnkfkjgpdmebaaGreatDoorProg
/- Contracts: digits that are read; fixed types' names; of the program, and of the reference. -/
namespace Go.Proofs.YtcnkfkjgpdmebaaGreatDoor
open Go.RowKit

theorem digB_lo {b : UInt8} (h : digB b = true) : 48 ≤ b.toNat ∧ b.toNat ≤ 57 := by unfold digB at h; simp at h; omega

end Go.Proofs.YtcnkfkjgpdmebaaGreatDoor

/- Contract: digits that are read, of the program. (A program of ours has printed a part.) -/
namespace Go.Proofs.YtcnkfkjgpdmebaaGreatDoor
open Go.RowKit

set_option maxRecDepth 10000 in
set_option maxHeartbeats 2000000 in
theorem i_read (s : Str) (w : World) (hl : s.length ≤ 9223372036854775807) : Calls Tryz.prog 234 #[encStr s] w fun e w' => e = .returned (.tuple #[.int .i64 (readI s).1, .int .i64 (readI s).2]) ∧ w' = w := by
  cases hd : s.all digB
  · have hR := readI_bad hd
    rw [hR]
    have HA : Hid ((s.drop 0).all digB = false) := hide hd
    clear hR hd
    go_enter Tryz.func234, Tryz.ntmps234
    go_wp2
    refine wp_scope_jumps 0 (fun _ _ => False) (fun _ _ => 0) rfl ?_ (fun _ _ h => h.elim)
    go_wp2
    go_loop [10] (fun i => ∃ k : Nat, k ≤ s.length ∧ i = .int .i64 k ∧ Hid ((s.drop k).all digB = false)) (fun i => s.length - (intOf i).toNat)
    case atStart => exact ⟨0, Nat.zero_le _, rfl, HA⟩
    case round =>
      obtain ⟨k, hk, rfl, HK⟩ := hrel
      by_cases hlt : k < s.length
      · have hlt' : (k : Int) < (s.length : Int) := by omega
        have hk0 : (0 : Int) ≤ (k : Int) := by omega
        have Hb : Hid (s.drop k = s[k]'hlt :: s.drop (k + 1)) := hide (List.drop_eq_getElem_cons hlt)
        have hb : s[k]'hlt = s[k]'hlt := rfl
        generalize hb2 : s[k]'hlt = b at *
        clear hb
        rw [Hb.out, List.all_cons] at HK
        have hz0 : (0 : Int) ≤ ((b.toNat : Nat) : Int) := by omega
        by_cases h48 : ((b.toNat : Nat) : Int) < 48
        · go_wp2
          simp only [Exit.jump]
          go_ret2
          exact ⟨rfl, rfl⟩
        · by_cases h57 : ((b.toNat : Nat) : Int) > 57
          · go_wp2
            simp only [Exit.jump]
            go_ret2
            exact ⟨rfl, rfl⟩
          · have hB : digB b = true := by unfold digB; simp; omega
            rw [hB] at HK
            go_wp2
            go_round
            case rel => exact ⟨k + 1, hlt, by go_num, hide (by simpa using HK.out)⟩
            case measure => simp [intOf]; omega
      · exfalso
        have := HK.out
        rw [List.drop_of_length_le (by omega)] at this
        cases this
  · have HD : Hid (∀ k (h : k < s.length), digB (s[k]'h) = true) := hide (fun k h => List.all_eq_true.1 hd _ (List.getElem_mem h))
    have HE : Hid (s = [] → readI s = (0, 5)) := hide (fun e => by rw [e]; rfl)
    have HS := hide (fun n (hne : s ≠ []) k => readI_some (s := s) (n := n) hne hd k)
    have HN := hide (fun (hne : s ≠ []) k => readI_none (s := s) hne hd k)
    have HG : Hid (readGo 0 (s.drop 0) = readGo 0 s) := hide rfl
    clear hd
    generalize readI s = R at *
    go_enter Tryz.func234, Tryz.ntmps234
    go_wp2
    refine wp_scope_jumps 0 (fun a' w' => w' = w ∧ ∃ (n j : Nat) (u1 u2 u3 u4 u7 u8 u9 u10 u11 u12 u13 u14 u15 u16 u17 u18 u19 u20 u21 u22 u23 u24 u25 u26 u27 u28 u29 u30 u31 u32 u33 u34 u35 u36 u37 u38 u39 u40 u41 u42 u43 u44 u45 u46 : Value), a' = { tmps := #[encStr s, u1, u2, u3, u4, .int .i64 (n : Nat), .int .i64 (j : Nat), u7, u8, u9, u10, u11, u12, u13, u14, u15, u16, u17, u18, u19, u20, u21, u22, u23, u24, u25, u26, u27, u28, u29, u30, u31, u32, u33, u34, u35, u36, u37, u38, u39, u40, u41, u42, u43, u44, u45, u46], defers := [] } ∧ j < s.length ∧ n ≤ 9223372036854775807 ∧ Hid (readGo n (s.drop j) = readGo 0 s)) (fun a' _ => s.length - (intOf (a'.tmps.getD 6 undef)).toNat) rfl ?_ ?_
    · go_wp2
      go_loop [10] (fun i => ∃ k : Nat, k ≤ s.length ∧ i = .int .i64 k) (fun i => s.length - (intOf i).toNat)
      case atStart => exact ⟨0, Nat.zero_le _, rfl⟩
      case round =>
        obtain ⟨k, hk, rfl⟩ := hrel
        by_cases hlt : k < s.length
        · have hlt' : (k : Int) < (s.length : Int) := by omega
          have hk0 : (0 : Int) ≤ (k : Int) := by omega
          have hB := digB_lo (HD.out k hlt)
          have hb : s[k]'hlt = s[k]'hlt := rfl
          generalize hb2 : s[k]'hlt = b at *
          clear hb
          have h48 : ¬ ((b.toNat : Nat) : Int) < 48 := by omega
          have h57 : ¬ ((b.toNat : Nat) : Int) > 57 := by omega
          go_wp2
          go_round
          case rel => exact ⟨k + 1, hlt, by go_num⟩
          case measure => simp [intOf]; omega
        · have hge : ¬ (k : Int) < (s.length : Int) := by omega
          cases h0 : (s == [])
          · have hne : s ≠ [] := by simpa using h0
            have hltj : 0 < s.length := List.length_pos_iff.2 hne
            have HS := hide (fun n k => HS.out n hne k)
            have HN := hide (fun k => HN.out hne k)
            clear hne
            have HK := HG
            go_wp2
            go_step3
            have hj0 : (0 : Int) ≤ (0 : Int) := by omega
            have hB := digB_lo (HD.out 0 hltj)
            have Hb : Hid (s.drop 0 = s[0]'hltj :: s.drop 1) := hide (List.drop_eq_getElem_cons hltj)
            have hb : s[0]'hltj = s[0]'hltj := rfl
            generalize hb2 : s[0]'hltj = b at *
            clear hb
            rw [Hb.out, readGo_cons] at HK
            have hz0 : (0 : Int) ≤ ((b.toNat : Nat) : Int) := by omega
            have e1 : ((b.toNat : Int) - 48) = (((b.toNat - 48) : Nat) : Int) := by omega
            rw [if_neg (by omega)] at HK
            have hq : ¬ (0 : Int) > (9223372036854775807 - ((b.toNat : Int) - 48)) / 10 := by omega
            have HF : Hid (readGo (b.toNat - 48) (s.drop 1) = readGo 0 s) := hide (by have := HK.out; simpa using this)
            by_cases hmore : 1 < s.length
            · have hm : (1 : Int) < (s.length : Int) := by omega
              have E1 := hide e1
              clear e1
              go_wp2
              go_step3
              simp only [Exit.then]
              rw [E1.out]
              exact ⟨rfl, rfl, (b.toNat - 48), 1, _, _, _, _, _, _, _, _, _, _, _, _, _, _, _, _, _, _, _, _, _, _, _, _, _, _, _, _, _, _, _, _, _, _, _, _, _, _, _, _, _, _, _, _, rfl, hmore, by omega, HF⟩
            · have hm : ¬ (1 : Int) < (s.length : Int) := by omega
              have hR := HS.out _ (by have := HF.out; rw [List.drop_of_length_le (by omega), readGo_nil] at this; exact this.symm)
              subst hR
              have E1 := hide e1
              clear e1
              go_wp2
              simp only [Exit.jump]
              go_ret2
              refine ⟨?_, rfl⟩
              rw [E1.out]
              rfl
          · have hs : s = [] := by simpa using h0
            have hR := HE.out hs
            clear hs
            subst hR
            go_wp2
            simp only [Exit.jump]
            go_ret2
            exact ⟨rfl, rfl⟩
    · rintro a' w' ⟨rfl, n, j, u1, u2, u3, u4, u7, u8, u9, u10, u11, u12, u13, u14, u15, u16, u17, u18, u19, u20, u21, u22, u23, u24, u25, u26, u27, u28, u29, u30, u31, u32, u33, u34, u35, u36, u37, u38, u39, u40, u41, u42, u43, u44, u45, u46, rfl, hltj, hn, HK⟩
      have hne : s ≠ [] := by intro e; rw [e] at hltj; simp at hltj
      have HS := hide (fun n k => HS.out n hne k)
      have HN := hide (fun k => HN.out hne k)
      clear hne
      have hj0 : (0 : Int) ≤ (j : Int) := by omega
      have hB := digB_lo (HD.out j hltj)
      have Hb : Hid (s.drop j = s[j]'hltj :: s.drop (j + 1)) := hide (List.drop_eq_getElem_cons hltj)
      have hb : s[j]'hltj = s[j]'hltj := rfl
      generalize hb2 : s[j]'hltj = b at *
      clear hb
      rw [Hb.out, readGo_cons] at HK
      have hz0 : (0 : Int) ≤ ((b.toNat : Nat) : Int) := by omega
      have e1 : 10 * (n : Int) + ((b.toNat : Int) - 48) = (((10 * n + (b.toNat - 48)) : Nat) : Int) := by omega
      by_cases hgt : n > (9223372036854775807 - (b.toNat - 48)) / 10
      · rw [if_pos hgt] at HK
        have hR := HN.out HK.out.symm
        subst hR
        have hq : (n : Int) > (9223372036854775807 - ((b.toNat : Int) - 48)) / 10 := by omega
        clear e1
        go_wp2
        simp only [Exit.jump]
        go_ret2
        exact ⟨rfl, rfl⟩
      · rw [if_neg hgt] at HK
        have hq : ¬ (n : Int) > (9223372036854775807 - ((b.toNat : Int) - 48)) / 10 := by omega
        have HF := HK
        by_cases hmore : (j + 1) < s.length
        · have hm : ((j : Int) + 1) < (s.length : Int) := by omega
          have E1 := hide e1
          clear e1
          go_wp2
          go_step3
          simp only [Exit.then]
          rw [E1.out]
          exact ⟨rfl, ⟨rfl, (10 * n + (b.toNat - 48)), (j + 1), _, _, _, _, _, _, _, _, _, _, _, _, _, _, _, _, _, _, _, _, _, _, _, _, _, _, _, _, _, _, _, _, _, _, _, _, _, _, _, _, _, _, _, _, rfl, hmore, by omega, HF⟩, by simp [intOf]; omega⟩
        · have hm : ¬ ((j : Int) + 1) < (s.length : Int) := by omega
          have hR := HS.out _ (by have := HF.out; rw [List.drop_of_length_le (by omega), readGo_nil] at this; exact this.symm)
          subst hR
          have E1 := hide e1
          clear e1
          go_wp2
          simp only [Exit.jump]
          go_ret2
          refine ⟨?_, rfl⟩
          rw [E1.out]
          rfl

end Go.Proofs.YtcnkfkjgpdmebaaGreatDoor

/- Contracts: whether a name is that of a fixed type; of the program, and of the reference. -/
namespace Go.Proofs.YtcnkfkjgpdmebaaGreatDoor
open Go.RowKit

theorem fixed_cons (b : UInt8) (d : Str) : fixedB (b :: d) = ((b == 33) && ((readI d).2 == 0) && (digs (readI d).1.toNat == d)) := by
  unfold fixedB
  rw [show ((b :: d == []) : Bool) = false from rfl, show (b :: d).headD 0 = b from rfl, show (b :: d).drop 1 = d from rfl]
  simp only [Bool.not_false, Bool.true_and]

set_option maxRecDepth 10000 in
set_option maxHeartbeats 2000000 in
theorem t_fixed (s : Str) (w : World) (hl : s.length ≤ 9223372036854775807) : Calls Tryz.prog 208 #[encStr s] w fun e w' => e = .returned (.bool (fixedB s)) ∧ Ext w w' := by
  have HP := hide (s_prefix s 33 w hl)
  cases s with
  | nil =>
    go_enter Tryz.func208, Tryz.ntmps208
    go_wp2_with fail
    refine HP.out.mono ?_
    rintro e w2 ⟨rfl, rfl⟩
    go_wp2
    go_ret
    exact ⟨rfl, Ext.refl _⟩
  | cons b d =>
    have hP : preB 33 (b :: d) = (b == 33) := rfl
    rw [hP] at HP
    have HF := hide (fixed_cons b d)
    cases hb : (b == 33)
    · rw [hb] at HP HF
      have hR : fixedB (b :: d) = false := by rw [HF.out]; rfl
      rw [hR]
      clear hR HF hP hb
      generalize b :: d = L at *
      go_enter Tryz.func208, Tryz.ntmps208
      go_wp2_with fail
      refine HP.out.mono ?_
      rintro e w2 ⟨rfl, rfl⟩
      go_wp2
      go_ret
      exact ⟨rfl, Ext.refl _⟩
    · rw [hb] at HP HF
      have hsl := fun w' => sl_from (b :: d) 1 1 (by simp) rfl w'
      rw [show (b :: d).drop 1 = d from rfl] at hsl
      have HR := hide (fun w' => hide (i_read d w' (by simp at hl; omega)))
      obtain ⟨n, hn⟩ : ∃ n : Nat, (readI d).1 = n := ⟨(readI d).1.toNat, by have := (readI_ok d).1; omega⟩
      have hn2 : n ≤ 9223372036854775807 := by have := (readI_ok d).2; omega
      have HT := hide (fun w' => hide (i_text n hn2 w'))
      rw [hn, Int.toNat_natCast] at HF
      rw [hn] at HR
      clear hn hP hb
      generalize fixedB (b :: d) = R at *
      generalize b :: d = L at *
      generalize (readI d).2 = E at *
      cases hE : (E == 0)
      · rw [hE] at HF
        have hR : R = false := by rw [HF.out]; rfl
        clear HF
        subst hR
        go_enter Tryz.func208, Tryz.ntmps208
        go_wp2_with fail
        refine HP.out.mono ?_
        rintro e w2 ⟨rfl, rfl⟩
        go_wp2_with fail
        refine (HR.out _).out.mono ?_
        rintro e w3 ⟨rfl, rfl⟩
        go_wp2
        go_quiet (fail)
        go_wp2
        go_ret
        exact ⟨rfl, (by repeat (first | exact Ext.refl _ | exact Ext.pre (by simp) | exact Ext.alloc (by assumption) _ | refine Ext.alloc ?_ _ |  refine Ext.more ?_ _ _ | refine Ext.drew ?_ | refine Ext.drewN ?_ _))⟩
      · rw [hE] at HF
        have hE0 : E = 0 := by simpa using hE
        clear hE
        subst hE0
        cases hq : (digs n == d)
        · have hR : R = false := by rw [HF.out, hq]; rfl
          clear HF
          subst hR
          generalize digs n = D at *
          go_enter Tryz.func208, Tryz.ntmps208
          go_wp2_with fail
          refine HP.out.mono ?_
          rintro e w2 ⟨rfl, rfl⟩
          go_wp2_with fail
          refine (HR.out _).out.mono ?_
          rintro e w3 ⟨rfl, rfl⟩
          go_wp2
          go_region_held3 (fun _ => True) (trivial) (first
            | (go_at_call 39
               refine Calls.mono (HT.out _).out ?_
               rintro e w4 ⟨rfl, hx4⟩
               have X4 := hide (((Ext.refl w3).drew).trans hx4)
               clear hx4))
          go_wp2
          go_ret
          exact ⟨rfl, X4.out⟩
        · have hR : R = true := by rw [HF.out, hq]; rfl
          clear HF
          subst hR
          generalize digs n = D at *
          go_enter Tryz.func208, Tryz.ntmps208
          go_wp2_with fail
          refine HP.out.mono ?_
          rintro e w2 ⟨rfl, rfl⟩
          go_wp2_with fail
          refine (HR.out _).out.mono ?_
          rintro e w3 ⟨rfl, rfl⟩
          go_wp2
          go_region_held3 (fun _ => True) (trivial) (first
            | (go_at_call 39
               refine Calls.mono (HT.out _).out ?_
               rintro e w4 ⟨rfl, hx4⟩
               have X4 := hide (((Ext.refl w3).drew).trans hx4)
               clear hx4))
          go_wp2
          go_ret
          exact ⟨rfl, X4.out⟩

end Go.Proofs.YtcnkfkjgpdmebaaGreatDoor

/- Contracts on names: whether a text is reserved, and which may be names. -/
namespace Go.Proofs.YtcnkfkjgpdmebaaGreatDoor
open Go.RowKit

def conB (s : Str) : Bool := !(s == []) && greatI ((s.headD 0).toNat : Nat) && goesB s

set_option maxRecDepth 10000 in
set_option maxHeartbeats 1000000 in
theorem n_con (s : Str) (w : World) (hl : s.length ≤ 9223372036854775807) : Calls Tryz.prog 139 #[encStr s] w fun e w' => e = .returned (.bool (conB s)) ∧ w' = w := by
  cases s with
  | nil =>
    go_enter Tryz.func139, Tryz.ntmps139
    go_wp2
    go_ret
    exact ⟨rfl, rfl⟩
  | cons b s =>
    have HC : Hid (conB (b :: s) = (greatI (b.toNat : Nat) && goesB (b :: s))) := hide rfl
    have HG := hide (fun w' => n_great (b.toNat : Nat) w')
    have HO := hide (fun w' => n_goes (b :: s) w' hl)
    generalize conB (b :: s) = R at *
    generalize greatI (b.toNat : Nat) = B1 at *
    generalize goesB (b :: s) = B2 at *
    cases B1
    · have hR : R = false := by rw [HC.out]; rfl
      clear HC
      subst hR
      go_enter Tryz.func139, Tryz.ntmps139
      go_wp2_with fail
      refine (HG.out _).mono ?_
      rintro e w1 ⟨rfl, rfl⟩
      go_wp2
      go_ret
      exact ⟨rfl, rfl⟩
    · have hR : R = B2 := by rw [HC.out]; rfl
      clear HC
      subst hR
      go_enter Tryz.func139, Tryz.ntmps139
      go_wp2_with fail
      refine (HG.out _).mono ?_
      rintro e w1 ⟨rfl, rfl⟩
      go_wp2_with fail
      refine (HO.out _).mono ?_
      rintro e w1 ⟨rfl, rfl⟩
      go_wp2
      go_ret
      exact ⟨rfl, rfl⟩


end Go.Proofs.YtcnkfkjgpdmebaaGreatDoor

/- Contracts: whether a type's head may be. -/
namespace Go.Proofs.YtcnkfkjgpdmebaaGreatDoor
open Go.RowKit

/-- May a head be? -/
def headOk (s : Str) (v : Int) (n : Nat) : Bool :=
  if s == [] then n == 0 else if s == [45, 62] then v == 0 && n == 2 else if fixedB s then v == 0 && n == 0 else v == 0 && conB s
/-- May a type be, of whatever size? -/
noncomputable def shapeT : Ty → Bool := Ty.allB fun t => headOk t.con t.var t.args.length
/-- Is a type a term? -/
noncomputable def legalT (t : Ty) : Bool := decide (t.size ≤ 4096) && decide (t.depth ≤ 100) && shapeT t

theorem hbox (W : World) (B : Nat) (s : Str) (v : Int) (n : Nat) (h : W.heap[B]? = some (.cells #[encStr s, .int .i64 v, .int .i64 n] 248 (0, 0))) : W.cell? ⟨B, 0, none⟩ = some (encStr s) ∧ W.cell? ⟨B, 1, none⟩ = some (.int .i64 v) ∧ W.cell? ⟨B, 2, none⟩ = some (.int .i64 n) :=
  ⟨bytes_block h 0, bytes_block h 1, bytes_block h 2⟩

set_option maxRecDepth 10000 in
set_option maxHeartbeats 2000000 in
theorem t_may (s : Str) (v : Int) (n : Nat) (w : World) (hl : s.length ≤ 9223372036854775807) : Calls Tryz.prog 172 #[.agg #[encStr s, .int .i64 v, .int .i64 n]] w fun e w' => e = .returned (.bool (headOk s v n)) ∧ Ext w w' := by
  obtain ⟨W, hW⟩ : ∃ W, W = w.alloc (.cells #[encStr s, .int .i64 v, .int .i64 n] 248) := ⟨_, rfl⟩
  have X0 : Hid (Ext w W) := hide (by rw [hW]; exact (Ext.refl w).alloc _)
  have HB : Hid (∀ w', Ext W w' → w'.cell? ⟨w.heap.size, 0, none⟩ = some (encStr s) ∧ w'.cell? ⟨w.heap.size, 1, none⟩ = some (.int .i64 v) ∧ w'.cell? ⟨w.heap.size, 2, none⟩ = some (.int .i64 n)) := hide (fun w' e => by
    obtain ⟨h0, h1, h2⟩ := hbox W w.heap.size s v n (by rw [hW]; exact at_newB _ _ _ rfl)
    exact ⟨e.cell h0, e.cell h1, e.cell h2⟩)
  have HO : Hid (headOk s v n = if s == [] then n == 0 else if s == [45, 62] then v == 0 && n == 2 else if fixedB s then v == 0 && n == 0 else v == 0 && conB s) := hide rfl
  have HF := hide (fun w' => hide (t_fixed s w' hl))
  have HC := hide (fun w' => hide (n_con s w' hl))
  have he1 : ∀ w' : World, (binOp .eql 248 (.agg #[encStr s, .int .i64 v, .int .i64 n]) (.agg #[.string ⟨#[45, 62]⟩, .int .i64 0, .int .i64 2])).run Tryz.prog w' = .ok (.bool (decide (s = [45, 62]) && decide (v = 0) && decide (n = 2))) w' := fun w' => run_head_eql w' s [45, 62] v 0 n 2
  have hg1 : ∀ w' : World, (eqGuard .eql 248 (.tmp 14) (.tmp 15) (.agg #[encStr s, .int .i64 v, .int .i64 n]) (.agg #[.string ⟨#[45, 62]⟩, .int .i64 0, .int .i64 2])).run Tryz.prog w' = .ok () w' := fun w' => run_eqGuard_agg w' _ _ _ _ _ _ (by kernel_rfl)
  have he2 : ∀ w' : World, (binOp .eql 248 (.agg #[encStr s, .int .i64 v, .int .i64 n]) (.agg #[encStr s, .int .i64 0, .int .i64 0])).run Tryz.prog w' = .ok (.bool (decide (s = s) && decide (v = 0) && decide (n = 0))) w' := fun w' => run_head_eql w' s s v 0 n 0
  have hg2 : ∀ w' : World, (eqGuard .eql 248 (.tmp 21) (.tmp 24) (.agg #[encStr s, .int .i64 v, .int .i64 n]) (.agg #[encStr s, .int .i64 0, .int .i64 0])).run Tryz.prog w' = .ok () w' := fun w' => run_eqGuard_agg w' _ _ _ _ _ _ (by kernel_rfl)
  obtain ⟨c0, c1, c2⟩ := HB.out W (Ext.refl W)
  generalize headOk s v n = R at *
  cases h0 : (s == [])
  · cases h1 : (s == [45, 62])
    · rw [h0, h1] at HO
      cases hf : fixedB s
      · rw [hf] at HO HF
        cases hv : (v == 0)
        · have hR : R = false := by rw [HO.out, hv]; rfl
          rw [hR]
          clear HO hR he1 hg1 he2 hg2
          go_enter Tryz.func172, Tryz.ntmps172
          go_wp2_with fail
          rw [← hW]
          clear hW
          refine (HF.out _).out.mono ?_
          rintro e w2 ⟨rfl, hx2⟩
          have X2 := hide hx2
          obtain ⟨d0, d1, d2⟩ := HB.out _ X2.out
          clear hx2
          go_wp2
          go_ret
          exact ⟨rfl, X0.out.trans X2.out⟩
        · have hR : R = conB s := by rw [HO.out, hv]; rfl
          rw [hR]
          clear HO hR he1 hg1 he2 hg2
          go_enter Tryz.func172, Tryz.ntmps172
          go_wp2_with fail
          rw [← hW]
          clear hW
          refine (HF.out _).out.mono ?_
          rintro e w2 ⟨rfl, hx2⟩
          have X2 := hide hx2
          obtain ⟨d0, d1, d2⟩ := HB.out _ X2.out
          clear hx2
          go_wp2_with fail
          refine (HC.out _).out.mono ?_
          rintro e w3 ⟨rfl, rfl⟩
          go_wp2
          go_ret
          exact ⟨rfl, X0.out.trans X2.out⟩
      · rw [hf] at HO HF
        have hR : R = (decide (s = s) && decide (v = 0) && decide (n = 0)) := by rw [HO.out, Bool.eq_iff_iff]; simp
        rw [hR]
        clear HO hR
        go_enter Tryz.func172, Tryz.ntmps172
        go_wp2_with fail
        rw [← hW]
        clear hW
        refine (HF.out _).out.mono ?_
        rintro e w2 ⟨rfl, hx2⟩
        have X2 := hide hx2
        obtain ⟨d0, d1, d2⟩ := HB.out _ X2.out
        clear hx2
        go_wp2
        go_ret
        exact ⟨rfl, X0.out.trans X2.out⟩
    · have hs : s = [45, 62] := by simpa using h1
      have hR : R = (decide (s = [45, 62]) && decide (v = 0) && decide (n = 2)) := by rw [HO.out, h0, h1, Bool.eq_iff_iff]; simp [hs]
      rw [hR]
      clear HO hR hs
      go_enter Tryz.func172, Tryz.ntmps172
      go_wp2
      rw [← hW]
      clear hW
      go_ret
      exact ⟨rfl, X0.out⟩
  · have hR : R = (n == 0) := by rw [HO.out, h0]; rfl
    rw [hR]
    clear HO hR
    go_enter Tryz.func172, Tryz.ntmps172
    go_wp2
    rw [← hW]
    clear hW
    go_ret
    exact ⟨congrArg (fun b => Ending.returned (.bool b)) (show ((n : Int) == 0) = (n == 0) by rw [Bool.eq_iff_iff]; simp), X0.out⟩

end Go.Proofs.YtcnkfkjgpdmebaaGreatDoor

/- Worlds in which nothing has turned but one block, and the block of a slice that is appended to. A function that may be entered. -/
namespace Go.Proofs.YtcnkfkjgpdmebaaGreatDoor
open Go.RowKit

/-- A call of a function's value enters it. -/
def Opens (f : FuncId) : Prop := ∀ args w, (callFunc f args).run Tryz.prog w = .ok (.enter f args) w

/-- From w to w' nothing has turned but block `c` and the block of what is told, which was `v` and is `v'`. -/
structure Tr (c : Nat) (w : World) (v : Value) (w' : World) (v' : Value) : Prop where
  os : w'.os = w.os
  tape : w'.tape = w.tape
  output : w'.output = w.output
  size : w.heap.size ≤ w'.heap.size
  blk : ∀ k, k < w.heap.size → k ≠ c → v.ownBlock ≠ some k → w'.heap[k]? = w.heap[k]?
  own : v'.ownBlock = v.ownBlock ∨ ∀ k, v'.ownBlock = some k → w.heap.size ≤ k
section
variable {c : Nat} {a b d w w' : World} {v v1 v2 v' : Value}
theorem Tr.trans (h : Tr c a v b v1) (k : Tr c b v1 d v2) : Tr c a v d v2 where
  os := k.os.trans h.os
  tape := k.tape.trans h.tape
  output := k.output.trans h.output
  size := Nat.le_trans h.size k.size
  blk i hi hc hv := (k.blk i (Nat.lt_of_lt_of_le hi h.size) hc (fun e => by
    rcases h.own with h1 | h1
    · exact hv (h1 ▸ e)
    · have := h1 i e; omega)).trans (h.blk i hi hc hv)
  own := by
    rcases k.own with k1 | k1
    · rcases h.own with h1 | h1
      · exact .inl (k1.trans h1)
      · exact .inr (fun i hi => h1 i (k1 ▸ hi))
    · exact .inr (fun i hi => Nat.le_trans h.size (k1 i hi))
theorem Tr.of_ext (e : Ext w w') : Tr c w v w' v :=
  ⟨e.below.os, e.below.tape, e.below.output, e.size, fun _ hk _ _ => e.heap hk, .inl rfl⟩
theorem Tr.refl (c : Nat) (w : World) (v : Value) : Tr c w v w v := Tr.of_ext (Ext.refl w)
/-- What lies below is as it was. -/
theorem Tr.below {B : Nat} (h : Tr c w v w' v') (hB : B ≤ w.heap.size) (hc : B ≤ c) (hv : ∀ k, v.ownBlock = some k → B ≤ k) : Below B w w' :=
  ⟨h.os, h.tape, h.output, h.size, fun k hk => h.blk k (by omega) (by omega) (fun e => by have := hv k e; omega)⟩
end

end Go.Proofs.YtcnkfkjgpdmebaaGreatDoor
