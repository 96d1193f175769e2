/- Contract: whether a type is a term. -/
import Derived.Test.YtmjiljhcjfnfpaaGreatJS10
import Derived.Deep.Cut
import Derived.WalkSpells
import Derived.WalkLawsBesides
import Derived.Deep.QuietTactic
import Derived.BigQuiet
/- Contract: whether a type is a term. -/
namespace Go.Proofs.YtmjiljhcjfnfpaaGreat
open Go.RowKit Go.Shelf

set_option maxRecDepth 10000 in
set_option maxHeartbeats 2000000 in
theorem t_legal1 (t : Ty) (d n c : Nat) (w : World) (h : TyIn w t) (hc : w.heap[c]? = some (.cells #[.int .i64 n] 3 (0, 0))) (hn : n ≤ 1000000) :
    Calls Tryz.prog 69 #[tyV t, .int .i64 d, .pointer (some ⟨c, 0, none⟩)] w fun e w' => e = .returned (.bool (decide (n + 1 ≤ 4096) && decide (d ≤ 100) && headOk t.con t.var t.args.length)) ∧
      w'.heap[c]? = some (.cells #[.int .i64 ((n + 1 : Nat) : Int)] 3 (0, 0)) ∧ Tr c w (.bool false) w' (.bool false) := by
  have hlt := lt_of_obj hc
  have X0 : Ext w (w.alloc (.cells #[encStr t.con, .int .i64 t.var, .slice t.A t.args.length t.cap] 25)) := (Ext.refl w).alloc _
  have hc1 := (X0.heap hlt).trans hc
  have hcell : (w.alloc (.cells #[encStr t.con, .int .i64 t.var, .slice t.A t.args.length t.cap] 25)).cell? ⟨c, 0, none⟩ = some (.int .i64 n) := bytes_block hc1 0
  have hfree : (w.alloc (.cells #[encStr t.con, .int .i64 t.var, .slice t.A t.args.length t.cap] 25)).frozen? ⟨c, 0, none⟩ = false := free_block hc1 0
  have hs1 : (w.setCell ⟨c, 0, none⟩ (.int .i64 ((n : Int) + 1))).heap.size = w.heap.size := by simp [World.setCell]
  obtain ⟨W, hW⟩ : ∃ W, W = (w.setCell ⟨c, 0, none⟩ (.int .i64 ((n : Int) + 1))).alloc (.cells #[encStr t.con, .int .i64 t.var, .slice t.A t.args.length t.cap] 25) := ⟨_, rfl⟩
  have HC : Hid (W.heap[c]? = some (.cells #[.int .i64 ((n + 1 : Nat) : Int)] 3 (0, 0))) := hide (by
    have h1 := blk_setCell hc 0 (.int .i64 ((n : Int) + 1))
    rw [hW]
    exact (((Ext.refl _).alloc _).heap (by rw [hs1]; exact hlt)).trans h1)
  have HT : Hid (Tr c w (.bool false) W (.bool false)) := hide (by
    have h1 : Tr c w (.bool false) (w.setCell ⟨c, 0, none⟩ (.int .i64 ((n : Int) + 1))) (.bool false) := ⟨rfl, rfl, rfl, by rw [hs1]; exact Nat.le_refl _, fun k _ hk _ => Below.heap_setCell _ ⟨c, 0, none⟩ _ k hk, .inl rfl⟩
    rw [hW]
    exact h1.trans (Tr.of_ext ((Ext.refl _).alloc _)))
  have HB : Hid (TBox W w.heap.size t) := hide (by
    have := TBox.new (w.setCell ⟨c, 0, none⟩ (.int .i64 ((n : Int) + 1))) t
    rw [hs1] at this
    rw [hW]
    exact this)
  have HcW := hide (show W.cell? ⟨c, 0, none⟩ = some (.int .i64 ((n : Int) + 1)) from bytes_block HC.out 0)
  have HW := hide hW
  clear hW
  have HO := hide (fun w' => hide (t_of t w'))
  have HM := hide (fun w' => hide (t_may t.con t.var t.args.length w' h.txt))
  clear h hc hc1 X0
  generalize headOk t.con t.var t.args.length = R at *
  unfold tyV headV at *
  by_cases h1 : n + 1 ≤ 4096
  · by_cases h2 : d ≤ 100
    · have hR : (decide (n + 1 ≤ 4096) && decide (d ≤ 100) && R) = R := by simp [h1, h2]
      rw [hR]
      clear hR
      go_enter Tryz.func69, Tryz.ntmps69
      go_upto_region 2 with fail
      rw [← HW.out]
      clear hcell hfree
      have hcW := HcW.out
      have b0 := HB.out.c0
      have b1 := HB.out.c1
      have b2 := HB.out.c2
      have h1' : (decide (((n : Int) + 1) ≤ 4096)) = true := by simp; omega
      have h2' : (decide ((d : Int) ≤ 100)) = true := by simp; omega
      clear h1 h2
      go_wp2_with fail
      refine (HO.out _).out.mono ?_
      rintro e w2 ⟨rfl, hx2⟩
      have X2 := hide hx2
      clear hx2
      go_wp2_with fail
      refine (HM.out _).out.mono ?_
      rintro e w3 ⟨rfl, hx3⟩
      have X3 := hide (X2.out.trans hx3)
      clear hx3
      go_wp2
      go_ret
      exact ⟨rfl, (X3.out.heap (lt_of_obj HC.out)).trans HC.out, HT.out.trans (Tr.of_ext X3.out)⟩
    · have hR : (decide (n + 1 ≤ 4096) && decide (d ≤ 100) && R) = false := by simp [h2]
      rw [hR]
      clear hR
      go_enter Tryz.func69, Tryz.ntmps69
      go_upto_region 2 with fail
      rw [← HW.out]
      clear hcell hfree
      have hcW := HcW.out
      have b0 := HB.out.c0
      have b1 := HB.out.c1
      have b2 := HB.out.c2
      have h1' : (decide (((n : Int) + 1) ≤ 4096)) = true := by simp; omega
      have h2' : (decide ((d : Int) ≤ 100)) = false := by simp; omega
      clear h1 h2
      go_wp2
      go_ret
      exact ⟨rfl, HC.out, HT.out⟩
  · have hR : (decide (n + 1 ≤ 4096) && decide (d ≤ 100) && R) = false := by simp [h1]
    rw [hR]
    clear hR
    go_enter Tryz.func69, Tryz.ntmps69
    go_upto_region 2 with fail
    rw [← HW.out]
    clear hcell hfree
    have hcW := HcW.out
    have b0 := HB.out.c0
    have b1 := HB.out.c1
    have b2 := HB.out.c2
    have h1' : (decide (((n : Int) + 1) ≤ 4096)) = false := by simp; omega
    clear h1
    go_wp2
    go_ret
    exact ⟨rfl, HC.out, HT.out⟩

theorem tlegal1_opens : Opens 69 := enters_of Tryz.func69 (by kernel_rfl) rfl
def okP (p : Nat × Ty) : Bool := decide (p.1 ≤ 100) && headOk p.2.con p.2.var p.2.args.length
theorem legalT_lev (t : Ty) : legalT t = true ↔ ((t.lev 1).length ≤ 4096 ∧ ∀ p ∈ t.lev 1, okP p = true) := by
  unfold legalT shapeT
  rw [allB_lev _ t 1, tlev_len]
  simp only [Bool.and_eq_true, decide_eq_true_eq, List.all_eq_true, okP]
  have hl := tlev_low 100 t 1
  constructor
  · rintro ⟨⟨h1, h2⟩, h3⟩
    exact ⟨h1, fun p hp => ⟨hl.2 (by omega) p hp, h3 p hp⟩⟩
  · rintro ⟨h1, h2⟩
    exact ⟨⟨h1, by have := hl.1 (fun p hp => (h2 p hp).1); omega⟩, fun p hp => (h2 p hp).2⟩

set_option maxRecDepth 10000 in
set_option maxHeartbeats 2000000 in
theorem t_legal (t : Ty) (w : World) (h : TyIn w t) (hsz : t.size ≤ 900000) : Calls Tryz.prog 44 #[tyV t] w fun e w' => e = .returned (.bool (legalT t)) ∧ Ext w w' := by
  have HB := hide (TBox.new w t)
  have X1 : Ext w ((w.alloc (.cells #[encStr t.con, .int .i64 t.var, .slice t.A t.args.length t.cap] 25)).alloc (.cells #[.int .i64 0] 3)) := ((Ext.refl w).alloc _).alloc _
  have hs : (w.alloc (.cells #[encStr t.con, .int .i64 t.var, .slice t.A t.args.length t.cap] 25)).heap.size = w.heap.size + 1 := by simp
  have hc : ((w.alloc (.cells #[encStr t.con, .int .i64 t.var, .slice t.A t.args.length t.cap] 25)).alloc (.cells #[.int .i64 0] 3)).heap[w.heap.size + 1]? = some (.cells #[.int .i64 0] 3 (0, 0)) := by
    have := at_newB (w.alloc (.cells #[encStr t.con, .int .i64 t.var, .slice t.A t.args.length t.cap] 25)) (.cells #[Value.int .i64 0] 3) (w.heap.size + 1) hs.symm
    exact this
  have HW := hide (t_walk 69 #[.pointer (some ⟨w.heap.size + 1, 0, none⟩)] tlegal1_opens w (w.heap.size + 1) 1000000
    (fun pre w' v => v = .bool false ∧ w'.heap[w.heap.size + 1]? = some (.cells #[.int .i64 pre.length] 3 (0, 0)) ∧ pre.length ≤ 4096 ∧ ∀ p ∈ pre, okP p = true)
    (fun pre _ _ => ¬ (pre.length ≤ 4096 ∧ ∀ p ∈ pre, okP p = true))
    (fun pre w1 w2 v hj e => ⟨hj.1, (e.heap (lt_of_obj hj.2.1)).trans hj.2.1, hj.2.2⟩)
    (fun pre w1 v hj => ⟨by omega, lt_of_obj hj.2.1, fun k hk => by rw [hj.1] at hk; cases hk⟩)
    (fun pre x w1 v hj hN hx ht => by
      obtain ⟨rfl, hcell, hlen, hall⟩ := hj
      refine (t_legal1 x.2 x.1 pre.length (w.heap.size + 1) w1 ht hcell (by omega)).mono ?_
      rintro e w2 ⟨rfl, hc2, hT⟩
      refine ⟨.bool false, hT, ?_⟩
      by_cases hok : pre.length + 1 ≤ 4096 ∧ okP x = true
      · left
        refine ⟨?_, rfl, by rw [List.length_append]; exact hc2, by rw [List.length_append]; exact hok.1, ?_⟩
        · have h2 := hok.2
          unfold okP at h2
          rw [Bool.and_assoc, h2, Bool.and_true, decide_eq_true hok.1]
        · intro p hp
          rcases List.mem_append.1 hp with hp | hp
          · exact hall p hp
          · rw [List.mem_singleton] at hp; rw [hp]; exact hok.2
      · right
        refine ⟨?_, ?_⟩
        · have : (decide (pre.length + 1 ≤ 4096) && (decide (x.1 ≤ 100) && headOk x.2.con x.2.var x.2.args.length)) = false := by
            rw [← Bool.not_eq_true, Bool.and_eq_true, decide_eq_true_eq]
            exact hok
          rw [Bool.and_assoc, this]
        · rintro ⟨h1, h2⟩
          rw [List.length_append] at h1
          exact hok ⟨h1, h2 x (by simp)⟩)
    t 1 [] ((w.alloc (.cells #[encStr t.con, .int .i64 t.var, .slice t.A t.args.length t.cap] 25)).alloc (.cells #[.int .i64 0] 3)) (.bool false) h X1.below ⟨rfl, hc, by decide, by simp⟩ (by omega) (by simp; omega))
  have HL := hide (legalT_lev t)
  have HX := hide X1
  clear h hc hs X1
  generalize legalT t = R at *
  unfold tyV at *
  go_enter Tryz.func44, Tryz.ntmps44
  go_wp2_with fail
  refine HW.out.mono ?_
  rintro e w2 ⟨v2, hT, (⟨rfl, hj⟩ | ⟨rfl, q, hq, hx⟩)⟩
  · have HE := hide (Ext.of_below (HX.out.below.trans (hT.below HX.out.size (by omega) (fun k e => by cases e))) (Nat.le_refl _))
    have HR := hide (HL.out.2 ⟨hj.2.2.1, hj.2.2.2⟩)
    clear hT hj
    go_wp2
    go_ret
    exact ⟨by rw [HR.out]; rfl, HE.out⟩
  · have HE := hide (Ext.of_below (HX.out.below.trans (hT.below HX.out.size (by omega) (fun k e => by cases e))) (Nat.le_refl _))
    have HR : Hid (R = false) := hide (by
      rw [← Bool.not_eq_true]
      intro h
      obtain ⟨h1, h2⟩ := HL.out.1 h
      obtain ⟨r, hr⟩ := hq
      have h3 : q.length ≤ 4096 := by rw [← hr, List.length_append] at h1; omega
      exact hx ⟨by simpa using h3, fun p hp => h2 p (by rw [← hr]; exact List.mem_append_left _ (by simpa using hp))⟩)
    clear hT hx hq
    go_wp2
    go_ret
    exact ⟨by rw [HR.out]; rfl, HE.out⟩

end Go.Proofs.YtmjiljhcjfnfpaaGreat

/- Contracts on the reference's names. -/
namespace Go.Proofs.YtmjiljhcjfnfpaaGreat
open Go.RowKit

def digitI (z : Int) : Bool := decide (z ≥ 48) && decide (z ≤ 57)
theorem r_small03 (z : Int) (w : World) : Calls Tryz.prog 160 #[.int .u8 z] w fun e w' => e = .returned (.bool (smallI z)) ∧ w' = w := by
  have HR : Hid (smallI z = ((decide (z ≥ 97) && decide (z ≤ 122)) || z == 95)) := hide rfl
  generalize smallI z = R at *
  by_cases h1 : z ≥ 97
  · by_cases h2 : z ≤ 122
    · go_enter Tryz.func160, Tryz.ntmps160
      go_wp2
      go_ret
      exact ⟨by rw [HR.out]; simp [h1, h2], rfl⟩
    · by_cases h3 : z = 95
      · omega
      · go_enter Tryz.func160, Tryz.ntmps160
        go_wp2
        go_ret
        exact ⟨by rw [HR.out]; simp [h2, h3], rfl⟩
  · by_cases h3 : z = 95
    · go_enter Tryz.func160, Tryz.ntmps160
      go_wp2
      go_ret
      exact ⟨by rw [HR.out]; simp [h3]; try omega, rfl⟩
    · go_enter Tryz.func160, Tryz.ntmps160
      go_wp2
      go_ret
      exact ⟨by rw [HR.out]; simp [h3]; try omega, rfl⟩
theorem r_great03 (z : Int) (w : World) : Calls Tryz.prog 140 #[.int .u8 z] w fun e w' => e = .returned (.bool (greatI z)) ∧ w' = w := by
  have HR : Hid (greatI z = (decide (z ≥ 65) && decide (z ≤ 90))) := hide rfl
  generalize greatI z = R at *
  by_cases h1 : z ≥ 65
  · go_enter Tryz.func140, Tryz.ntmps140
    go_wp2
    go_ret
    exact ⟨by rw [HR.out]; simp [h1], rfl⟩
  · go_enter Tryz.func140, Tryz.ntmps140
    go_wp2
    go_ret
    exact ⟨by rw [HR.out]; simp; omega, rfl⟩
theorem r_digit03 (z : Int) (w : World) : Calls Tryz.prog 161 #[.int .u8 z] w fun e w' => e = .returned (.bool (digitI z)) ∧ w' = w := by
  have HR : Hid (digitI z = (decide (z ≥ 48) && decide (z ≤ 57))) := hide rfl
  generalize digitI z = R at *
  by_cases h1 : z ≥ 48
  · go_enter Tryz.func161, Tryz.ntmps161
    go_wp2
    go_ret
    exact ⟨by rw [HR.out]; simp [h1], rfl⟩
  · go_enter Tryz.func161, Tryz.ntmps161
    go_wp2
    go_ret
    exact ⟨by rw [HR.out]; simp; omega, rfl⟩

theorem r_On03 (z : Int) (w : World) : Calls Tryz.prog 154 #[.int .u8 z] w fun e w' => e = .returned (.bool (onI z)) ∧ w' = w := by
  have HR : Hid (onI z = (smallI z || greatI z || digitI z || z == 39)) := hide rfl
  have H1 := hide (r_small03 z w)
  have H2 := hide (r_great03 z w)
  have H3 := hide (r_digit03 z w)
  generalize onI z = R at *
  generalize smallI z = B1 at *
  generalize greatI z = B2 at *
  generalize digitI z = B3 at *
  cases B1
  · cases B2
    · cases B3
      · have hR : R = (z == 39) := by rw [HR.out]; rfl
        clear HR
        subst hR
        go_enter Tryz.func154, Tryz.ntmps154
        go_wp2_with fail
        refine H1.out.mono ?_
        rintro e w1 ⟨rfl, rfl⟩
        go_wp2_with fail
        refine H2.out.mono ?_
        rintro e w1 ⟨rfl, rfl⟩
        go_wp2_with fail
        refine H3.out.mono ?_
        rintro e w1 ⟨rfl, rfl⟩
        go_wp2
        go_ret
        exact ⟨rfl, rfl⟩
      · have hR : R = true := by rw [HR.out]; rfl
        clear HR
        subst hR
        go_enter Tryz.func154, Tryz.ntmps154
        go_wp2_with fail
        refine H1.out.mono ?_
        rintro e w1 ⟨rfl, rfl⟩
        go_wp2_with fail
        refine H2.out.mono ?_
        rintro e w1 ⟨rfl, rfl⟩
        go_wp2_with fail
        refine H3.out.mono ?_
        rintro e w1 ⟨rfl, rfl⟩
        go_wp2
        go_ret
        exact ⟨rfl, rfl⟩
    · have hR : R = true := by rw [HR.out]; rfl
      clear HR
      subst hR
      go_enter Tryz.func154, Tryz.ntmps154
      go_wp2_with fail
      refine H1.out.mono ?_
      rintro e w1 ⟨rfl, rfl⟩
      go_wp2_with fail
      refine H2.out.mono ?_
      rintro e w1 ⟨rfl, rfl⟩
      go_wp2
      go_ret
      exact ⟨rfl, rfl⟩
  · have hR : R = true := by rw [HR.out]; rfl
    clear HR
    subst hR
    go_enter Tryz.func154, Tryz.ntmps154
    go_wp2_with fail
    refine H1.out.mono ?_
    rintro e w1 ⟨rfl, rfl⟩
    go_wp2
    go_ret
    exact ⟨rfl, rfl⟩

/-- May all bytes but the first go on? -/
def onB (s : Str) : Bool := (s.drop 1).all fun b => onI (b.toNat : Nat)
set_option maxRecDepth 10000 in
set_option maxHeartbeats 1000000 in
theorem r_on03 (s : Str) (w : World) (hl : s.length ≤ 9223372036854775807) (h0 : 0 < s.length) : Calls Tryz.prog 141 #[encStr s] w fun e w' => e = .returned (.bool (onB s)) ∧ w' = w := by
  have HR : Hid ((s.drop 1).all (fun b => onI (b.toNat : Nat)) = onB s) := hide rfl
  generalize onB s = R at *
  go_enter Tryz.func141, Tryz.ntmps141
  go_wp2
  go_loop [3] (fun i => ∃ k : Nat, 1 ≤ k ∧ k ≤ s.length ∧ i = .int .i64 k ∧ Hid ((s.drop k).all (fun b => onI (b.toNat : Nat)) = R)) (fun i => s.length - (intOf i).toNat)
  case atStart => exact ⟨1, Nat.le_refl _, h0, rfl, HR⟩
  case round =>
    obtain ⟨k, hk1, hk, rfl, HK⟩ := hrel
    by_cases hlt : k < s.length
    · have hlt' : (k : Int) < (s.length : Int) := by omega
      have hk0 : (0 : Int) ≤ (k : Int) := by omega
      have Hb : Hid (s.drop k = s[k]'hlt :: s.drop (k + 1)) := hide (List.drop_eq_getElem_cons hlt)
      generalize hb2 : s[k]'hlt = b at *
      rw [Hb.out, List.all_cons] at HK
      have HN := hide (fun w' => r_On03 (b.toNat : Nat) w')
      generalize onI (b.toNat : Nat) = B1 at *
      cases B1
      · have hG : R = false := by have := HK.out; simpa using this.symm
        clear HK HR
        subst hG
        go_wp2_with fail
        refine (HN.out _).mono ?_
        rintro e w1 ⟨rfl, rfl⟩
        go_wp2
        go_ret
        exact ⟨rfl, rfl⟩
      · go_wp2_with fail
        refine (HN.out _).mono ?_
        rintro e w1 ⟨rfl, rfl⟩
        go_wp2
        go_round
        case rel => exact ⟨k + 1, by omega, hlt, by go_num, hide (by simpa using HK.out)⟩
        case measure => simp [intOf]; omega
    · have hge : (s.length : Int) ≤ (k : Int) := by omega
      have hG : R = true := by have := HK.out; rw [List.drop_eq_nil_of_le (by omega)] at this; exact this.symm
      clear HK HR
      subst hG
      go_wp2
      go_ret
      exact ⟨rfl, rfl⟩

end Go.Proofs.YtmjiljhcjfnfpaaGreat

/- Contract on the reference: whether a text may be a constructor's name. -/
namespace Go.Proofs.YtmjiljhcjfnfpaaGreat
open Go.RowKit

theorem goes_on {b : UInt8} {s : Str} (h : onI (b.toNat : Nat) = true) : goesB (b :: s) = onB (b :: s) := by
  unfold goesB onB
  rw [List.all_cons, h]
  rfl
theorem con_eq (b : UInt8) (s : Str) : conB (b :: s) = (greatI (b.toNat : Nat) && onB (b :: s)) := by
  have e : conB (b :: s) = (greatI (b.toNat : Nat) && goesB (b :: s)) := rfl
  rw [e]
  cases h : greatI (b.toNat : Nat)
  · rfl
  · rw [goes_on (by unfold onI; rw [h]; simp)]
theorem var_eq (b : UInt8) (s : Str) (h95 : (b :: s) ≠ [95]) : varB (b :: s) = (smallI (b.toNat : Nat) && onB (b :: s) && !resB (b :: s)) := by
  have e1 : ((b :: s) == ([] : Str)) = false := rfl
  have e2 : ((b :: s) == ([95] : Str)) = false := by simpa using h95
  have e : varB (b :: s) = (!((b :: s) == ([] : Str)) && !((b :: s) == ([95] : Str)) && smallI (b.toNat : Nat) && goesB (b :: s) && !resB (b :: s)) := rfl
  rw [e, e1, e2]
  cases h : smallI (b.toNat : Nat)
  · rfl
  · rw [goes_on (by unfold onI; rw [h]; rfl)]; rfl

set_option maxRecDepth 10000 in
set_option maxHeartbeats 1000000 in
theorem r_con03 (s : Str) (w : World) (hl : s.length ≤ 9223372036854775807) : Calls Tryz.prog 114 #[encStr s] w fun e w' => e = .returned (.bool (conB s)) ∧ w' = w := by
  cases s with
  | nil =>
    go_enter Tryz.func114, Tryz.ntmps114
    go_wp2
    go_ret
    exact ⟨rfl, rfl⟩
  | cons b s =>
    have HC : Hid (conB (b :: s) = (greatI (b.toNat : Nat) && onB (b :: s))) := hide (con_eq b s)
    have HG := hide (fun w' => r_great03 (b.toNat : Nat) w')
    have HO := hide (fun w' => r_on03 (b :: s) w' hl (by simp))
    generalize conB (b :: s) = R at *
    generalize greatI (b.toNat : Nat) = B1 at *
    generalize onB (b :: s) = B2 at *
    cases B1
    · have hR : R = false := by rw [HC.out]; rfl
      clear HC
      subst hR
      go_enter Tryz.func114, Tryz.ntmps114
      go_wp2_with fail
      refine (HG.out _).mono ?_
      rintro e w1 ⟨rfl, rfl⟩
      go_wp2
      go_ret
      exact ⟨rfl, rfl⟩
    · have hR : R = B2 := by rw [HC.out]; rfl
      clear HC
      subst hR
      go_enter Tryz.func114, Tryz.ntmps114
      go_wp2_with fail
      refine (HG.out _).mono ?_
      rintro e w1 ⟨rfl, rfl⟩
      go_wp2_with fail
      refine (HO.out _).mono ?_
      rintro e w1 ⟨rfl, rfl⟩
      go_wp2
      go_ret
      exact ⟨rfl, rfl⟩

end Go.Proofs.YtmjiljhcjfnfpaaGreat

/- Contracts on the reference: whether a type is a term. (A program of ours has printed a part.) -/
namespace Go.Proofs.YtmjiljhcjfnfpaaGreat
open Go.RowKit

theorem beq_cast (a b : Nat) : ((a : Int) == (b : Int)) = (a == b) := by rw [Bool.eq_iff_iff]; simp [Int.natCast_inj]
theorem headOk_eq (s : Str) (v : Int) (n : Nat) : headOk s v n = if s == [] then n == 0 else if s == [45, 62] then v == 0 && n == 2 else if fixedB s then v == 0 && n == 0 else v == 0 && conB s := rfl
theorem shapeT_eq (t : Ty) : shapeT t = (headOk t.con t.var t.args.length && t.args.all shapeT) := allB_eq _ t
set_option maxRecDepth 10000 in
set_option maxHeartbeats 2000000 in
theorem r_shape16 (t : Ty) : ∀ (w : World), TyIn w t → 
    Calls Tryz.prog 79 #[tyV t] w fun e w' => e = .returned (.bool (shapeT t)) ∧ Ext w w' := by
  induction t using Ty.ind with
  | h t ih =>
  intro w h
  have IH := hide ih
  have Hk := hide h.all
  have hle := h.le
  have hmx := h.max
  have HB0 := hide (TBox.new w t)
  have X0 : Hid (Ext w (w.alloc (.cells #[encStr t.con, .int .i64 t.var, .slice t.A t.args.length t.cap] 25))) := hide ((Ext.refl w).alloc _)
  have HP := hide (shapeT_eq t)
  have HO := hide (headOk_eq t.con t.var t.args.length)
  have htx := h.txt
  have HF := hide (fun w' => hide (r_fixed16 t.con w' htx))
  have HC := hide (fun w' => hide (r_con03 t.con w' htx))
  generalize shapeT t = R at *
  generalize headOk t.con t.var t.args.length = Q at *
  clear ih h
  unfold tyV at *
  go_enter Tryz.func79, Tryz.ntmps79
  go_wp2
  generalize (w.alloc (.cells #[encStr t.con, .int .i64 t.var, .slice t.A t.args.length t.cap] 25)) = w0 at *
  go_loopw [3] (fun i wr => ∃ k : Nat, k ≤ t.args.length ∧ i = .int .i64 k ∧ Hid (∀ x ∈ t.args.take k, shapeT x = true) ∧ Hid (Ext w0 wr)) (fun i _ => t.args.length - (intOf i).toNat)
  case atStart => exact ⟨0, Nat.zero_le _, rfl, hide (by simp), hide (Ext.refl _)⟩
  case round =>
    obtain ⟨k, hk, rfl, HA, HX⟩ := hrel
    have HB := hide (HB0.out.ext HX.out)
    have hc2 := HB.out.c2
    by_cases hlt : k < t.args.length
    · have hlt' : (k : Int) < (t.args.length : Int) := by omega
      have hk0 : (0 : Int) ≤ (k : Int) := by omega
      obtain ⟨b, o, hA, hb, q0, q1, q2⟩ := (Hk.out.ext (X0.out.trans HX.out)).at_ hlt
      have hkm := List.getElem_mem hlt
      have Htk : Hid (t.args.take (k + 1) = t.args.take k ++ [t.args[k]'hlt]) := hide (List.take_succ_eq_append_getElem hlt)
      have Hmem := hide (List.getElem_mem hlt)
      have HC := hide (IH.out _ hkm wr ((Hk.out.args _ hkm).ext (X0.out.trans HX.out)))
      rw [hA] at hc2; clear hA hkm
      generalize t.args[k]'hlt = c at *
      cases hs : shapeT c
      · rw [hs] at HC
        have hR : R = false := by
          rw [HP.out, Bool.and_eq_false_iff]
          right
          rw [← Bool.not_eq_true, List.all_eq_true]
          intro h
          rw [h _ Hmem.out] at hs
          cases hs
        clear HP
        subst hR
        go_wp2_with fail
        refine HC.out.mono ?_
        rintro e w3 ⟨rfl, hx3⟩
        have X3 := hide (HX.out.trans hx3)
        clear hx3
        go_wp2
        go_ret
        exact ⟨rfl, X0.out.trans X3.out⟩
      · rw [hs] at HC
        go_wp2_with fail
        refine HC.out.mono ?_
        rintro e w3 ⟨rfl, hx3⟩
        have X3 := hide (HX.out.trans hx3)
        clear hx3
        go_wp2
        go_roundw
        case rel =>
          refine ⟨k + 1, hlt, by go_num, hide (fun x hx => ?_), X3⟩
          rw [Htk.out, List.mem_append, List.mem_singleton] at hx
          rcases hx with hx | rfl
          · exact HA.out x hx
          · exact hs
        case measure => simp [intOf]; omega
    · have hge : ¬ (k : Int) < (t.args.length : Int) := by omega
      have hR : R = Q := by
        rw [HP.out]
        have : t.args.all shapeT = true := List.all_eq_true.2 (fun x hx => HA.out x (by rw [List.take_of_length_le (by omega)]; exact hx))
        rw [this, Bool.and_true]
      clear HP
      subst hR
      have hc0 := HB.out.c0
      have hc1 := HB.out.c1
      cases h0 : (t.con == [])
      · cases h1 : (t.con == [45, 62])
        · cases hf : fixedB t.con
          · rw [hf] at HF
            cases hv : (t.var == 0)
            · have hR : R = false := by rw [HO.out, h0, h1, hf, hv]; rfl
              clear HO
              subst hR
              cases hcn : conB t.con
              · rw [hcn] at HC
                go_wp2_with fail
                refine (HF.out _).out.mono ?_
                rintro e w3 ⟨rfl, hx3⟩
                have X3 := hide (HX.out.trans hx3)
                have HB3 := hide (HB.out.ext hx3)
                have d0 := HB3.out.c0
                have d1 := HB3.out.c1
                clear hx3
                go_wp2_with fail
                refine (HC.out _).out.mono ?_
                rintro e w4 ⟨rfl, rfl⟩
                go_wp2
                go_ret
                exact ⟨rfl, X0.out.trans X3.out⟩
              · rw [hcn] at HC
                go_wp2_with fail
                refine (HF.out _).out.mono ?_
                rintro e w3 ⟨rfl, hx3⟩
                have X3 := hide (HX.out.trans hx3)
                have HB3 := hide (HB.out.ext hx3)
                have d0 := HB3.out.c0
                have d1 := HB3.out.c1
                clear hx3
                go_wp2_with fail
                refine (HC.out _).out.mono ?_
                rintro e w4 ⟨rfl, rfl⟩
                go_wp2
                go_ret
                exact ⟨rfl, X0.out.trans X3.out⟩
            · have hR : R = conB t.con := by rw [HO.out, h0, h1, hf, hv]; rfl
              clear HO
              subst hR
              cases hcn : conB t.con
              · rw [hcn] at HC
                go_wp2_with fail
                refine (HF.out _).out.mono ?_
                rintro e w3 ⟨rfl, hx3⟩
                have X3 := hide (HX.out.trans hx3)
                have HB3 := hide (HB.out.ext hx3)
                have d0 := HB3.out.c0
                have d1 := HB3.out.c1
                clear hx3
                go_wp2_with fail
                refine (HC.out _).out.mono ?_
                rintro e w4 ⟨rfl, rfl⟩
                go_wp2
                go_ret
                exact ⟨by rw [hcn]; rfl, X0.out.trans X3.out⟩
              · rw [hcn] at HC
                go_wp2_with fail
                refine (HF.out _).out.mono ?_
                rintro e w3 ⟨rfl, hx3⟩
                have X3 := hide (HX.out.trans hx3)
                have HB3 := hide (HB.out.ext hx3)
                have d0 := HB3.out.c0
                have d1 := HB3.out.c1
                clear hx3
                go_wp2_with fail
                refine (HC.out _).out.mono ?_
                rintro e w4 ⟨rfl, rfl⟩
                go_wp2
                go_ret
                exact ⟨by rw [hcn]; rfl, X0.out.trans X3.out⟩
          · rw [hf] at HF
            have HR : Hid (R = (t.var == 0 && t.args.length == 0)) := hide (by rw [HO.out, h0, h1, hf]; rfl)
            clear HO
            go_wp2_with fail
            refine (HF.out _).out.mono ?_
            rintro e w3 ⟨rfl, hx3⟩
            have X3 := hide (HX.out.trans hx3)
            have HB3 := hide (HB.out.ext hx3)
            have d0 := HB3.out.c0
            have d1 := HB3.out.c1
            clear hx3
            have HR2 : Hid (R = (((t.args.length : Int) == 0) && (t.var == 0))) := hide (by rw [HR.out, Bool.and_comm, ← beq_cast]; rfl)
            clear HR
            cases hn : ((t.args.length : Int) == 0)
            · have hR : R = false := by rw [HR2.out, hn]; rfl
              clear HR2
              subst hR
              go_wp2
              go_ret
              exact ⟨rfl, X0.out.trans X3.out⟩
            · cases hv : (t.var == 0)
              · have hR : R = false := by rw [HR2.out, hv, Bool.and_false]
                clear HR2
                subst hR
                go_wp2
                go_ret
                exact ⟨rfl, X0.out.trans X3.out⟩
              · have hR : R = true := by rw [HR2.out, hv, hn]; rfl
                clear HR2
                subst hR
                go_wp2
                go_ret
                exact ⟨rfl, X0.out.trans X3.out⟩
        · have HR : Hid (R = (t.var == 0 && t.args.length == 2)) := hide (by rw [HO.out, h0, h1]; rfl)
          clear HO
          have HR2 : Hid (R = (((t.args.length : Int) == 2) && (t.var == 0))) := hide (by rw [HR.out, Bool.and_comm, ← beq_cast]; rfl)
          clear HR
          cases hn : ((t.args.length : Int) == 2)
          · have hR : R = false := by rw [HR2.out, hn]; rfl
            clear HR2
            subst hR
            go_wp2
            go_ret
            exact ⟨rfl, X0.out.trans HX.out⟩
          · cases hv : (t.var == 0)
            · have hR : R = false := by rw [HR2.out, hv, Bool.and_false]
              clear HR2
              subst hR
              go_wp2
              go_ret
              exact ⟨rfl, X0.out.trans HX.out⟩
            · have hR : R = true := by rw [HR2.out, hv, hn]; rfl
              clear HR2
              subst hR
              go_wp2
              go_ret
              exact ⟨rfl, X0.out.trans HX.out⟩
      · have HR : Hid (R = (t.args.length == 0)) := hide (by rw [HO.out, h0]; rfl)
        clear HO
        go_wp2
        go_ret
        refine ⟨?_, X0.out.trans HX.out⟩
        rw [HR.out]
        exact congrArg (fun b => Ending.returned (.bool b)) (show ((t.args.length : Int) == 0) = (t.args.length == 0) by rw [Bool.eq_iff_iff]; simp)

set_option maxRecDepth 10000 in
set_option maxHeartbeats 1000000 in
theorem r_legal16 (t : Ty) (w : World) (h : TyIn w t) (hsz : t.size ≤ 900000) : Calls Tryz.prog 49 #[tyV t] w fun e w' => e = .returned (.bool (legalT t)) ∧ Ext w w' := by
  have HB := hide (TBox.new w t)
  have X0 : Hid (Ext w (w.alloc (.cells #[encStr t.con, .int .i64 t.var, .slice t.A t.args.length t.cap] 25))) := hide ((Ext.refl w).alloc _)
  have H1 := hide (fun w' (e : Ext w w') => hide (r_size16 t w' (h.ext e) (by omega)))
  have H2 := hide (fun w' (e : Ext w w') => hide (r_depth16 t w' (h.ext e) (by omega)))
  have H3 := hide (fun w' (e : Ext w w') => hide (r_shape16 t w' (h.ext e)))
  have HL : Hid (legalT t = (decide (t.size ≤ 4096) && decide (t.depth ≤ 100) && shapeT t)) := hide rfl
  clear h
  generalize legalT t = R at *
  generalize shapeT t = Q at *
  unfold tyV at *
  have hi1 : decide ((t.size : Int) ≤ 4096) = decide (t.size ≤ 4096) := by rw [Bool.eq_iff_iff]; simp; omega
  have hi2 : decide ((t.depth : Int) ≤ 100) = decide (t.depth ≤ 100) := by rw [Bool.eq_iff_iff]; simp; omega
  generalize t.size = sz at *
  generalize t.depth = dp at *
  cases h1 : decide (sz ≤ 4096)
  · rw [h1] at HL hi1
    have hR : R = false := by rw [HL.out]; rfl
    clear HL h1 hi2 hsz
    subst hR
    go_enter Tryz.func49, Tryz.ntmps49
    go_wp2_with fail
    refine (H1.out _ X0.out).out.mono ?_
    rintro e w2 ⟨rfl, hx2⟩
    go_wp2
    go_ret
    exact ⟨rfl, X0.out.trans hx2⟩
  · rw [h1] at HL hi1
    cases h2 : decide (dp ≤ 100)
    · rw [h2] at HL hi2
      have hR : R = false := by rw [HL.out]; rfl
      clear HL h1 h2 hsz
      subst hR
      go_enter Tryz.func49, Tryz.ntmps49
      go_wp2_with fail
      refine (H1.out _ X0.out).out.mono ?_
      rintro e w2 ⟨rfl, hx2⟩
      have X2 := hide (X0.out.trans hx2)
      have B2 := hide (HB.out.ext hx2)
      have c0 := B2.out.c0
      have c1 := B2.out.c1
      have c2 := B2.out.c2
      clear hx2
      go_wp2_with fail
      refine (H2.out _ X2.out).out.mono ?_
      rintro e w3 ⟨rfl, hx3⟩
      go_wp2
      go_ret
      exact ⟨rfl, X2.out.trans hx3⟩
    · rw [h2] at HL hi2
      have hR : R = Q := by rw [HL.out]; rfl
      clear HL h1 h2 hsz
      subst hR
      go_enter Tryz.func49, Tryz.ntmps49
      go_wp2_with fail
      refine (H1.out _ X0.out).out.mono ?_
      rintro e w2 ⟨rfl, hx2⟩
      have X2 := hide (X0.out.trans hx2)
      have B2 := hide (HB.out.ext hx2)
      have c0 := B2.out.c0
      have c1 := B2.out.c1
      have c2 := B2.out.c2
      clear hx2
      go_wp2_with fail
      refine (H2.out _ X2.out).out.mono ?_
      rintro e w3 ⟨rfl, hx3⟩
      have X3 := hide (X2.out.trans hx3)
      have B3 := hide (B2.out.ext hx3)
      have d0 := B3.out.c0
      have d1 := B3.out.c1
      have d2 := B3.out.c2
      clear hx3 c0 c1 c2
      go_wp2_with fail
      refine (H3.out _ X3.out).out.mono ?_
      rintro e w4 ⟨rfl, hx4⟩
      go_wp2
      go_ret
      exact ⟨rfl, X3.out.trans hx4⟩

end Go.Proofs.YtmjiljhcjfnfpaaGreat

/- Predicates in memory: a class and a type. Contracts: whether one may be; whether all may be; of the program, and of the reference. -/
namespace Go.Proofs.YtmjiljhcjfnfpaaGreat
open Go.RowKit

structure Pd where
  cls : Str
  ty : Ty
def Pd.cells (p : Pd) : List Value := [encStr p.cls, encStr p.ty.con, .int .i64 p.ty.var, .slice p.ty.A p.ty.args.length p.ty.cap]
def pdC : Coder Pd := ⟨4, Pd.cells, fun _ => rfl, by omega⟩
@[go_sem] def pdV (p : Pd) : Value := .agg #[encStr p.cls, encStr p.ty.con, .int .i64 p.ty.var, .slice p.ty.A p.ty.args.length p.ty.cap]
structure PdIn (w : World) (p : Pd) : Prop where
  cls : p.cls.length ≤ 1000000000000000000
  ty : TyIn w p.ty
structure PdsIn (w : World) (A : Option Addr) (l : List Pd) : Prop where
  row : RowOf pdC w A l
  all : ∀ p ∈ l, PdIn w p
section
variable {w w' : World} {p : Pd} {A : Option Addr} {l : List Pd}
theorem PdIn.ext (h : PdIn w p) (e : Ext w w') : PdIn w' p := ⟨h.cls, h.ty.ext e⟩
theorem PdsIn.ext (h : PdsIn w A l) (e : Ext w w') : PdsIn w' A l := ⟨RowOf.ext pdC h.row e, fun p hp => (h.all p hp).ext e⟩
theorem PdsIn.at_ (h : PdsIn w A l) {i : Nat} (hi : i < l.length) :
    ∃ b o, A = some ⟨b, o, none⟩ ∧ b < w.heap.size ∧ w.cell? ⟨b, o + i * 4, none⟩ = some (.string ⟨(l[i]'hi).cls.toArray⟩) ∧ w.cell? ⟨b, o + i * 4 + 1, none⟩ = some (.string ⟨(l[i]'hi).ty.con.toArray⟩) ∧
      w.cell? ⟨b, o + i * 4 + 2, none⟩ = some (.int .i64 (l[i]'hi).ty.var) ∧ w.cell? ⟨b, o + i * 4 + 3, none⟩ = some (.slice (l[i]'hi).ty.A (l[i]'hi).ty.args.length (l[i]'hi).ty.cap) := by
  obtain ⟨b, o, e, hb, hc⟩ := RowOf.at_ pdC h.row hi
  refine ⟨b, o, e, hb, ?_, ?_, ?_, ?_⟩
  · have := hc 0 (by decide); simpa [pdC, Pd.cells] using this
  · have := hc 1 (by decide); simpa [pdC, Pd.cells] using this
  · have := hc 2 (by decide); simpa [pdC, Pd.cells] using this
  · have := hc 3 (by decide); simpa [pdC, Pd.cells] using this
end
/-- A predicate in a box. -/
def PdBox (w : World) (b : Nat) (p : Pd) : Prop := w.heap[b]? = some (.cells #[encStr p.cls, encStr p.ty.con, .int .i64 p.ty.var, .slice p.ty.A p.ty.args.length p.ty.cap] 40 (0, 0))
section
variable {w w' : World} {b : Nat} {p : Pd}
theorem PdBox.new (w : World) (p : Pd) : PdBox (w.alloc (.cells #[encStr p.cls, encStr p.ty.con, .int .i64 p.ty.var, .slice p.ty.A p.ty.args.length p.ty.cap] 40)) w.heap.size p := at_newB _ _ _ rfl
theorem PdBox.lt (h : PdBox w b p) : b < w.heap.size := lt_of_obj h
theorem PdBox.ext (h : PdBox w b p) (e : Ext w w') : PdBox w' b p := (e.heap h.lt).trans h
theorem PdBox.cells (h : PdBox w b p) : w.cell? ⟨b, 0, none⟩ = some (encStr p.cls) ∧ w.cell? ⟨b, 1, none⟩ = some (encStr p.ty.con) ∧ w.cell? ⟨b, 2, none⟩ = some (.int .i64 p.ty.var) ∧ w.cell? ⟨b, 3, none⟩ = some (.slice p.ty.A p.ty.args.length p.ty.cap) :=
  ⟨bytes_block h 0, bytes_block h 1, bytes_block h 2, bytes_block h 3⟩
end
/-- May one be? -/
noncomputable def pdB (p : Pd) : Bool := conB p.cls && legalT p.ty

set_option maxRecDepth 10000 in
set_option maxHeartbeats 1000000 in
theorem p_legal (p : Pd) (w : World) (h : PdIn w p) (hsz : p.ty.size ≤ 90000) : Calls Tryz.prog 62 #[pdV p] w fun e w' => e = .returned (.bool (pdB p)) ∧ Ext w w' := by
  have X0 : Hid (Ext w (w.alloc (.cells #[encStr p.cls, encStr p.ty.con, .int .i64 p.ty.var, .slice p.ty.A p.ty.args.length p.ty.cap] 40))) := hide ((Ext.refl w).alloc _)
  have HB := hide (PdBox.new w p)
  obtain ⟨c0, c1, c2, c3⟩ := HB.out.cells
  have HN := hide (fun w' => hide (n_con p.cls w' (by have := h.cls; omega)))
  have HL := hide (fun w' (e : Ext w w') => hide (t_legal p.ty w' (h.ty.ext e) (by omega)))
  have HP : Hid (pdB p = (conB p.cls && legalT p.ty)) := hide rfl
  clear h
  unfold pdV tyV at *
  generalize pdB p = R at *
  cases hb : conB p.cls
  · rw [hb] at HN HP
    have hR : R = false := by rw [HP.out]; rfl
    clear HP
    subst hR
    go_enter Tryz.func62, Tryz.ntmps62
    go_wp2_with fail
    refine (HN.out _).out.mono ?_
    rintro e w2 ⟨rfl, rfl⟩
    go_wp2
    go_ret
    exact ⟨rfl, X0.out⟩
  · rw [hb] at HN HP
    have hR : R = legalT p.ty := by rw [HP.out]; rfl
    clear HP
    subst hR
    go_enter Tryz.func62, Tryz.ntmps62
    go_wp2_with fail
    refine (HN.out _).out.mono ?_
    rintro e w2 ⟨rfl, rfl⟩
    go_wp2_with fail
    refine (HL.out _ X0.out).out.mono ?_
    rintro e w3 ⟨rfl, hx⟩
    go_wp2
    go_ret
    exact ⟨rfl, X0.out.trans hx⟩

set_option maxRecDepth 10000 in
set_option maxHeartbeats 1000000 in
theorem r_legal20 (p : Pd) (w : World) (h : PdIn w p) (hsz : p.ty.size ≤ 90000) : Calls Tryz.prog 80 #[pdV p] w fun e w' => e = .returned (.bool (pdB p)) ∧ Ext w w' := by
  have X0 : Hid (Ext w (w.alloc (.cells #[encStr p.cls, encStr p.ty.con, .int .i64 p.ty.var, .slice p.ty.A p.ty.args.length p.ty.cap] 40))) := hide ((Ext.refl w).alloc _)
  have HB := hide (PdBox.new w p)
  obtain ⟨c0, c1, c2, c3⟩ := HB.out.cells
  have HN := hide (fun w' => hide (r_con03 p.cls w' (by have := h.cls; omega)))
  have HL := hide (fun w' (e : Ext w w') => hide (r_legal16 p.ty w' (h.ty.ext e) (by omega)))
  have HP : Hid (pdB p = (conB p.cls && legalT p.ty)) := hide rfl
  clear h
  unfold pdV tyV at *
  generalize pdB p = R at *
  cases hb : conB p.cls
  · rw [hb] at HN HP
    have hR : R = false := by rw [HP.out]; rfl
    clear HP
    subst hR
    go_enter Tryz.func80, Tryz.ntmps80
    go_wp2_with fail
    refine (HN.out _).out.mono ?_
    rintro e w2 ⟨rfl, rfl⟩
    go_wp2
    go_ret
    exact ⟨rfl, X0.out⟩
  · rw [hb] at HN HP
    have hR : R = legalT p.ty := by rw [HP.out]; rfl
    clear HP
    subst hR
    go_enter Tryz.func80, Tryz.ntmps80
    go_wp2_with fail
    refine (HN.out _).out.mono ?_
    rintro e w2 ⟨rfl, rfl⟩
    go_wp2_with fail
    refine (HL.out _ X0.out).out.mono ?_
    rintro e w3 ⟨rfl, hx⟩
    go_wp2
    go_ret
    exact ⟨rfl, X0.out.trans hx⟩

set_option maxRecDepth 10000 in
set_option maxHeartbeats 1000000 in
theorem s_may1 (p : Pd) (w : World) (h : PdIn w p) (hsz : p.ty.size ≤ 90000) : Calls Tryz.prog 61 #[pdV p] w fun e w' => e = .returned (.bool (!pdB p)) ∧ Ext w w' := by
  have X0 : Hid (Ext w (w.alloc (.cells #[encStr p.cls, encStr p.ty.con, .int .i64 p.ty.var, .slice p.ty.A p.ty.args.length p.ty.cap] 40))) := hide ((Ext.refl w).alloc _)
  have HB := hide (PdBox.new w p)
  obtain ⟨c0, c1, c2, c3⟩ := HB.out.cells
  have HL := hide (fun w' (e : Ext w w') => hide (p_legal p w' (h.ext e) hsz))
  clear h
  unfold pdV at *
  generalize pdB p = R at *
  go_enter Tryz.func61, Tryz.ntmps61
  go_wp2_with fail
  refine (HL.out _ X0.out).out.mono ?_
  rintro e w3 ⟨rfl, hx⟩
  go_wp2
  go_ret
  exact ⟨rfl, X0.out.trans hx⟩
theorem scmay1_enters : ∀ args w, (callFunc 61 args).run Tryz.prog w = .ok (.enter 61 args) w := enters_of Tryz.func61 (by kernel_rfl) rfl

set_option maxRecDepth 10000 in
set_option maxHeartbeats 2000000 in
theorem index_fp (A : Option Addr) (cap : Nat) (l : List Pd) (w : World) (h : PdsIn w A l) (hl : l.length ≤ 1000000) (hsz : ∀ p ∈ l, p.ty.size ≤ 90000) :
    Calls Tryz.prog 90 #[.slice A l.length cap, .func (.func 61) #[] #[]] w fun e w' => (∃ i : Int, e = .returned (.int .i64 i) ∧ (0 ≤ i ↔ l.all pdB = false)) ∧ Ext w w' := by
  have HL := hide h
  have Hsz := hide hsz
  have eg := scmay1_enters
  clear h hsz
  obtain ⟨R, hR⟩ : ∃ R, R = l.all pdB := ⟨_, rfl⟩
  have HR := hide hR
  rw [← hR]
  clear hR
  go_enter Tryz.func90, Tryz.ntmps90
  go_wp2
  go_loopw [8] (fun i wr => ∃ k : Nat, k ≤ l.length ∧ i = .int .i64 k ∧ Hid ((l.take k).all pdB = true) ∧ Hid (Ext w wr)) (fun i _ => l.length - (intOf i).toNat)
  case atStart => exact ⟨0, Nat.zero_le _, rfl, hide (by simp), hide (Ext.refl _)⟩
  case round =>
    obtain ⟨k, hk, rfl, HA, HX⟩ := hrel
    by_cases hlt : k < l.length
    · have hlt' : (k : Int) < (l.length : Int) := by omega
      have hk0 : (0 : Int) ≤ (k : Int) := by omega
      obtain ⟨b, o, rfl, hb, q0, q1, q2, q3⟩ := (HL.out.ext HX.out).at_ hlt
      have hm := List.getElem_mem hlt
      have HC := hide (fun w' (e : Ext wr w') => hide (s_may1 (l[k]'hlt) w' ((HL.out.all _ hm).ext (HX.out.trans e)) (Hsz.out _ hm)))
      have Htk : Hid (l.take (k + 1) = l.take k ++ [l[k]'hlt]) := hide (List.take_succ_eq_append_getElem hlt)
      have Hm := hide hm
      clear hm
      unfold pdV at HC
      generalize l[k]'hlt = x at *
      cases hb : pdB x
      · rw [hb] at HC
        have HN : Hid (R = false) := hide (by rw [HR.out, ← Bool.not_eq_true, List.all_eq_true]; intro h; have := h x Hm.out; rw [hb] at this; cases this)
        clear hb
        go_wp2_with fail
        refine (HC.out _ (Ext.refl _)).out.mono ?_
        rintro e w3 ⟨rfl, hx⟩
        go_wp2
        go_ret
        exact ⟨⟨(k : Int), rfl, by rw [HN.out]; simp⟩, HX.out.trans hx⟩
      · rw [hb] at HC
        have Hb := hide hb
        clear hb
        go_wp2_with fail
        refine (HC.out _ (Ext.refl _)).out.mono ?_
        rintro e w3 ⟨rfl, hx⟩
        have X3 := hide (HX.out.trans hx)
        clear hx
        go_wp2
        go_roundw
        case rel => exact ⟨k + 1, hlt, by go_num, hide (by rw [Htk.out, List.all_append, HA.out]; simpa using Hb.out), X3⟩
        case measure => simp [intOf]; omega
    · have hge : ¬ (k : Int) < (l.length : Int) := by omega
      have HN : Hid (R = true) := hide (by rw [HR.out]; have := HA.out; rwa [List.take_of_length_le (by omega)] at this)
      go_wp2
      go_ret
      exact ⟨⟨-1, rfl, by rw [HN.out]; simp⟩, HX.out⟩

set_option maxRecDepth 10000 in
set_option maxHeartbeats 1000000 in
theorem has_fp (A : Option Addr) (cap : Nat) (l : List Pd) (w : World) (h : PdsIn w A l) (hl : l.length ≤ 1000000) (hsz : ∀ p ∈ l, p.ty.size ≤ 90000) :
    Calls Tryz.prog 60 #[.slice A l.length cap, .func (.func 61) #[] #[]] w fun e w' => e = .returned (.bool (!l.all pdB)) ∧ Ext w w' := by
  have HI := hide (index_fp A cap l w h hl hsz)
  clear h
  generalize l.all pdB = R at *
  go_enter Tryz.func60, Tryz.ntmps60
  go_wp2_with fail
  refine HI.out.mono ?_
  rintro e w2 ⟨⟨i, rfl, hi⟩, hx⟩
  have HR : Hid (decide ((0 : Int) ≤ i) = !R) := hide (by cases R <;> simp_all)
  have X := hide hx
  clear hi hx
  go_wp2
  go_ret
  exact ⟨by rw [← HR.out]; rfl, X.out⟩

set_option maxRecDepth 10000 in
set_option maxHeartbeats 1000000 in
theorem s_may (t : Ty) (A : Option Addr) (cap : Nat) (l : List Pd) (w : World) (ht : TyIn w t) (hts : t.size ≤ 90000) (h : PdsIn w A l) (hl : l.length ≤ 1000000) (hsz : ∀ p ∈ l, p.ty.size ≤ 90000) :
    Calls Tryz.prog 38 #[tyV t, .slice A l.length cap] w fun e w' => e = .returned (.bool (legalT t && l.all pdB)) ∧ Ext w w' := by
  have X0 : Hid (Ext w (w.alloc (.cells #[encStr t.con, .int .i64 t.var, .slice t.A t.args.length t.cap] 25))) := hide ((Ext.refl w).alloc _)
  have HL := hide (fun w' (e : Ext w w') => hide (t_legal t w' (ht.ext e) (by omega)))
  have HF := hide (fun w' (e : Ext w w') => hide (has_fp A cap l w' (h.ext e) hl hsz))
  clear ht h hsz
  unfold tyV at *
  generalize l.all pdB = R at *
  cases hb : legalT t
  · rw [hb] at HL
    go_enter Tryz.func38, Tryz.ntmps38
    go_wp2_with fail
    refine (HL.out _ X0.out).out.mono ?_
    rintro e w2 ⟨rfl, hx⟩
    go_wp2
    go_ret
    exact ⟨rfl, X0.out.trans hx⟩
  · rw [hb] at HL
    go_enter Tryz.func38, Tryz.ntmps38
    go_wp2_with fail
    refine (HL.out _ X0.out).out.mono ?_
    rintro e w2 ⟨rfl, hx⟩
    have X2 := hide (X0.out.trans hx)
    clear hx
    go_wp2_with fail
    refine (HF.out _ X2.out).out.mono ?_
    rintro e w3 ⟨rfl, hx⟩
    go_wp2
    go_ret
    exact ⟨by simp, X2.out.trans hx⟩

set_option maxRecDepth 10000 in
set_option maxHeartbeats 1000000 in
theorem r_all20 (A : Option Addr) (cap : Nat) (l : List Pd) (w : World) (h : PdsIn w A l) (hl : l.length ≤ 1000000) (hsz : ∀ p ∈ l, p.ty.size ≤ 90000) :
    Calls Tryz.prog 50 #[.slice A l.length cap] w fun e w' => e = .returned (.bool (l.all pdB)) ∧ Ext w w' := by
  have HL := hide h
  have Hsz := hide hsz
  clear h hsz
  obtain ⟨R, hR⟩ : ∃ R, R = l.all pdB := ⟨_, rfl⟩
  have HR := hide hR
  rw [← hR]
  clear hR
  go_enter Tryz.func50, Tryz.ntmps50
  go_wp2
  go_loopw [3] (fun i wr => ∃ k : Nat, k ≤ l.length ∧ i = .int .i64 k ∧ Hid ((l.take k).all pdB = true) ∧ Hid (Ext w wr)) (fun i _ => l.length - (intOf i).toNat)
  case atStart => exact ⟨0, Nat.zero_le _, rfl, hide (by simp), hide (Ext.refl _)⟩
  case round =>
    obtain ⟨k, hk, rfl, HA, HX⟩ := hrel
    by_cases hlt : k < l.length
    · have hlt' : (k : Int) < (l.length : Int) := by omega
      have hk0 : (0 : Int) ≤ (k : Int) := by omega
      obtain ⟨b, o, rfl, hb, q0, q1, q2, q3⟩ := (HL.out.ext HX.out).at_ hlt
      have hm := List.getElem_mem hlt
      have HC := hide (fun w' (e : Ext wr w') => hide (r_legal20 (l[k]'hlt) w' ((HL.out.all _ hm).ext (HX.out.trans e)) (Hsz.out _ hm)))
      have Htk : Hid (l.take (k + 1) = l.take k ++ [l[k]'hlt]) := hide (List.take_succ_eq_append_getElem hlt)
      have Hm := hide hm
      clear hm
      unfold pdV at HC
      generalize l[k]'hlt = x at *
      cases hb : pdB x
      · rw [hb] at HC
        have HN : Hid (R = false) := hide (by rw [HR.out, ← Bool.not_eq_true, List.all_eq_true]; intro h; have := h x Hm.out; rw [hb] at this; cases this)
        clear hb
        go_wp2_with fail
        refine (HC.out _ (Ext.refl _)).out.mono ?_
        rintro e w3 ⟨rfl, hx⟩
        go_wp2
        go_ret
        exact ⟨by rw [HN.out]; rfl, HX.out.trans hx⟩
      · rw [hb] at HC
        have Hb := hide hb
        clear hb
        go_wp2_with fail
        refine (HC.out _ (Ext.refl _)).out.mono ?_
        rintro e w3 ⟨rfl, hx⟩
        have X3 := hide (HX.out.trans hx)
        clear hx
        go_wp2
        go_roundw
        case rel => exact ⟨k + 1, hlt, by go_num, hide (by rw [Htk.out, List.all_append, HA.out]; simpa using Hb.out), X3⟩
        case measure => simp [intOf]; omega
    · have hge : ¬ (k : Int) < (l.length : Int) := by omega
      have HN : Hid (R = true) := hide (by rw [HR.out]; have := HA.out; rwa [List.take_of_length_le (by omega)] at this)
      go_wp2
      go_ret
      exact ⟨by rw [HN.out]; rfl, HX.out⟩

end Go.Proofs.YtmjiljhcjfnfpaaGreat

/- Contract on looking for a number in a row. -/
namespace Go.Proofs.YtmjiljhcjfnfpaaGreat
open Go.RowKit

set_option maxHeartbeats 1000000 in
theorem index_i (A : Option Addr) (cap : Nat) (l : List Int) (x : Int) (w : World) (h : Ints w A l) (hle : l.length ≤ 9223372036854775807) :
    Calls Tryz.prog 117 #[.slice A l.length cap, .int .i64 x] w fun e w' => e = .returned (.int .i64 (idxI l x)) ∧ w' = w := by
  have Hat := hide (fun k => @idxI_at _ _ l x 0 k)
  have Hno := hide (idxI_no l x 0)
  have Hr := hide h
  clear h
  generalize idxI l x = R at *
  go_enter Tryz.func117, Tryz.ntmps117
  go_wp2
  go_loop [8] (fun i => ∃ j : Nat, j ≤ l.length ∧ i = .int .i64 j ∧ Hid (∀ i, i < j → (l.getD i 0 == x) = false)) (fun i => l.length - (intOf i).toNat)
  case atStart => exact ⟨0, Nat.zero_le _, rfl, hide (fun i hi => absurd hi (by omega))⟩
  case round =>
    obtain ⟨j, hj, rfl, Hj⟩ := hrel
    by_cases hlt : j < l.length
    · obtain ⟨b, o, rfl, hb, hc⟩ := Hr.out.at_ hlt
      have hlt' : (j : Int) < (l.length : Int) := by omega
      have Hg : Hid (l.getD j 0 = l[j]'hlt) := hide (by simp [hlt])
      generalize l[j]'hlt = y at *
      cases hs : (x == y)
      · go_wp2
        go_round
        case rel =>
          refine ⟨j + 1, hlt, by go_num, hide (fun i hi => ?_)⟩
          by_cases hij : i = j
          · rw [hij, Hg.out]; rw [Bool.eq_false_iff] at hs ⊢; simp at hs ⊢; exact fun e => hs e.symm
          · exact Hj.out i (by omega)
        case measure => simp [intOf]; omega
      · have hR := Hat.out j hlt Hj.out (by rw [Hg.out]; simp at hs ⊢; exact hs.symm)
        subst hR
        go_wp2
        go_ret
        exact ⟨rfl, rfl⟩
    · have hge : (l.length : Int) ≤ (j : Int) := by omega
      have hR := Hno.out (fun i hi => Hj.out i (by omega))
      subst hR
      go_wp2
      go_ret
      exact ⟨rfl, rfl⟩

end Go.Proofs.YtmjiljhcjfnfpaaGreat

/- Contract on a number that is in a row, or not. -/
namespace Go.Proofs.YtmjiljhcjfnfpaaGreat
open Go.RowKit

set_option maxHeartbeats 1000000 in
theorem has_i (A : Option Addr) (cap : Nat) (l : List Int) (x : Int) (w : World) (h : Ints w A l) (hle : l.length ≤ 9223372036854775807) :
    Calls Tryz.prog 85 #[.slice A l.length cap, .int .i64 x] w fun e w' => e = .returned (.bool (l.any (· == x))) ∧ w' = w := by
  have Hi := hide (index_i A cap l x w h hle)
  rw [← idxI_ge]
  clear h
  generalize idxI l x = R at *
  go_enter Tryz.func85, Tryz.ntmps85
  go_wp2_with fail
  refine Hi.out.mono ?_
  rintro e w1 ⟨rfl, rfl⟩
  go_wp2
  go_ret
  exact ⟨rfl, rfl⟩

end Go.Proofs.YtmjiljhcjfnfpaaGreat

/- Contract: rows of numbers alike. -/
namespace Go.Proofs.YtmjiljhcjfnfpaaGreat
open Go.RowKit

theorem alike_ofI {l m : List Int} (hlen : l.length = m.length) (h : ∀ i, i < l.length → l.getD i 0 = m.getD i 0) : l = m := by
  apply List.ext_getElem hlen
  intro i h1 h2
  have := h i h1
  simpa [h1, h2] using this

set_option maxHeartbeats 1000000 in
theorem ref_ints (A B : Option Addr) (cap cap' : Nat) (l m : List Int) (w : World) (h : Ints w A l) (h' : Ints w B m) (hle : l.length ≤ 9223372036854775807) :
    Calls Tryz.prog 20 #[.slice A l.length cap, .slice B m.length cap'] w fun e w' => e = .returned (.bool (decide (l = m))) ∧ Ext w w' := by
  by_cases hlen : l.length = m.length
  · have Hall : Hid ((∀ j, j < l.length → l.getD j 0 = m.getD j 0) → decide (l = m) = true) := hide (fun hall => decide_eq_true (alike_ofI hlen hall))
    have Hne : Hid (∀ j, l.getD j 0 ≠ m.getD j 0 → decide (l = m) = false) := hide (fun j hj => decide_eq_false (fun e => hj (by rw [e])))
    have Hl := hide h
    have Hm := hide h'
    have Hlen := hide hlen
    clear h h'
    generalize decide (l = m) = R at *
    rw [← hlen]
    clear hlen
    go_enter Tryz.func20, Tryz.ntmps20
    go_wp2
    go_loopw [5] (fun i wr => ∃ j : Nat, j ≤ l.length ∧ i = .int .i64 j ∧ Hid (∀ i, i < j → l.getD i 0 = m.getD i 0) ∧ ∃ n, wr = w.drewN n) (fun i _ => l.length - (intOf i).toNat)
    case atStart => exact ⟨0, Nat.zero_le _, rfl, hide (fun i hi => absurd hi (by omega)), 0, rfl⟩
    case round =>
      obtain ⟨j, hj, rfl, Hj, n, rfl⟩ := hrel
      by_cases hlt : j < l.length
      · obtain ⟨b, o, rfl, hb, hc⟩ := Hl.out.at_ hlt
        obtain ⟨b', o', rfl, hb', hc'⟩ := Hm.out.at_ (by rw [← Hlen.out]; exact hlt)
        have hlt' : (j : Int) < (l.length : Int) := by omega
        have hj0 : (0 : Int) ≤ (j : Int) := by omega
        have Hy : Hid (l.getD j 0 = l[j]'hlt) := hide (by simp [hlt])
        have hltm : j < m.length := by rw [← Hlen.out]; exact hlt
        have Hz : Hid (m.getD j 0 = m[j]'hltm) := hide (by simp [hltm])
        generalize l[j]'hlt = y at *
        generalize m[j]'_ = z at *
        cases hs : (y != z)
        · go_wp2
          go_quiet (fail)
          go_wp2
          go_roundw
          case rel =>
            refine ⟨j + 1, hlt, by go_num, hide (fun i hi => ?_), _, rfl⟩
            by_cases hij : i = j
            · subst hij; rw [Hy.out, Hz.out]; simpa using hs
            · exact Hj.out i (by omega)
          case measure => simp [intOf]; omega
        · have hR := Hne.out j (by rw [Hy.out, Hz.out]; simpa using hs)
          subst hR
          go_wp2
          go_quiet (fail)
          go_wp2
          go_ret
          exact ⟨rfl, (by repeat (first | exact Ext.refl _ | exact Ext.pre (by simp) | exact Ext.alloc (by assumption) _ | refine Ext.alloc ?_ _ |  refine Ext.more ?_ _ _ | refine Ext.drew ?_ | refine Ext.drewN ?_ _))⟩
      · have hge : (l.length : Int) ≤ (j : Int) := by omega
        have hR := Hall.out (fun i hi => Hj.out i (by omega))
        subst hR
        go_wp2
        go_ret
        exact ⟨rfl, (by repeat (first | exact Ext.refl _ | exact Ext.pre (by simp) | exact Ext.alloc (by assumption) _ | refine Ext.alloc ?_ _ |  refine Ext.more ?_ _ _ | refine Ext.drew ?_ | refine Ext.drewN ?_ _))⟩
  · have hne : ((l.length : Int) != (m.length : Int)) = true := by rw [bne_iff_ne]; omega
    have hR : decide (l = m) = false := decide_eq_false (fun e => hlen (by rw [e]))
    rw [hR]
    clear h h' hR
    go_enter Tryz.func20, Tryz.ntmps20
    go_wp2
    go_ret
    exact ⟨rfl, (by repeat (first | exact Ext.refl _ | exact Ext.pre (by simp) | exact Ext.alloc (by assumption) _ | refine Ext.alloc ?_ _ |  refine Ext.more ?_ _ _ | refine Ext.drew ?_ | refine Ext.drewN ?_ _))⟩

end Go.Proofs.YtmjiljhcjfnfpaaGreat
