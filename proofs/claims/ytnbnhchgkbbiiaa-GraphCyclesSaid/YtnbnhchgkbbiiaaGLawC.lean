/- The law GraphCycles, walked. -/
import Derived.Test.YtnbnhchgkbbiiaaGAw
import Derived.Test.YtnbnhchgkbbiiaaAhd
namespace Go.Proofs.Ytnbnhchgkbbiiaa
open Go.RowKit

theorem grps_one (w : World) (t : TypeId) (A : Option Addr) (c : Nat) (o : List Nat) (h : Ints w A (zs o)) (h1 : o.length ≤ c) (h2 : c ≤ 9223372036854775807) : Grps (w.alloc (.cells #[.slice A o.length c] t)) (some ⟨w.heap.size, 0, none⟩) [o] := by
  refine ⟨[⟨.slice A o.length c, zs o⟩], rfl, RowOf.block slvC _ (t := t) (fr := (0, 0)) (at_newB _ _ _ rfl), ?_⟩
  intro s hs
  simp only [List.mem_cons, List.not_mem_nil, or_false] at hs
  subst hs
  exact ⟨A, c, by rw [zs_len], by rw [zs_len]; exact h1, h2, RowOf.ext intC h ((Ext.refl _).alloc _)⟩
/-- Does any of the first vertices go round? -/
noncomputable def roundK (es : List Edge) (k : Nat) : Bool := (List.range k).any fun v => reachB es v v
theorem roundK_succ (es : List Edge) (k : Nat) : roundK es (k + 1) = (roundK es k || reachB es k k) := by
  unfold roundK
  rw [List.range_succ, List.any_append]
  simp
theorem roundK_all {n : Nat} {es : List Edge} (hg : graphOk n es = true) : roundK es n = (grpsL n es).any (roundL es) := by
  apply bool_eq
  rw [round_any hg]
  unfold roundK
  simp [List.any_eq_true, reachB_iff]
theorem reach_any {n : Nat} {es : List Edge} (hg : graphOk n es = true) {v : Nat} (hv : v < n) : ((reachL n v es).any fun x => x == v) = reachB es v v := by
  apply bool_eq
  rw [reachB_iff, ← reach_mem hg hv, List.any_eq_true]
  simp

set_option maxRecDepth 10000 in
set_option maxHeartbeats 8000000 in
theorem law_cycles (n : Int) (A : Option Addr) (cap : Nat) (es : List Edge) (w : World) (h : Edges w A es) :
    Calls Try.prog 6 #[.int .i64 n, .slice A es.length cap] w fun e w' => e = .returned (.bool true) ∧ Ext w w' := by
  have Hf := hide (l_few n A cap es w)
  cases hf : (decide (n ≤ 40) && decide (es.length ≤ 150))
  · rw [hf] at Hf
    clear hf h
    go_enter Try.func6, Try.ntmps6
    go_wp2_with fail
    refine Hf.out.mono ?_
    rintro e w1 ⟨rfl, rfl⟩
    go_wp2_with fail
    refine (l_awake _).mono ?_
    rintro e w2 ⟨rfl, hx2⟩
    go_wp2
    go_ret
    exact ⟨rfl, hx2⟩
  · rw [hf] at Hf
    simp only [Bool.and_eq_true, decide_eq_true_eq] at hf
    have hlen : es.length ≤ 100000 := by omega
    have Hc := hide (g_check n A cap es w h hlen)
    cases hok : graphOk n es
    · rw [hok] at Hc
      clear hok h hf
      go_enter Try.func6, Try.ntmps6
      go_wp2_with fail
      refine Hf.out.mono ?_
      rintro e w1 ⟨rfl, rfl⟩
      go_wp2_with fail
      refine Hc.out.mono ?_
      rintro e w2 ⟨rfl, hx2⟩
      go_wp2_with fail
      refine (l_awake _).mono ?_
      rintro e w3 ⟨rfl, hx3⟩
      go_wp2
      go_ret
      exact ⟨rfl, hx2.trans hx3⟩
    · rw [hok] at Hc
      have h0 : 0 ≤ n := by unfold graphOk at hok; simp at hok; omega
      obtain ⟨N, rfl⟩ := Int.eq_ofNat_of_zero_le h0
      have H1 := hide (fun w' (e : Ext w w') => hide (g_order N A cap es w' (RowOf.ext edgeC h e) hlen))
      have H2 := hide (fun v w' (e : Ext w w') => hide (g_reachA N v A cap es w' (RowOf.ext edgeC h e) hlen))
      have H3 := hide (fun w' (e : Ext w w') => hide (g_cycle N A cap es w' (RowOf.ext edgeC h e) hlen))
      have Hr := hide h
      have HoL : Hid (orderL N es = if (grpsL N es).any (roundL es) then [] else (grpsL N es).flatten) := hide (by unfold orderL; rw [hok]; cases (grpsL N es).any (roundL es) <;> rfl)
      have HoN : Hid (orderN N es = if (grpsL N es).any (roundL es) then 9 else 0) := hide (by unfold orderN; rw [hok]; rfl)
      have Hcp := hide (cycle_pos (n := (N : Int)) (es := es))
      have Hrk := hide (roundK_all hok)
      have Hra := hide (fun v (hv : v < N) => reach_any hok hv)
      have Hfm := hide (fun v (hv : v < N) => flat_mem hok hv)
      have Hfl := hide (grps_flat hok)
      have Hed : Hid (∀ e ∈ es, ∃ y : Nat, e.b = y ∧ y < N) := hide (by
        have hoe : ∀ e ∈ es, edgeOk N e = true := by unfold graphOk at hok; simp at hok; exact hok.2
        intro e he
        have := hoe e he
        unfold edgeOk at this
        simp only [Bool.and_eq_true, decide_eq_true_eq] at this
        obtain ⟨y, hy⟩ := Int.eq_ofNat_of_zero_le this.1.2
        exact ⟨y, hy, by omega⟩)
      have hN40 : N ≤ 40 := by omega
      clear hok h hf h0
      generalize (grpsL N es).flatten = FL at *
      generalize (grpsL N es).any (roundL es) = RR at *
      generalize orderL N es = OL at *
      generalize orderN N es = ON at *
      generalize cycleL N es = CY at *
      go_enter Try.func6, Try.ntmps6
      go_wp2_with fail
      refine Hf.out.mono ?_
      rintro e w1 ⟨rfl, rfl⟩
      go_wp2_with fail
      refine Hc.out.mono ?_
      rintro e w2 ⟨rfl, hx2⟩
      have X2 := hide hx2
      clear hx2
      go_wp2_with fail
      refine (H1.out _ X2.out).out.mono ?_
      rintro e w3 ⟨⟨A3, c3, rfl, p1, p2, hI3⟩, hx3⟩
      have HI3 := hide hI3
      have X3 := hide (X2.out.trans hx3)
      clear hI3 hx3
      have Hz : Hid (roundK es 0 = false) := hide rfl
      go_wp2
      go_loopw [7, 8] (fun u i wr => ∃ k : Nat, k ≤ N ∧ i = .int .i64 k ∧ u = .bool (roundK es k) ∧ Hid (Ext w3 wr)) (fun _ i _ => N - (intOf i).toNat)
      case atStart => exact ⟨0, Nat.zero_le _, rfl, by rw [Hz.out], hide (Ext.refl _)⟩
      case round =>
        obtain ⟨k, hk, rfl, rfl, HX⟩ := hrel
        by_cases hlt : k < N
        · have hlt' : (k : Int) < (N : Int) := by omega
          have Hsu : Hid (roundK es (k + 1) = (roundK es k || ((reachL N k es).any fun x => x == k))) := hide (by rw [roundK_succ, Hra.out k hlt])
          have Hrc := H2.out k _ (X3.out.trans HX.out)
          have Hrc2 := hide Hrc
          clear Hrc
          generalize roundK es k = b0 at *
          generalize reachL N k es = R at *
          go_wp2_with fail
          refine Hrc2.out.out.mono ?_
          rintro e w5 ⟨⟨A5, c5, rfl, q1, q2, hI5⟩, hx5⟩
          have HI5 := hide hI5
          have X5 := hide (HX.out.trans hx5)
          clear hI5 hx5
          go_wp2
          go_loopw [7, 10] (fun u i wr => ∃ j : Nat, j ≤ R.length ∧ i = .int .i64 j ∧ u = .bool (b0 || ((R.take j).any fun x => x == k)) ∧ Hid (Ext w5 wr)) (fun _ i _ => R.length - (intOf i).toNat)
          case atStart => exact ⟨0, Nat.zero_le _, rfl, by simp, hide (Ext.refl _)⟩
          case round =>
            obtain ⟨j, hj, rfl, rfl, HXj⟩ := hrel
            by_cases hlt5 : j < R.length
            · have hlt5' : (j : Int) < (R.length : Int) := by omega
              have hz : j < (zs R).length := by rw [zs_len]; exact hlt5
              obtain ⟨b6, o6, rfl, hb6, q6⟩ := Ints.at_ (RowOf.ext intC HI5.out HXj.out) hz
              rw [zs_get _ hz hlt5] at q6
              have Htk : Hid ((b0 || ((R.take (j + 1)).any fun x => x == k)) = ((b0 || ((R.take j).any fun x => x == k)) || (R[j]'hlt5 == k))) := hide (by rw [List.take_succ_eq_append_getElem hlt5, List.any_append, Bool.or_assoc]; simp)
              generalize R[j]'hlt5 = x at *
              generalize (b0 || ((R.take j).any fun x => x == k)) = b1 at *
              cases b1
              · by_cases hxk : x = k
                · have hxk1 : (x : Int) = (k : Int) := by omega
                  have hxk2 : ((x : Int) == (k : Int)) = true := by simpa using hxk1
                  have Hx := hide hxk
                  clear hxk hxk1
                  go_wp2
                  go_roundw
                  case rel => exact ⟨j + 1, hlt5, by go_num, by rw [Htk.out, Hx.out]; try simp, HXj⟩
                  case measure => simp [intOf]; omega
                · have hxk1 : ¬ (x : Int) = (k : Int) := by omega
                  have hxk2 : ((x : Int) == (k : Int)) = false := by simpa using hxk1
                  have Hx := hide hxk
                  clear hxk
                  go_wp2
                  go_roundw
                  case rel => exact ⟨j + 1, hlt5, by go_num, by rw [Htk.out, show (x == k) = false from by simpa using Hx.out]; rfl, HXj⟩
                  case measure => simp [intOf]; omega
              · go_wp2
                go_roundw
                case rel => exact ⟨j + 1, hlt5, by go_num, by rw [Htk.out]; try rfl, HXj⟩
                case measure => simp [intOf]; omega
            · have hge5 : ¬ (j : Int) < (R.length : Int) := by omega
              have e1 : R.take j = R := List.take_of_length_le (by omega)
              rw [e1, ← Hsu.out]
              clear e1
              go_wp2
              go_roundw
              case rel => exact ⟨k + 1, hlt, by go_num, rfl, hide (X5.out.trans HXj.out)⟩
              case measure => simp [intOf]; omega
        · rename World => wB
          have hge : ¬ (k : Int) < (N : Int) := by omega
          have hkN : k = N := by omega
          rw [hkN, Hrk.out]
          clear hkN
          cases RR
          · have e1 : OL = FL := HoL.out
            have e2 : ON = 0 := HoN.out
            have e3 : CY.length = 0 := by have := Hcp.out; simp at this; simp [this]
            have e4 : OL.length = N := by rw [e1]; exact Hfl.out
            have Hmm : Hid (∀ v, v < N → v ∈ OL) := hide (fun v hv => by rw [e1]; exact Hfm.out v hv)
            have E4 := hide e4
            rw [e3] at H3
            clear HoL HoN Hcp Hrk e1 e3 e4
            subst e2
            rw [E4.out] at p1 ⊢
            have HG1 : Hid (∀ w', Ext w3 w' → Grps (w'.alloc (.cells #[.slice A3 N c3] 31)) (some ⟨w'.heap.size, 0, none⟩) [OL]) := hide (fun w' e => by
              have := grps_one w' 31 A3 c3 OL (RowOf.ext intC HI3.out e) (by rw [E4.out]; exact p1) p2
              rwa [E4.out] at this)
            have HA1 : Hid (∀ y w', y < N → Ext w3 w' → Hid (Calls Try.prog 24 #[.slice (some ⟨w'.heap.size, 0, none⟩) 1 1, .int .i64 (y : Nat)] (w'.alloc (.cells #[.slice A3 N c3] 31)) fun e w'' => e = .returned (.int .i64 0) ∧ w'' = w'.alloc (.cells #[.slice A3 N c3] 31))) := hide (fun y w' hy e => by
              have := l_at (some ⟨w'.heap.size, 0, none⟩) 1 [OL] y _ (HG1.out w' e) (by decide : 1 ≤ 1000)
              rw [at_one (Hmm.out y hy)] at this
              exact this)
            have hNN : ((N : Int) == (N : Int)) = true := by simp
            go_wp2
            go_loopw [11] (fun i wr => ∃ j : Nat, j ≤ es.length ∧ i = .int .i64 j ∧ Hid (Ext w3 wr)) (fun i _ => es.length - (intOf i).toNat)
            case atStart => exact ⟨0, Nat.zero_le _, rfl, HX⟩
            case round =>
              obtain ⟨j, hj, rfl, HX5⟩ := hrel
              by_cases hlt5 : j < es.length
              · have hlt5' : (j : Int) < (es.length : Int) := by omega
                have hj0 : (0 : Int) ≤ (j : Int) := by omega
                obtain ⟨b, o, rfl, hb, c0, c1⟩ := Edges.at_ (RowOf.ext edgeC Hr.out (X3.out.trans HX5.out)) hlt5
                obtain ⟨y, hy, hyN⟩ := Hed.out _ (List.getElem_mem hlt5)
                rw [hy] at c1
                have HA := hide (HA1.out y _ hyN HX5.out)
                clear hy
                go_wp2_with fail
                refine HA.out.out.mono ?_
                rintro e w6 ⟨rfl, rfl⟩
                go_wp2
                go_roundw
                case rel => exact ⟨j + 1, hlt5, by go_num, hide (HX5.out.trans (by repeat (first | exact Ext.refl _ | exact Ext.pre (by simp) | exact Ext.alloc (by assumption) _ | refine Ext.alloc ?_ _ |  refine Ext.more ?_ _ _ | refine Ext.drew ?_ | refine Ext.drewN ?_ _)))⟩
                case measure => simp [intOf]; omega
              · have hge5 : ¬ (j : Int) < (es.length : Int) := by omega
                go_wp2_with fail
                refine (H3.out _ (X3.out.trans HX5.out)).out.mono ?_
                rintro e w8 ⟨⟨A8, c8, rfl, -, -, -⟩, hx8⟩
                have X8 := hide ((X3.out.trans HX5.out).trans hx8)
                clear hx8
                go_wp2_with fail
                refine (l_awake _).mono ?_
                rintro e w9 ⟨rfl, hx9⟩
                go_wp2
                go_ret
                exact ⟨rfl, X8.out.trans hx9⟩
          · have e1 : OL = [] := HoL.out
            have e2 : ON = 9 := HoN.out
            have e3 : 0 < CY.length := Hcp.out.2 rfl
            have e4 : (CY.length : Int) > 0 := by omega
            clear HoL HoN Hcp Hrk
            subst e2
            go_wp2_with fail
            refine (H3.out _ (X3.out.trans HX.out)).out.mono ?_
            rintro e w8 ⟨⟨A8, c8, rfl, -, -, -⟩, hx8⟩
            have X8 := hide ((X3.out.trans HX.out).trans hx8)
            clear hx8
            go_wp2_with fail
            refine (l_awake _).mono ?_
            rintro e w9 ⟨rfl, hx9⟩
            go_wp2
            go_ret
            exact ⟨rfl, X8.out.trans hx9⟩

end Go.Proofs.Ytnbnhchgkbbiiaa
