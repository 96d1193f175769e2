/- Contract: where a binding or a signature comes again, by the program. -/
import Derived.Test.YtnbnhchgkbbiiaaUsB
import Derived.Test.YtnbnhchgkbbiiaaStD
namespace Go.Proofs.Ytnbnhchgkbbiiaa
open Go.RowKit Go.Sort

/-- The texts of the nodes of a kind. -/
def namesK (kk : Int) (l : List Tree) : List Str := (l.filter fun t => t.kind == kk).map Tree.text
theorem namesK_take (kk : Int) (l : List Tree) {k : Nat} (h : k < l.length) : namesK kk (l.take (k + 1)) = namesK kk (l.take k) ++ if (l[k]'h).kind == kk then [(l[k]'h).text] else [] := by
  unfold namesK
  rw [List.take_succ_eq_append_getElem h, List.filter_append, List.map_append]
  congr 1
  cases hk : ((l[k]'h).kind == kk) <;> simp [hk]
theorem findB_names (kk : Int) (hkk : kk = 31 ∨ kk = 32) (pre : List Tree) (t : Tree) (ht : t.kind = kk) : findB (ofL (namesK kk pre)) t.text = pre.any (dupB t) := by
  rw [Bool.eq_iff_iff, mem_findB (ofL_rising _), ofL_mem, List.any_eq_true]
  unfold namesK dupB
  simp only [List.mem_map, List.mem_filter, Bool.and_eq_true, Bool.or_eq_true, beq_iff_eq]
  subst ht
  constructor
  · rintro ⟨u, ⟨hu, h1⟩, h2⟩
    exact ⟨u, hu, ⟨hkk, h1⟩, h2⟩
  · rintro ⟨u, hu, ⟨_, h1⟩, h2⟩
    exact ⟨u, ⟨hu, h1⟩, h2⟩

set_option maxRecDepth 10000 in
set_option maxHeartbeats 4000000 in
theorem u_twice (A : Option Addr) (cap : Nat) (l : List Tree) (w : World) (h : NodesIn w A l) (hl : l.length ≤ 10000) :
    Calls Try.prog 27 #[.slice A l.length cap] w fun e w' => e = .returned (.tuple #[.int .i64 (twiceL l).1, .bool (twiceL l).2]) ∧ Ext w w' := by
  have HK := hide h
  have HD := hide (fun i (hi : i < l.length) => twGo_drop l hi)
  have HN1 := hide (fun i (hi : i < l.length) => namesK_take 31 l hi)
  have HN2 := hide (fun i (hi : i < l.length) => namesK_take 32 l hi)
  have HR : Hid (twGo (l.take 0) (l.drop 0) = twiceL l) := hide rfl
  generalize twiceL l = R at *
  clear h
  go_enter Try.func27, Try.ntmps27
  go_wp2_with fail
  refine (setl_new none 0 [] w (Strs.nil _) (by simp) (by simp)).mono ?_
  rintro e w1 ⟨⟨s1, r1, n1, rfl, a1, a2, a3, hS1⟩, hx1⟩
  have S1 := hide hS1
  have X1 := hide hx1
  clear hS1 hx1
  go_wp2_with fail
  refine (setl_new none 0 [] w1 (Strs.nil _) (by simp) (by simp)).mono ?_
  rintro e w2 ⟨⟨s2, r2, n2, rfl, b1, b2, b3, hS2⟩, hx2⟩
  have S1b := hide (S1.out.ext hx2)
  have S2 := hide hS2
  have X2 := hide (X1.out.trans hx2)
  have d1 := S1.out.lts
  have d2 := S1.out.ltr
  have d3 := S2.out.lts
  have d4 := S2.out.ltr
  clear hS2 hx2 S1 X1
  go_wp2
  go_loopw [12] (fun iv wr => ∃ i m1 m2 : Nat, i ≤ l.length ∧ iv = .int .i64 i ∧ m1 ≤ 10000 + i ∧ m2 ≤ 10000 + i ∧ Hid (Ext w wr) ∧ w2.heap.size ≤ wr.heap.size ∧ Hid (SetL wr s1 r1 m1 (ofL (namesK 31 (l.take i)))) ∧ Hid (SetL wr s2 r2 m2 (ofL (namesK 32 (l.take i)))) ∧ Hid (twGo (l.take i) (l.drop i) = R)) (fun iv _ => l.length - (intOf iv).toNat)
  case atStart => exact ⟨0, n1, n2, Nat.zero_le _, rfl, by omega, by omega, X2, Nat.le_refl _, S1b, S2, HR⟩
  case round =>
    obtain ⟨i, m1, m2, hi, rfl, hm1, hm2, HX, hsz, T1, T2, HT⟩ := hrel
    by_cases hlt : i < l.length
    · have hlt' : (i : Int) < (l.length : Int) := by omega
      have hi0 : (0 : Int) ≤ (i : Int) := by omega
      obtain ⟨b, o, rfl, hb, q0, q1, q2, q3, q4⟩ := (HK.out.ext HX.out).at_ hlt
      have htx := (HK.out.kids _ (List.getElem_mem hlt)).txt
      have HT2 := hide (HD.out i hlt)
      rw [HT.out] at HT2
      have HM1 := hide (HN1.out i hlt)
      have HM2 := hide (HN2.out i hlt)
      have HF1 : Hid ((l[i]'hlt).kind = 31 → findB (ofL (namesK 31 (l.take i))) (l[i]'hlt).text = (l.take i).any (dupB (l[i]'hlt))) := hide (fun e => findB_names 31 (.inl rfl) _ _ e)
      have HF2 : Hid ((l[i]'hlt).kind = 32 → findB (ofL (namesK 32 (l.take i))) (l[i]'hlt).text = (l.take i).any (dupB (l[i]'hlt))) := hide (fun e => findB_names 32 (.inr rfl) _ _ e)
      have HF3 : Hid ((l[i]'hlt).kind ≠ 31 → (l[i]'hlt).kind ≠ 32 → (l.take i).any (dupB (l[i]'hlt)) = false) := hide (fun e1 e2 => by
        rw [List.any_eq_false]
        intro u _
        unfold dupB
        simp [e1, e2])
      have HB := hide (NBox.new wr (l[i]'hlt))
      generalize l[i]'hlt = t at *
      generalize (l.take i).any (dupB t) = D at *
      generalize namesK 31 (l.take i) = L1 at *
      generalize namesK 32 (l.take i) = L2 at *
      have XA : Hid (Ext w (wr.alloc (.cells #[.int .i64 t.kind, .int .i64 t.pos, .int .i64 t.n, encStr t.text, .slice t.A t.kids.length t.cap] 54))) := hide (HX.out.alloc _)
      have T1a : Hid (SetL (wr.alloc (.cells #[.int .i64 t.kind, .int .i64 t.pos, .int .i64 t.n, encStr t.text, .slice t.A t.kids.length t.cap] 54)) s1 r1 m1 (ofL L1)) := hide (T1.out.ext ((Ext.refl _).alloc _))
      have T2a : Hid (SetL (wr.alloc (.cells #[.int .i64 t.kind, .int .i64 t.pos, .int .i64 t.n, encStr t.text, .slice t.A t.kids.length t.cap] 54)) s2 r2 m2 (ofL L2)) := hide (T2.out.ext ((Ext.refl _).alloc _))
      have hsA : (wr.alloc (.cells #[.int .i64 t.kind, .int .i64 t.pos, .int .i64 t.n, encStr t.text, .slice t.A t.kids.length t.cap] 54)).heap.size = wr.heap.size + 1 := by simp
      by_cases h31 : t.kind = 31
      · have hk31 : (t.kind == 31) = true := by rw [h31]; rfl
        have hk32 : (t.kind == 32) = false := by rw [h31]; rfl
        rw [hk31] at HM1
        rw [hk32] at HM2
        have HA := hide (setl_add T1a.out t.text htx (by omega))
        rw [HF1.out h31] at HA
        clear h31 HF1 HF2 HF3
        cases D
        · go_wp2_with fail
          refine HA.out.mono ?_
          rintro e w4 ⟨rfl, hS4, hg4⟩
          have S4 := hide hS4
          have X4 := hide (XA.out.grown hg4 (fun j hj => by injection hj with hj; omega))
          have T4 := hide (T2a.out.grown hg4 (by simp; omega) (by simp; omega))
          have HB4 : Hid (NBox w4 wr.heap.size t) := hide ((hg4.block _ HB.out.lt (by simp; omega)).trans HB.out)
          have hs4 := hg4.size
          have c0 := HB4.out.c0
          clear hS4 hg4
          go_wp2
          go_roundw
          case rel => exact ⟨i + 1, m1 + 1, m2, hlt, by go_num, by omega, by omega, X4, by omega, hide (by rw [HM1.out]; simpa [ofL_snoc] using S4.out), hide (by rw [HM2.out]; simpa using T4.out), hide (by have := HT2.out; simpa using this.symm)⟩
          case measure => simp [intOf]; omega
        · have hR : R = (t.pos, false) := by have := HT2.out; simpa using this
          clear HT HT2 HR
          subst hR
          go_wp2_with fail
          refine HA.out.mono ?_
          rintro e w4 ⟨rfl, hS4, hg4⟩
          have X4 := hide (XA.out.grown hg4 (fun j hj => by injection hj with hj; omega))
          have HB4 : Hid (NBox w4 wr.heap.size t) := hide ((hg4.block _ HB.out.lt (by simp; omega)).trans HB.out)
          have c0 := HB4.out.c0
          have c1 := HB4.out.c1
          clear hS4 hg4
          go_wp2
          go_ret2
          exact ⟨rfl, X4.out⟩
      · have hk31 : (t.kind == 31) = false := by simpa using h31
        rw [hk31] at HM1
        by_cases h32 : t.kind = 32
        · have hk32 : (t.kind == 32) = true := by rw [h32]; rfl
          rw [hk32] at HM2
          have HA := hide (setl_add T2a.out t.text htx (by omega))
          rw [HF2.out h32] at HA
          clear h31 h32 HF1 HF2 HF3
          cases D
          · go_wp2_with fail
            refine HA.out.mono ?_
            rintro e w4 ⟨rfl, hS4, hg4⟩
            have S4 := hide hS4
            have X4 := hide (XA.out.grown hg4 (fun j hj => by injection hj with hj; omega))
            have T4 := hide (T1a.out.grown hg4 (by simp; omega) (by simp; omega))
            have hs4 := hg4.size
            clear hS4 hg4
            go_wp2
            go_roundw
            case rel => exact ⟨i + 1, m1, m2 + 1, hlt, by go_num, by omega, by omega, X4, by omega, hide (by rw [HM1.out]; simpa using T4.out), hide (by rw [HM2.out]; simpa [ofL_snoc] using S4.out), hide (by have := HT2.out; simpa using this.symm)⟩
            case measure => simp [intOf]; omega
          · have hR : R = (t.pos, false) := by have := HT2.out; simpa using this
            clear HT HT2 HR
            subst hR
            go_wp2_with fail
            refine HA.out.mono ?_
            rintro e w4 ⟨rfl, hS4, hg4⟩
            have X4 := hide (XA.out.grown hg4 (fun j hj => by injection hj with hj; omega))
            have HB4 : Hid (NBox w4 wr.heap.size t) := hide ((hg4.block _ HB.out.lt (by simp; omega)).trans HB.out)
            have c0 := HB4.out.c0
            have c1 := HB4.out.c1
            clear hS4 hg4
            go_wp2
            go_ret2
            exact ⟨rfl, X4.out⟩
        · have hk32 : (t.kind == 32) = false := by simpa using h32
          rw [hk32] at HM2
          have hD := HF3.out h31 h32
          subst hD
          clear h31 h32 HF1 HF2 HF3
          go_wp2
          go_roundw
          case rel => exact ⟨i + 1, m1, m2, hlt, by go_num, by omega, by omega, XA, by simp; omega, hide (by rw [HM1.out]; simpa using T1a.out), hide (by rw [HM2.out]; simpa using T2a.out), hide (by have := HT2.out; simpa using this.symm)⟩
          case measure => simp [intOf]; omega
    · have hge : ¬ (i : Int) < (l.length : Int) := by omega
      have hR : R = (0, true) := by
        have := HT.out
        rw [List.drop_eq_nil_of_le (by omega)] at this
        exact this.symm
      clear HT HR
      subst hR
      go_wp2
      go_ret2
      exact ⟨rfl, HX.out⟩

end Go.Proofs.Ytnbnhchgkbbiiaa
