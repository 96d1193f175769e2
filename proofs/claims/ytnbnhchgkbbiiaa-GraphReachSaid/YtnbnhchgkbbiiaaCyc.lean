/- Contracts: the groups of any graph; the first that goes round; all vertices, in order. -/
import Derived.Test.YtnbnhchgkbbiiaaGrp
import Derived.Test.YtnbnhchgkbbiiaaRnd
namespace Go.Proofs.Ytnbnhchgkbbiiaa
open Go.RowKit

open Classical in
/-- Is a vertex reached from another one? -/
noncomputable def reachB (es : List Edge) (i j : Nat) : Bool := decide (SR (nextN es) i j)
theorem reachB_iff (es : List Edge) (i j : Nat) : reachB es i j = true ↔ SR (nextN es) i j := by simp [reachB]
noncomputable def grpsL (n : Int) (es : List Edge) : List (List Nat) := if graphOk n es then groupsOf n.toNat (reachB es) else []
def okN (n : Int) (es : List Edge) : Int := if graphOk n es then 0 else 1
theorem Grps.nil (w : World) : Grps w none [] := ⟨[], rfl, RowOf.nil _ _ _, by simp⟩

set_option maxRecDepth 10000 in
set_option maxHeartbeats 2000000 in
theorem g_groupsA (n : Int) (A : Option Addr) (cap : Nat) (es : List Edge) (w : World) (h : Edges w A es) (hlen : es.length ≤ 100000) :
    Calls Try.prog 12 #[.int .i64 n, .slice A es.length cap] w fun e w' => (∃ A' cap', e = .returned (.tuple #[.slice A' (grpsL n es).length cap', .int .i64 (okN n es)]) ∧ (grpsL n es).length ≤ cap' ∧ cap' ≤ 9223372036854775807 ∧ Grps w' A' (grpsL n es)) ∧ Ext w w' := by
  cases hg : graphOk n es
  · have hG : grpsL n es = [] := by unfold grpsL; rw [hg]; rfl
    have hN : okN n es = 1 := by unfold okN; rw [hg]; rfl
    rw [hG, hN]
    clear hG hN
    have Hc := hide (g_check n A cap es w h hlen)
    rw [hg] at Hc
    clear hg h
    go_enter Try.func12, Try.ntmps12
    go_wp2_with fail
    refine Hc.out.mono ?_
    rintro e w1 ⟨rfl, l1, d1, rfl⟩
    go_wp2
    go_ret2
    exact ⟨⟨none, 0, rfl, Nat.le_refl _, by omega, Grps.nil _⟩, (by repeat (first | exact Ext.refl _ | exact Ext.pre (by simp) | exact Ext.alloc (by assumption) _ | refine Ext.alloc ?_ _ |  refine Ext.more ?_ _ _ | refine Ext.drew ?_ | refine Ext.drewN ?_ _))⟩
  · have h0 : 0 ≤ n := by unfold graphOk at hg; simp at hg; omega
    obtain ⟨k, rfl⟩ := Int.eq_ofNat_of_zero_le h0
    have hG : grpsL k es = groupsOf k (reachB es) := by unfold grpsL; rw [hg]; rfl
    have hN : okN k es = 0 := by unfold okN; rw [hg]; rfl
    rw [hG, hN]
    exact g_groups k A cap es w h hg hlen (reachB es) (fun i j _ => reachB_iff es i j)

theorem grps_mem {n : Int} {es : List Edge} {g : List Nat} (h : g ∈ grpsL n es) : 0 < g.length ∧ g.length ≤ 1000 ∧ ∀ x ∈ g, (x : Int) < n := by
  unfold grpsL at h
  split at h
  · rename_i hg
    have h0 : n ≤ 1000 := by unfold graphOk at hg; simp at hg; omega
    obtain ⟨a, ha, _, rfl⟩ := selGo_mem _ _ _ h
    refine ⟨List.length_pos_of_mem (comp_self ha), ?_, fun x hx => ?_⟩
    · unfold compL
      have := List.length_filter_le (fun j => j == a || (reachB es j a && reachB es a j)) (List.range n.toNat)
      simp at this
      omega
    · have := List.mem_range.1 (List.mem_filter.1 hx).1
      omega
  · cases h
theorem grps_len (n : Int) (es : List Edge) : (grpsL n es).length ≤ 1000 := by
  unfold grpsL
  split
  · rename_i hg
    have h0 : n ≤ 1000 := by unfold graphOk at hg; simp at hg; omega
    have : ∀ f d, (selGo n.toNat (reachB es) f d).length ≤ f := by
      intro f
      induction f with
      | zero => intro d; simp [selGo]
      | succ f ih =>
        intro d
        unfold selGo
        split
        · simp
        · have := ih (addDone n.toNat (reachB es) d ‹_›)
          simp
          omega
    have := this n.toNat fun _ => false
    unfold groupsOf
    omega
  · simp
theorem Grps.at_ {w : World} {A : Option Addr} {gs : List (List Nat)} (h : Grps w A gs) {i : Nat} (hi : i < gs.length) : ∃ b o A1 c1, A = some ⟨b, o, none⟩ ∧ b < w.heap.size ∧ w.cell? ⟨b, o + i, none⟩ = some (.slice A1 (gs[i]'hi).length c1) ∧ (gs[i]'hi).length ≤ c1 ∧ c1 ≤ 9223372036854775807 ∧ Ints w A1 (zs (gs[i]'hi)) := by
  obtain ⟨out, h1, h2, h3⟩ := h
  have hl : out.length = gs.length := by have := congrArg List.length h1; simpa using this
  have hio : i < out.length := by omega
  obtain ⟨b, o, e, hb, hc⟩ := RowOf.at_ slvC h2 hio
  obtain ⟨A1, c1, e1, e2, e3, e4⟩ := h3 _ (List.getElem_mem hio)
  have e5 : (out[i]'hio).l = zs (gs[i]'hi) := by
    have h5 : (out.map (·.l))[i]'(by simpa using hio) = (gs.map zs)[i]'(by simpa using hi) := by congr 1
    simpa using h5
  rw [e5, zs_len] at e1 e2
  rw [e5] at e4
  refine ⟨b, o, A1, c1, e, hb, ?_, e2, e3, e4⟩
  have := hc 0 (by decide)
  simp only [slvC, Nat.mul_one, Nat.add_zero] at this
  rw [this, ← e1]
  rfl
theorem find_drop {α : Type} (p : α → Bool) (l : List α) {k : Nat} (h : k < l.length) : (l.drop k).find? p = if p (l[k]'h) then some (l[k]'h) else (l.drop (k + 1)).find? p := by
  rw [List.drop_eq_getElem_cons h, List.find?_cons]
  cases p (l[k]'h) <;> rfl

noncomputable def cycleL (n : Int) (es : List Edge) : List Nat := ((grpsL n es).find? (roundL es)).getD []
set_option maxRecDepth 10000 in
set_option maxHeartbeats 4000000 in
theorem g_cycle (n : Int) (A : Option Addr) (cap : Nat) (es : List Edge) (w : World) (h : Edges w A es) (hlen : es.length ≤ 100000) :
    Calls Try.prog 20 #[.int .i64 n, .slice A es.length cap] w fun e w' => (∃ A' cap', e = .returned (.slice A' (cycleL n es).length cap') ∧ (cycleL n es).length ≤ cap' ∧ cap' ≤ 9223372036854775807 ∧ Ints w' A' (zs (cycleL n es))) ∧ Ext w w' := by
  have Hr := hide h
  have Hmem := hide (fun g (hg : g ∈ grpsL n es) => grps_mem hg)
  have hgl := grps_len n es
  have Hgr := hide (g_groupsA n A cap es w h hlen)
  have HR : Hid ((((grpsL n es).drop 0).find? (roundL es)).getD [] = cycleL n es) := hide rfl
  generalize cycleL n es = R at *
  clear h
  generalize grpsL n es = gs at *
  go_enter Try.func20, Try.ntmps20
  go_wp2_with fail
  refine Hgr.out.mono ?_
  rintro e w1 ⟨⟨A1, c1, rfl, h1, h2, hG⟩, hx1⟩
  have HG := hide hG
  have HX1 := hide hx1
  clear hG hx1
  go_wp2
  go_loopw [17] (fun i wr => ∃ k : Nat, k ≤ gs.length ∧ i = .int .i64 k ∧ Hid (Ext w1 wr) ∧ Hid (((gs.drop k).find? (roundL es)).getD [] = R)) (fun i _ => gs.length - (intOf i).toNat)
  case atStart => exact ⟨0, Nat.zero_le _, rfl, hide (Ext.refl _), HR⟩
  case round =>
    obtain ⟨k, hk, rfl, HX, HK⟩ := hrel
    by_cases hlt : k < gs.length
    · have hlt' : (k : Int) < (gs.length : Int) := by omega
      obtain ⟨b, o, A2, c2, rfl, hb, q1, q2, q3, q4⟩ := (HG.out.ext HX.out).at_ hlt
      have HI := hide q4
      obtain ⟨m1, m2, _⟩ := Hmem.out _ (List.getElem_mem hlt)
      have HK2 : Hid ((if roundL es (gs[k]'hlt) then some (gs[k]'hlt) else (gs.drop (k + 1)).find? (roundL es)).getD [] = R) := hide (by rw [← find_drop]; exact HK.out)
      clear q4
      generalize gs[k]'hlt = g at *
      have Hrd := hide (g_round A2 A c2 cap g es wr HI.out m1 m2 (RowOf.ext edgeC Hr.out (HX1.out.trans HX.out)) hlen)
      cases hrr : roundL es g
      · rw [hrr] at Hrd HK2
        clear hrr
        go_wp2_with fail
        refine Hrd.out.mono ?_
        rintro e w2 ⟨rfl, hx2⟩
        have HX2 := hide hx2
        clear hx2
        go_wp2
        go_roundw
        case rel => exact ⟨k + 1, hlt, by go_num, hide (HX.out.trans HX2.out), hide HK2.out⟩
        case measure => simp [intOf]; omega
      · rw [hrr] at Hrd HK2
        have hR : R = g := HK2.out.symm
        clear hrr HK2 HK HR
        subst hR
        go_wp2_with fail
        refine Hrd.out.mono ?_
        rintro e w2 ⟨rfl, hx2⟩
        have HX2 := hide hx2
        clear hx2
        go_wp2
        go_ret
        exact ⟨⟨A2, c2, rfl, q2, q3, RowOf.ext intC HI.out HX2.out⟩, (HX1.out.trans HX.out).trans HX2.out⟩
    · have hge : (gs.length : Int) ≤ (k : Int) := by omega
      have hR : R = [] := by
        have := HK.out
        rw [List.drop_eq_nil_of_le (by omega)] at this
        exact this.symm
      clear HK HR
      subst hR
      go_wp2
      go_ret
      exact ⟨⟨none, 0, rfl, Nat.le_refl _, by omega, RowOf.nil _ _ _⟩, HX1.out.trans HX.out⟩

end Go.Proofs.Ytnbnhchgkbbiiaa
