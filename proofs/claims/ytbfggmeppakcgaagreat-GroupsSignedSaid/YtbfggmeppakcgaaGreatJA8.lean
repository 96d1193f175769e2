/- Contract: the walk over a tree's names: alternatives. (A program of ours has printed the walk.) -/
import Derived.Test.YtbfggmeppakcgaaGreatJA7
import Derived.Deep.RegionHeld3
import Derived.Shelf.Abstract
/- Contract: the walk over a tree's names: alternatives. (A program of ours has printed the walk.) -/
namespace Go.Proofs.YtbfggmeppakcgaaGreat
open Go.RowKit Go.Shelf

set_option maxRecDepth 10000 in
set_option maxHeartbeats 4000000 in
theorem u_walk_alt (t : Tree) (ih : ∀ k ∈ t.kids, WalksT k) (h21 : (t.kind == 21) = false) (h25 : (t.kind == 25) = false) (h26 : (t.kind == 26) = false) (h15 : (t.kind == 15) = true) (h32 : (t.kind == 32) = false) : WalksT t := by
  intro w0 w c base v fv us p h hB hw0 hO hA hok hsz
  obtain ⟨f, lb, rfl, eg, hA2⟩ := id hA
  have IH := hide ih
  have HNt := hide (h.old hB)
  have HKn := hide h.nodes
  have hle := h.le
  have hmx := h.max
  have htx := h.txt
  have HUe := hide (usesL_eq t p)
  have HOk0 := hide ((walkOk_eq t).1 hok)
  have HSz := hide (Tree.size_eq t)
  have HBx := hide (NBox.new w t)
  have X1 : Hid (Ext w ((w.alloc (.cells #[.int .i64 t.kind, .int .i64 t.pos, .int .i64 t.n, encStr t.text, .slice t.A t.kids.length t.cap] 28)).alloc (.cells #[.func (.func f) #[] lb] 43))) := hide (((Ext.refl _).alloc _).alloc _)
  have HBy : Hid (NBox ((w.alloc (.cells #[.int .i64 t.kind, .int .i64 t.pos, .int .i64 t.n, encStr t.text, .slice t.A t.kids.length t.cap] 28)).alloc (.cells #[.func (.func f) #[] lb] 43)) w.heap.size t) := hide (HBx.out.ext ((Ext.refl _).alloc _))
  have HCl : Hid (((w.alloc (.cells #[.int .i64 t.kind, .int .i64 t.pos, .int .i64 t.n, encStr t.text, .slice t.A t.kids.length t.cap] 28)).alloc (.cells #[.func (.func f) #[] lb] 43)).heap[w.heap.size + 1]? = some (.cells #[.func (.func f) #[] lb] 43 (0, 0))) := hide (at_newB _ _ _ (by simp))
  have hsz1 : ((w.alloc (.cells #[.int .i64 t.kind, .int .i64 t.pos, .int .i64 t.n, encStr t.text, .slice t.A t.kids.length t.cap] 28)).alloc (.cells #[.func (.func f) #[] lb] 43)).heap.size = w.heap.size + 2 := by simp
  have HO := hide hO
  have HA := hide hA
  have HA2 := hide hA2
  have HBw := hide hB
  have kne : ∀ n : Int, (t.kind == n) = false → t.kind ≠ n := fun n hn e => by rw [e] at hn; simp at hn
  have keq : ∀ n : Int, (t.kind == n) = true → t.kind = n := fun n hn => by simpa using hn
  clear ih h hB hO hA hA2 hok
  have hlen1 : 1 ≤ t.kids.length := by
    rcases HOk0.out with h | ⟨h, _⟩
    · exact absurd h (kne 32 h32)
    · exact h (keq 15 h15)
  have HOk : Hid (∀ k ∈ t.kids.drop 1, walkOk k) := hide (by
    rcases HOk0.out with h | ⟨_, h⟩
    · exact absurd h (kne 32 h32)
    · have e : inner t = t.kids.drop 1 := by unfold inner; rw [if_pos (keq 15 h15)]
      rw [e] at h
      exact h)
  have hbp : bp t p = fun s => (varsN (t.kid 0)).any (· == s) || p s := by unfold bp; rw [if_neg (kne 25 h25), if_neg (kne 26 h26), if_pos (keq 15 h15)]
  have hin : inner t = t.kids.drop 1 := by unfold inner; rw [if_pos (keq 15 h15)]
  have HU : Hid (us ++ usesesL (t.kids.drop 1) (fun s => (varsN (t.kid 0)).any (· == s) || p s) = us ++ usesL t p) := hide (by
    rw [HUe.out, if_neg (kne 32 h32), hbp, hin]
    unfold ownU
    rw [h21]
    rfl)
  have HSum : Hid (us.length + sizes (t.kids.drop 1) ≤ 100000) := hide (by
    have h1 := HSz.out
    have h2 := inner_sizes t
    rw [hin] at h2
    unfold sizes at h2 ⊢
    omega)
  have hlt0 : 0 < t.kids.length := hlen1
  have hkm := List.getElem_mem hlt0
  have hks := Tree.size_kid hkm
  rw [kid_get hlt0] at HU
  have hvl := varsL_len (t.kids[0]'hlt0)
  have HV := hide (fun w' (e : Ext w w') => hide (pp_vars (t.kids[0]'hlt0) w' ((HNt.out.nodes.kids _ hkm).ext e) (by omega)))
  have hvn : (varsN (t.kids[0]'hlt0)).length ≤ 100000 := by unfold varsN; rw [List.length_map]; omega
  obtain ⟨b, o, hAe, hbb⟩ := HNt.out.nodes.some_ hlt0
  have HQ : Hid (∀ w', Ext w w' → w'.cell? ⟨b, o, none⟩ = some (.int .i64 (t.kids[0]'hlt0).kind) ∧ w'.cell? ⟨b, o + 1, none⟩ = some (.int .i64 (t.kids[0]'hlt0).pos) ∧ w'.cell? ⟨b, o + 2, none⟩ = some (.int .i64 (t.kids[0]'hlt0).n) ∧ w'.cell? ⟨b, o + 3, none⟩ = some (.string ⟨(t.kids[0]'hlt0).text.toArray⟩) ∧ w'.cell? ⟨b, o + 4, none⟩ = some (.slice (t.kids[0]'hlt0).A (t.kids[0]'hlt0).kids.length (t.kids[0]'hlt0).cap)) := hide (fun w' e => by
    have h1 := HNt.out.nodes.ext e
    rw [hAe] at h1
    have := h1.cells hlt0
    simpa using this)
  have hcap1 : t.cap ≠ 1 ∨ t.kids.length = 1 := by omega
  have HAe := hide hAe
  have hs1 : (1 : Int) ≤ (t.kids.length : Int) := by omega
  have hs2 : (t.kids.length : Int) ≤ (t.cap : Int) := by omega
  have hs3 : (1 : Int) ≤ (t.cap : Int) := by omega
  have hs5 : 1 ≤ t.cap := by omega
  have hs6 : (0 : Int) < (t.kids.length : Int) := by omega
  have Hlen : Hid (t.kids.length - 1 = (t.kids.drop 1).length) := hide (by simp)
  have HKd : Hid (NodesIn w0 (if t.cap = 1 then some ⟨b, o, none⟩ else some ⟨b, o + 5, none⟩) (t.kids.drop 1)) := hide (by
    have h1 := HKn.out.cut (k := 1) (cap := t.cap) hlen1 hle
    rw [hAe] at h1
    exact h1)
  clear hbp hin hkm HKn hAe
  generalize t.kids[0]'hlt0 = c0 at *
  generalize varsN c0 = LV at *
  clear kne keq HUe HOk0
  unfold treeV at *
  generalize hA0 : t.A = A0 at *
  have HA0 := hide hA0
  clear hA0
  have hA1 := HAe.out
  subst hA1
  by_cases hc1 : t.cap = 1
  · have hl1 : t.kids.length = 1 := by omega
    have Hl1 := hide hl1
    have Hc1 := hide hc1
    clear HKd hc1 hl1
    go_enter Tryz.func37, Tryz.ntmps37
    go_wp2
    generalize ((w.alloc (.cells #[.int .i64 t.kind, .int .i64 t.pos, .int .i64 t.n, encStr t.text, .slice (some ⟨b, o, none⟩) t.kids.length t.cap] 28)).alloc (.cells #[.func (.func f) #[] lb] 43)) = w1 at *
    have hc1 := Hc1.out
    have hl1 : (t.kids.length : Int) = 1 := by have := Hl1.out; omega
    have hl2 : t.kids.length = 1 := Hl1.out
    have c4 := HBy.out.c4
    rw [HA0.out, hc1, hl2] at c4
    clear hs1 hs2 hs3 hs5 hs6 hle hmx hcap1 hlen1 hlt0
    obtain ⟨q0, q1, q2, q3, q4⟩ := HQ.out _ X1.out
    have g1 := X1.out.size
    have HBz := hide HBy.out
    go_region_held3 (fun w' => w'.cell? ⟨w.heap.size, 4, none⟩ = some (.slice (some ⟨b, o, none⟩) 1 1) ∧ w'.cell? ⟨b, o, none⟩ = some (.int .i64 c0.kind) ∧ w'.cell? ⟨b, o + 1, none⟩ = some (.int .i64 c0.pos) ∧ w'.cell? ⟨b, o + 2, none⟩ = some (.int .i64 c0.n) ∧ w'.cell? ⟨b, o + 3, none⟩ = some (.string ⟨c0.text.toArray⟩) ∧ w'.cell? ⟨b, o + 4, none⟩ = some (.slice c0.A c0.kids.length c0.cap)) (first | assumption | go_keep) (first
      | (go_at_call 57
         refine Calls.mono (HV.out _ (X1.out.trans ((Ext.refl _).drew))).out ?_
         rintro e w4 ⟨⟨A5, c5, rfl, r1, r2, hR3, hR4⟩, hx4⟩
         have X4 := hide (X1.out.trans (((Ext.refl _).drew).trans hx4))
         have hS4 : w4.cell? ⟨w.heap.size, 4, none⟩ = some (.slice (some ⟨b, o, none⟩) 1 1) ∧ w4.cell? ⟨b, o, none⟩ = some (.int .i64 c0.kind) ∧ w4.cell? ⟨b, o + 1, none⟩ = some (.int .i64 c0.pos) ∧ w4.cell? ⟨b, o + 2, none⟩ = some (.int .i64 c0.n) ∧ w4.cell? ⟨b, o + 3, none⟩ = some (.string ⟨c0.text.toArray⟩) ∧ w4.cell? ⟨b, o + 4, none⟩ = some (.slice c0.A c0.kids.length c0.cap) := ⟨by
             have := (HBz.out.ext (((Ext.refl _).drew).trans hx4)).c4
             rwa [HA0.out, Hc1.out, Hl1.out] at this, HQ.out _ X4.out⟩
         have HCl2 := hide (((((Ext.refl _).drew).trans hx4).heap (lt_of_obj HCl.out)).trans HCl.out)
         have R3 := hide hR3
         have R4 := hide hR4
         have hs4 : w.heap.size + 1 < w4.heap.size := by have := (((Ext.refl w1).drew).trans hx4).size; omega
         clear hx4 hR3 hR4)
      | (go_at_call 55
         refine Calls.mono (u_also _ _ _ _ _) ?_
         rintro e w5 ⟨rfl, rfl⟩))
    have X5 : Hid (Ext w (w4.alloc (.cells #[.slice A5 LV.length c5] 25))) := hide (X4.out.alloc _)
    have g4 := X4.out.size
    have HAsk : Hid (AsksB c (w4.alloc (.cells #[.slice A5 LV.length c5] 25)) v (.func (.func 56) #[] #[.pointer (some ⟨w4.heap.size, 0, none⟩), .pointer (some ⟨w.heap.size + 1, 0, none⟩)]) (fun s => LV.any (· == s) || p s)) := hide (by
      refine also_asks A5 c5 w4.heap.size (w.heap.size + 1) LV uwalk11_opens (at_newB _ _ _ rfl) ?_ ?_ ?_ ?_ ?_ ?_ ?_ ?_ (HA.out.on (Tr.of_ext X5.out))
      · exact (((Ext.refl w4).alloc _).heap hs4).trans HCl2.out
      · exact R3.out.ext ((Ext.refl _).alloc _)
      · omega
      · exact (HO.out.new (by omega)).1
      · exact (HO.out.new (by omega)).1
      · exact (HO.out.new (by omega)).2
      · exact (HO.out.new (by omega)).2
      · intro b o e
        have h9 : w1.heap.size ≤ b := R4.out b o e
        exact HO.out.new (by omega))
    have OS : Hid (OutAt c base (w4.alloc (.cells #[.slice A5 LV.length c5] 25)) v us) := hide (HO.out.ext X5.out)
    have HBS : Hid (Below w0.heap.size w0 (w4.alloc (.cells #[.slice A5 LV.length c5] 25))) := hide (HBw.out.trans (X5.out.below.mono HBw.out.size))
    have HT0 : Hid (Tr c w v (w4.alloc (.cells #[.slice A5 LV.length c5] 25)) v) := hide (Tr.of_ext X5.out)
    clear R3 R4 HCl2
    generalize (w4.alloc (.cells #[.slice A5 LV.length c5] 25)) = w5 at *
    go_wp2
    have HF : Hid (us = us ++ usesL t p) := hide (by
      have h1 := HU.out
      have h2 : t.kids.drop 1 = [] := List.drop_eq_nil_of_le (by have := Hl1.out; omega)
      rw [h2] at h1
      simpa [usesesL] using h1)
    go_loopw [57] (fun i wr => i = .int .i64 0 ∧ Hid (wr = w5)) (fun _ _ => 0)
    case atStart => exact ⟨rfl, hide rfl⟩
    case round =>
      obtain ⟨rfl, HW⟩ := hrel
      have hW := HW.out
      subst hW
      go_wp2
      go_end0
      exact ⟨rfl, v, HF.out ▸ OS.out, HT0.out⟩
  rw [if_neg hc1] at HKd
  go_enter Tryz.func37, Tryz.ntmps37
  go_wp2
  generalize ((w.alloc (.cells #[.int .i64 t.kind, .int .i64 t.pos, .int .i64 t.n, encStr t.text, .slice (some ⟨b, o, none⟩) t.kids.length t.cap] 28)).alloc (.cells #[.func (.func f) #[] lb] 43)) = w1 at *
  have c4 := HBy.out.c4
  rw [HA0.out] at c4
  obtain ⟨q0, q1, q2, q3, q4⟩ := HQ.out _ X1.out
  have g1 := X1.out.size
  have HBz := hide HBy.out
  go_region_held3 (fun w' => w'.cell? ⟨w.heap.size, 4, none⟩ = some (.slice (some ⟨b, o, none⟩) t.kids.length t.cap) ∧ w'.cell? ⟨b, o, none⟩ = some (.int .i64 c0.kind) ∧ w'.cell? ⟨b, o + 1, none⟩ = some (.int .i64 c0.pos) ∧ w'.cell? ⟨b, o + 2, none⟩ = some (.int .i64 c0.n) ∧ w'.cell? ⟨b, o + 3, none⟩ = some (.string ⟨c0.text.toArray⟩) ∧ w'.cell? ⟨b, o + 4, none⟩ = some (.slice c0.A c0.kids.length c0.cap)) (first | assumption | go_keep) (first
    | (go_at_call 57
       refine Calls.mono (HV.out _ (X1.out.trans ((Ext.refl _).drew))).out ?_
       rintro e w4 ⟨⟨A5, c5, rfl, r1, r2, hR3, hR4⟩, hx4⟩
       have X4 := hide (X1.out.trans (((Ext.refl _).drew).trans hx4))
       have hS4 : w4.cell? ⟨w.heap.size, 4, none⟩ = some (.slice (some ⟨b, o, none⟩) t.kids.length t.cap) ∧ w4.cell? ⟨b, o, none⟩ = some (.int .i64 c0.kind) ∧ w4.cell? ⟨b, o + 1, none⟩ = some (.int .i64 c0.pos) ∧ w4.cell? ⟨b, o + 2, none⟩ = some (.int .i64 c0.n) ∧ w4.cell? ⟨b, o + 3, none⟩ = some (.string ⟨c0.text.toArray⟩) ∧ w4.cell? ⟨b, o + 4, none⟩ = some (.slice c0.A c0.kids.length c0.cap) := ⟨by
           have := (HBz.out.ext (((Ext.refl _).drew).trans hx4)).c4
           rwa [HA0.out] at this, HQ.out _ X4.out⟩
       have HCl2 := hide (((((Ext.refl _).drew).trans hx4).heap (lt_of_obj HCl.out)).trans HCl.out)
       have R3 := hide hR3
       have R4 := hide hR4
       have hs4 : w.heap.size + 1 < w4.heap.size := by have := (((Ext.refl w1).drew).trans hx4).size; omega
       clear hx4 hR3 hR4)
    | (go_at_call 55
       refine Calls.mono (u_also _ _ _ _ _) ?_
       rintro e w5 ⟨rfl, rfl⟩))
  have X5 : Hid (Ext w (w4.alloc (.cells #[.slice A5 LV.length c5] 25))) := hide (X4.out.alloc _)
  have g4 := X4.out.size
  have HAsk : Hid (AsksB c (w4.alloc (.cells #[.slice A5 LV.length c5] 25)) v (.func (.func 56) #[] #[.pointer (some ⟨w4.heap.size, 0, none⟩), .pointer (some ⟨w.heap.size + 1, 0, none⟩)]) (fun s => LV.any (· == s) || p s)) := hide (by
    refine also_asks A5 c5 w4.heap.size (w.heap.size + 1) LV uwalk11_opens (at_newB _ _ _ rfl) ?_ ?_ ?_ ?_ ?_ ?_ ?_ ?_ (HA.out.on (Tr.of_ext X5.out))
    · exact (((Ext.refl w4).alloc _).heap hs4).trans HCl2.out
    · exact R3.out.ext ((Ext.refl _).alloc _)
    · omega
    · exact (HO.out.new (by omega)).1
    · exact (HO.out.new (by omega)).1
    · exact (HO.out.new (by omega)).2
    · exact (HO.out.new (by omega)).2
    · intro b o e
      have h9 : w1.heap.size ≤ b := R4.out b o e
      exact HO.out.new (by omega))
  have OS : Hid (OutAt c base (w4.alloc (.cells #[.slice A5 LV.length c5] 25)) v us) := hide (HO.out.ext X5.out)
  have HBS : Hid (Below w0.heap.size w0 (w4.alloc (.cells #[.slice A5 LV.length c5] 25))) := hide (HBw.out.trans (X5.out.below.mono HBw.out.size))
  have HT0 : Hid (Tr c w v (w4.alloc (.cells #[.slice A5 LV.length c5] 25)) v) := hide (Tr.of_ext X5.out)
  have HKn := HKd
  have hsD : (t.kids.drop 1).length = t.kids.length - 1 := by simp
  have HsD := hide hsD
  have hmD : ∀ x, x ∈ t.kids.drop 1 → x ∈ t.kids := fun x hx => List.mem_of_mem_drop hx
  clear R3 R4 HCl2 hsD
  generalize (w4.alloc (.cells #[.slice A5 LV.length c5] 25)) = w5 at *
  go_wp2
  go_loopw [57] (fun i wr => ∃ (k : Nat) (v' : Value), k ≤ (t.kids.length - 1) ∧ i = .int .i64 k ∧ Hid (OutAt c base wr v' (us ++ usesesL ((t.kids.drop 1).take k) (fun s => LV.any (· == s) || p s))) ∧ Hid (Tr c w5 v wr v')) (fun i _ => (t.kids.length - 1) - (intOf i).toNat)
  case atStart => exact ⟨0, v, Nat.zero_le _, rfl, hide (by simpa [usesesL] using OS.out), hide (Tr.refl _ _ _)⟩
  case round =>
    obtain ⟨k, v', hk, rfl, HOw, HTr⟩ := hrel
    by_cases hlt : k < (t.kids.length - 1)
    · have hlt' : (k : Int) < (((t.kids.length - 1) : Nat) : Int) := by omega
      have hk0 : (0 : Int) ≤ (k : Int) := by omega
      have hlk : k < (t.kids.drop 1).length := by have := Hlen.out; omega
      have HKw : Hid (Below w0.heap.size w0 wr) := hide (HBS.out.trans (HTr.out.below HBS.out.size hw0 (fun j hj => by have := (OS.out.own.lt j hj).1; have := OS.out.lt; omega)))
      obtain ⟨q0, q1, q2, q3, q4⟩ := (HKn.out.old HKw.out).cells hlk
      have hck : (t.kids.drop 1)[k]'hlk ∈ t.kids := hmD _ (List.getElem_mem hlk)
      have Hst := hide (usesesL_take (t.kids.drop 1) (fun s => LV.any (· == s) || p s) hlk)
      have hroom := usesesL_room (t.kids.drop 1) (fun s => LV.any (· == s) || p s) hlk
      have HC := hide (IH.out _ hck w0 (wr.alloc (.cells #[.int .i64 ((t.kids.drop 1)[k]'hlk).kind, .int .i64 ((t.kids.drop 1)[k]'hlk).pos, .int .i64 ((t.kids.drop 1)[k]'hlk).n, encStr ((t.kids.drop 1)[k]'hlk).text, .slice ((t.kids.drop 1)[k]'hlk).A ((t.kids.drop 1)[k]'hlk).kids.length ((t.kids.drop 1)[k]'hlk).cap] 28)) c base v' (.func (.func 56) #[] #[.pointer (some ⟨w4.heap.size, 0, none⟩), .pointer (some ⟨w.heap.size + 1, 0, none⟩)]) (us ++ usesesL ((t.kids.drop 1).take k) (fun s => LV.any (· == s) || p s)) (fun s => LV.any (· == s) || p s) (HKn.out.kids _ (List.getElem_mem hlk)) (HKw.out.alloc HKw.out.size _) hw0 (HOw.out.ext ((Ext.refl _).alloc _)) (HAsk.out.on (HTr.out.trans (Tr.of_ext ((Ext.refl _).alloc _)))) (HOk.out _ (List.getElem_mem hlk)) (by have := HSum.out; simp only [List.length_append] at *; omega))
      have HT2 : Hid (Tr c w5 v (wr.alloc (.cells #[.int .i64 ((t.kids.drop 1)[k]'hlk).kind, .int .i64 ((t.kids.drop 1)[k]'hlk).pos, .int .i64 ((t.kids.drop 1)[k]'hlk).n, encStr ((t.kids.drop 1)[k]'hlk).text, .slice ((t.kids.drop 1)[k]'hlk).A ((t.kids.drop 1)[k]'hlk).kids.length ((t.kids.drop 1)[k]'hlk).cap] 28)) v') := hide (HTr.out.trans (Tr.of_ext ((Ext.refl _).alloc _)))
      clear hck hroom
      generalize (t.kids.drop 1)[k]'hlk = cc at *
      go_wp2_with fail
      refine HC.out.mono ?_
      rintro e w9 ⟨rfl, v9, hO9, hT9⟩
      have T9 := hide (HT2.out.trans hT9)
      have O9 := hide hO9
      clear hO9 hT9
      go_wp2
      go_roundw
      case rel => exact ⟨k + 1, v9, hlt, by go_num, hide (by rw [Hst.out, ← List.append_assoc]; exact O9.out), T9⟩
      case measure => simp [intOf]; omega
    · have hge : ¬ (k : Int) < (((t.kids.length - 1) : Nat) : Int) := by omega
      have HF : Hid (us ++ usesesL ((t.kids.drop 1).take k) (fun s => LV.any (· == s) || p s) = us ++ usesL t p) := hide (by rw [List.take_of_length_le (by have := Hlen.out; omega)]; exact HU.out)
      rw [HF.out] at HOw
      go_wp2
      go_end0
      exact ⟨rfl, v', HOw.out, HT0.out.trans HTr.out⟩

end Go.Proofs.YtbfggmeppakcgaaGreat

/- Contracts on nodes: predicates, signatures, bindings, alternatives. (A program of ours has printed the walks.) -/
namespace Go.Proofs.YtbfggmeppakcgaaGreat
open Go.RowKit Go.Shelf

theorem nvar_opens : Opens 68 := enters_of Tryz.func68 (by kernel_rfl) rfl
theorem ncon_opens : Opens 69 := enters_of Tryz.func69 (by kernel_rfl) rfl
theorem n_var_as : AsksS 68 varB := fun s w h => n_var s w h
theorem n_con_as : AsksS 69 conB := fun s w h => n_con s w h
set_option maxRecDepth 10000 in
set_option maxHeartbeats 1000000 in
theorem n_pred (t : Tree) (ih : ∀ k ∈ t.kids, Asks 98 typeB k) : Asks 97 predB t := by
  intro w h
  have HE : Hid (predB t = (decide (t.kind = 3) && namedB conB t && decide (t.kids.length = 1) && typeB (t.kid 0))) := hide (rfl)
  have Hk := hide h.nodes
  have hle := h.le
  have hmx := h.max
  have HB0 := hide (NBox.new w t)
  have X0 : Hid (Ext w (w.alloc (.cells #[.int .i64 t.kind, .int .i64 t.pos, .int .i64 t.n, encStr t.text, .slice t.A t.kids.length t.cap] 28))) := hide ((Ext.refl w).alloc _)
  have H1 := hide (fun w' (e : Ext w w') => hide (n_named 69 conB n_con_as ncon_opens t w' (h.ext e)))
  generalize predB t = R at *
  generalize namedB conB t = B1 at *
  unfold treeV at *
  have HN := hide h
  clear h
  generalize hA0 : t.A = A0 at *
  have HA0 := hide hA0
  clear hA0
  by_cases hp0 : t.kind = 3
  · have hki : (t.kind == 3) = true := by simpa using hp0
    have HP0 := hide hp0
    clear hp0
    cases B1
    · have hR : R = false := by rw [HE.out]; simp
      clear HE
      subst hR
      go_enter Tryz.func97, Tryz.ntmps97
      go_wp2_with fail
      refine (H1.out _ X0.out).out.mono ?_
      rintro e w2 ⟨rfl, hx⟩
      have X2 := hide (X0.out.trans hx)
      have HB2 := hide (HB0.out.ext hx)
      clear hx
      have c0_1 := HB2.out.c0
      have c1_1 := HB2.out.c1
      have c2_1 := HB2.out.c2
      have c3_1 := HB2.out.c3
      have c4_1 := HB2.out.c4
      rw [HA0.out] at c4_1
      go_wp2
      go_ret
      exact ⟨rfl, X2.out⟩
    · by_cases hp2 : t.kids.length = 1
      · have hpi : ((t.kids.length : Int) == 1) = true := beq_iff_eq.2 (by omega)
        have hpz0 : (0 : Int) < (t.kids.length : Int) := by omega
        have HP2 := hide hp2
        clear hp2
        have hlt0 : 0 < t.kids.length := by have := HP2.out; omega
        obtain ⟨b, o, hAe, hb⟩ := Hk.out.some_ (by omega)
        subst hAe
        have HQ0 : Hid (∀ w', Ext w w' → w'.cell? ⟨b, o, none⟩ = some (.int .i64 (t.kids[0]'hlt0).kind) ∧ w'.cell? ⟨b, o + 1, none⟩ = some (.int .i64 (t.kids[0]'hlt0).pos) ∧ w'.cell? ⟨b, o + 2, none⟩ = some (.int .i64 (t.kids[0]'hlt0).n) ∧ w'.cell? ⟨b, o + 3, none⟩ = some (.string ⟨(t.kids[0]'hlt0).text.toArray⟩) ∧ w'.cell? ⟨b, o + 4, none⟩ = some (.slice (t.kids[0]'hlt0).A (t.kids[0]'hlt0).kids.length (t.kids[0]'hlt0).cap)) := hide (fun w' e => by have := (Hk.out.ext e).cells hlt0; simpa using this)
        have HN0 := hide (Hk.out.kids _ (List.getElem_mem hlt0))
        rw [kid_get hlt0] at HE
        have HMem0 := List.getElem_mem hlt0
        have H3 := hide (fun w' (e : Ext w w') => hide (ih (t.kids[0]'hlt0) HMem0 w' (HN0.out.ext e)))
        generalize typeB (t.kids[0]'hlt0) = B3 at *
        clear HMem0
        generalize t.kids[0]'hlt0 = c0 at *
        obtain ⟨q0_0, q1_0, q2_0, q3_0, q4_0⟩ := HQ0.out _ (Ext.refl w)
        have hR : R = B3 := by rw [HE.out]; simp [HP0.out, HP2.out]
        clear HE
        subst hR
        go_enter Tryz.func97, Tryz.ntmps97
        go_wp2_with fail
        refine (H1.out _ X0.out).out.mono ?_
        rintro e w2 ⟨rfl, hx⟩
        have X2 := hide (X0.out.trans hx)
        have HB2 := hide (HB0.out.ext hx)
        clear hx
        have c0_1 := HB2.out.c0
        have c1_1 := HB2.out.c1
        have c2_1 := HB2.out.c2
        have c3_1 := HB2.out.c3
        have c4_1 := HB2.out.c4
        rw [HA0.out] at c4_1
        obtain ⟨q0_1_0, q1_1_0, q2_1_0, q3_1_0, q4_1_0⟩ := HQ0.out _ X2.out
        go_wp2_with fail
        refine (H3.out _ X2.out).out.mono ?_
        rintro e w4 ⟨rfl, hx⟩
        have X4 := hide (X2.out.trans hx)
        have HB4 := hide (HB2.out.ext hx)
        clear hx
        have c0_3 := HB4.out.c0
        have c1_3 := HB4.out.c1
        have c2_3 := HB4.out.c2
        have c3_3 := HB4.out.c3
        have c4_3 := HB4.out.c4
        rw [HA0.out] at c4_3
        obtain ⟨q0_3_0, q1_3_0, q2_3_0, q3_3_0, q4_3_0⟩ := HQ0.out _ X4.out
        go_wp2
        go_ret
        exact ⟨rfl, X4.out⟩
      · have hpi : ((t.kids.length : Int) == 1) = false := beq_eq_false_iff_ne.2 (by omega)
        have HP2 := hide hp2
        clear hp2
        have hR : R = false := by rw [HE.out]; simp [HP2.out]
        clear HE
        subst hR
        go_enter Tryz.func97, Tryz.ntmps97
        go_wp2_with fail
        refine (H1.out _ X0.out).out.mono ?_
        rintro e w2 ⟨rfl, hx⟩
        have X2 := hide (X0.out.trans hx)
        have HB2 := hide (HB0.out.ext hx)
        clear hx
        have c0_1 := HB2.out.c0
        have c1_1 := HB2.out.c1
        have c2_1 := HB2.out.c2
        have c3_1 := HB2.out.c3
        have c4_1 := HB2.out.c4
        rw [HA0.out] at c4_1
        go_wp2
        go_ret
        exact ⟨rfl, X2.out⟩
  · have hki : (t.kind == 3) = false := by simpa using hp0
    have HP0 := hide hp0
    clear hp0
    have hR : R = false := by rw [HE.out]; simp [HP0.out]
    clear HE
    subst hR
    go_enter Tryz.func97, Tryz.ntmps97
    go_wp2
    go_ret
    exact ⟨rfl, (by repeat (first | exact Ext.refl _ | exact Ext.pre (by simp) | exact Ext.alloc (by assumption) _ | refine Ext.alloc ?_ _ |  refine Ext.more ?_ _ _ | refine Ext.drew ?_ | refine Ext.drewN ?_ _))⟩

set_option maxRecDepth 10000 in
set_option maxHeartbeats 1000000 in
theorem n_sig (t : Tree) (ih : ∀ k ∈ t.kids, Asks 86 qualB k) : Asks 74 sigB t := by
  intro w h
  have HE : Hid (sigB t = (decide (t.kind = 32) && namedB varB t && decide (t.kids.length = 1) && qualB (t.kid 0))) := hide (rfl)
  have Hk := hide h.nodes
  have hle := h.le
  have hmx := h.max
  have HB0 := hide (NBox.new w t)
  have X0 : Hid (Ext w (w.alloc (.cells #[.int .i64 t.kind, .int .i64 t.pos, .int .i64 t.n, encStr t.text, .slice t.A t.kids.length t.cap] 28))) := hide ((Ext.refl w).alloc _)
  have H1 := hide (fun w' (e : Ext w w') => hide (n_named 68 varB n_var_as nvar_opens t w' (h.ext e)))
  generalize sigB t = R at *
  generalize namedB varB t = B1 at *
  unfold treeV at *
  have HN := hide h
  clear h
  generalize hA0 : t.A = A0 at *
  have HA0 := hide hA0
  clear hA0
  by_cases hp0 : t.kind = 32
  · have hki : (t.kind == 32) = true := by simpa using hp0
    have HP0 := hide hp0
    clear hp0
    cases B1
    · have hR : R = false := by rw [HE.out]; simp
      clear HE
      subst hR
      go_enter Tryz.func74, Tryz.ntmps74
      go_wp2_with fail
      refine (H1.out _ X0.out).out.mono ?_
      rintro e w2 ⟨rfl, hx⟩
      have X2 := hide (X0.out.trans hx)
      have HB2 := hide (HB0.out.ext hx)
      clear hx
      have c0_1 := HB2.out.c0
      have c1_1 := HB2.out.c1
      have c2_1 := HB2.out.c2
      have c3_1 := HB2.out.c3
      have c4_1 := HB2.out.c4
      rw [HA0.out] at c4_1
      go_wp2
      go_ret
      exact ⟨rfl, X2.out⟩
    · by_cases hp2 : t.kids.length = 1
      · have hpi : ((t.kids.length : Int) == 1) = true := beq_iff_eq.2 (by omega)
        have hpz0 : (0 : Int) < (t.kids.length : Int) := by omega
        have HP2 := hide hp2
        clear hp2
        have hlt0 : 0 < t.kids.length := by have := HP2.out; omega
        obtain ⟨b, o, hAe, hb⟩ := Hk.out.some_ (by omega)
        subst hAe
        have HQ0 : Hid (∀ w', Ext w w' → w'.cell? ⟨b, o, none⟩ = some (.int .i64 (t.kids[0]'hlt0).kind) ∧ w'.cell? ⟨b, o + 1, none⟩ = some (.int .i64 (t.kids[0]'hlt0).pos) ∧ w'.cell? ⟨b, o + 2, none⟩ = some (.int .i64 (t.kids[0]'hlt0).n) ∧ w'.cell? ⟨b, o + 3, none⟩ = some (.string ⟨(t.kids[0]'hlt0).text.toArray⟩) ∧ w'.cell? ⟨b, o + 4, none⟩ = some (.slice (t.kids[0]'hlt0).A (t.kids[0]'hlt0).kids.length (t.kids[0]'hlt0).cap)) := hide (fun w' e => by have := (Hk.out.ext e).cells hlt0; simpa using this)
        have HN0 := hide (Hk.out.kids _ (List.getElem_mem hlt0))
        rw [kid_get hlt0] at HE
        have HMem0 := List.getElem_mem hlt0
        have H3 := hide (fun w' (e : Ext w w') => hide (ih (t.kids[0]'hlt0) HMem0 w' (HN0.out.ext e)))
        generalize qualB (t.kids[0]'hlt0) = B3 at *
        clear HMem0
        generalize t.kids[0]'hlt0 = c0 at *
        obtain ⟨q0_0, q1_0, q2_0, q3_0, q4_0⟩ := HQ0.out _ (Ext.refl w)
        have hR : R = B3 := by rw [HE.out]; simp [HP0.out, HP2.out]
        clear HE
        subst hR
        go_enter Tryz.func74, Tryz.ntmps74
        go_wp2_with fail
        refine (H1.out _ X0.out).out.mono ?_
        rintro e w2 ⟨rfl, hx⟩
        have X2 := hide (X0.out.trans hx)
        have HB2 := hide (HB0.out.ext hx)
        clear hx
        have c0_1 := HB2.out.c0
        have c1_1 := HB2.out.c1
        have c2_1 := HB2.out.c2
        have c3_1 := HB2.out.c3
        have c4_1 := HB2.out.c4
        rw [HA0.out] at c4_1
        obtain ⟨q0_1_0, q1_1_0, q2_1_0, q3_1_0, q4_1_0⟩ := HQ0.out _ X2.out
        go_wp2_with fail
        refine (H3.out _ X2.out).out.mono ?_
        rintro e w4 ⟨rfl, hx⟩
        have X4 := hide (X2.out.trans hx)
        have HB4 := hide (HB2.out.ext hx)
        clear hx
        have c0_3 := HB4.out.c0
        have c1_3 := HB4.out.c1
        have c2_3 := HB4.out.c2
        have c3_3 := HB4.out.c3
        have c4_3 := HB4.out.c4
        rw [HA0.out] at c4_3
        obtain ⟨q0_3_0, q1_3_0, q2_3_0, q3_3_0, q4_3_0⟩ := HQ0.out _ X4.out
        go_wp2
        go_ret
        exact ⟨rfl, X4.out⟩
      · have hpi : ((t.kids.length : Int) == 1) = false := beq_eq_false_iff_ne.2 (by omega)
        have HP2 := hide hp2
        clear hp2
        have hR : R = false := by rw [HE.out]; simp [HP2.out]
        clear HE
        subst hR
        go_enter Tryz.func74, Tryz.ntmps74
        go_wp2_with fail
        refine (H1.out _ X0.out).out.mono ?_
        rintro e w2 ⟨rfl, hx⟩
        have X2 := hide (X0.out.trans hx)
        have HB2 := hide (HB0.out.ext hx)
        clear hx
        have c0_1 := HB2.out.c0
        have c1_1 := HB2.out.c1
        have c2_1 := HB2.out.c2
        have c3_1 := HB2.out.c3
        have c4_1 := HB2.out.c4
        rw [HA0.out] at c4_1
        go_wp2
        go_ret
        exact ⟨rfl, X2.out⟩
  · have hki : (t.kind == 32) = false := by simpa using hp0
    have HP0 := hide hp0
    clear hp0
    have hR : R = false := by rw [HE.out]; simp [HP0.out]
    clear HE
    subst hR
    go_enter Tryz.func74, Tryz.ntmps74
    go_wp2
    go_ret
    exact ⟨rfl, (by repeat (first | exact Ext.refl _ | exact Ext.pre (by simp) | exact Ext.alloc (by assumption) _ | refine Ext.alloc ?_ _ |  refine Ext.more ?_ _ _ | refine Ext.drew ?_ | refine Ext.drewN ?_ _))⟩

set_option maxRecDepth 10000 in
set_option maxHeartbeats 1000000 in
theorem n_bind (t : Tree) (ih : ∀ k ∈ t.kids, Asks 54 expB k) : Asks 73 bindB t := by
  intro w h
  have HE : Hid (bindB t = (decide (t.kind = 31) && namedB varB t && decide (t.kids.length = 1) && expB (t.kid 0))) := hide (bind_eq t)
  have Hk := hide h.nodes
  have hle := h.le
  have hmx := h.max
  have HB0 := hide (NBox.new w t)
  have X0 : Hid (Ext w (w.alloc (.cells #[.int .i64 t.kind, .int .i64 t.pos, .int .i64 t.n, encStr t.text, .slice t.A t.kids.length t.cap] 28))) := hide ((Ext.refl w).alloc _)
  have H1 := hide (fun w' (e : Ext w w') => hide (n_named 68 varB n_var_as nvar_opens t w' (h.ext e)))
  generalize bindB t = R at *
  generalize namedB varB t = B1 at *
  unfold treeV at *
  have HN := hide h
  clear h
  generalize hA0 : t.A = A0 at *
  have HA0 := hide hA0
  clear hA0
  by_cases hp0 : t.kind = 31
  · have hki : (t.kind == 31) = true := by simpa using hp0
    have HP0 := hide hp0
    clear hp0
    cases B1
    · have hR : R = false := by rw [HE.out]; simp
      clear HE
      subst hR
      go_enter Tryz.func73, Tryz.ntmps73
      go_wp2_with fail
      refine (H1.out _ X0.out).out.mono ?_
      rintro e w2 ⟨rfl, hx⟩
      have X2 := hide (X0.out.trans hx)
      have HB2 := hide (HB0.out.ext hx)
      clear hx
      have c0_1 := HB2.out.c0
      have c1_1 := HB2.out.c1
      have c2_1 := HB2.out.c2
      have c3_1 := HB2.out.c3
      have c4_1 := HB2.out.c4
      rw [HA0.out] at c4_1
      go_wp2
      go_ret
      exact ⟨rfl, X2.out⟩
    · by_cases hp2 : t.kids.length = 1
      · have hpi : ((t.kids.length : Int) == 1) = true := beq_iff_eq.2 (by omega)
        have hpz0 : (0 : Int) < (t.kids.length : Int) := by omega
        have HP2 := hide hp2
        clear hp2
        have hlt0 : 0 < t.kids.length := by have := HP2.out; omega
        obtain ⟨b, o, hAe, hb⟩ := Hk.out.some_ (by omega)
        subst hAe
        have HQ0 : Hid (∀ w', Ext w w' → w'.cell? ⟨b, o, none⟩ = some (.int .i64 (t.kids[0]'hlt0).kind) ∧ w'.cell? ⟨b, o + 1, none⟩ = some (.int .i64 (t.kids[0]'hlt0).pos) ∧ w'.cell? ⟨b, o + 2, none⟩ = some (.int .i64 (t.kids[0]'hlt0).n) ∧ w'.cell? ⟨b, o + 3, none⟩ = some (.string ⟨(t.kids[0]'hlt0).text.toArray⟩) ∧ w'.cell? ⟨b, o + 4, none⟩ = some (.slice (t.kids[0]'hlt0).A (t.kids[0]'hlt0).kids.length (t.kids[0]'hlt0).cap)) := hide (fun w' e => by have := (Hk.out.ext e).cells hlt0; simpa using this)
        have HN0 := hide (Hk.out.kids _ (List.getElem_mem hlt0))
        rw [kid_get hlt0] at HE
        have HMem0 := List.getElem_mem hlt0
        have H3 := hide (fun w' (e : Ext w w') => hide (ih (t.kids[0]'hlt0) HMem0 w' (HN0.out.ext e)))
        generalize expB (t.kids[0]'hlt0) = B3 at *
        clear HMem0
        generalize t.kids[0]'hlt0 = c0 at *
        obtain ⟨q0_0, q1_0, q2_0, q3_0, q4_0⟩ := HQ0.out _ (Ext.refl w)
        have hR : R = B3 := by rw [HE.out]; simp [HP0.out, HP2.out]
        clear HE
        subst hR
        go_enter Tryz.func73, Tryz.ntmps73
        go_wp2_with fail
        refine (H1.out _ X0.out).out.mono ?_
        rintro e w2 ⟨rfl, hx⟩
        have X2 := hide (X0.out.trans hx)
        have HB2 := hide (HB0.out.ext hx)
        clear hx
        have c0_1 := HB2.out.c0
        have c1_1 := HB2.out.c1
        have c2_1 := HB2.out.c2
        have c3_1 := HB2.out.c3
        have c4_1 := HB2.out.c4
        rw [HA0.out] at c4_1
        obtain ⟨q0_1_0, q1_1_0, q2_1_0, q3_1_0, q4_1_0⟩ := HQ0.out _ X2.out
        go_wp2_with fail
        refine (H3.out _ X2.out).out.mono ?_
        rintro e w4 ⟨rfl, hx⟩
        have X4 := hide (X2.out.trans hx)
        have HB4 := hide (HB2.out.ext hx)
        clear hx
        have c0_3 := HB4.out.c0
        have c1_3 := HB4.out.c1
        have c2_3 := HB4.out.c2
        have c3_3 := HB4.out.c3
        have c4_3 := HB4.out.c4
        rw [HA0.out] at c4_3
        obtain ⟨q0_3_0, q1_3_0, q2_3_0, q3_3_0, q4_3_0⟩ := HQ0.out _ X4.out
        go_wp2
        go_ret
        exact ⟨rfl, X4.out⟩
      · have hpi : ((t.kids.length : Int) == 1) = false := beq_eq_false_iff_ne.2 (by omega)
        have HP2 := hide hp2
        clear hp2
        have hR : R = false := by rw [HE.out]; simp [HP2.out]
        clear HE
        subst hR
        go_enter Tryz.func73, Tryz.ntmps73
        go_wp2_with fail
        refine (H1.out _ X0.out).out.mono ?_
        rintro e w2 ⟨rfl, hx⟩
        have X2 := hide (X0.out.trans hx)
        have HB2 := hide (HB0.out.ext hx)
        clear hx
        have c0_1 := HB2.out.c0
        have c1_1 := HB2.out.c1
        have c2_1 := HB2.out.c2
        have c3_1 := HB2.out.c3
        have c4_1 := HB2.out.c4
        rw [HA0.out] at c4_1
        go_wp2
        go_ret
        exact ⟨rfl, X2.out⟩
  · have hki : (t.kind == 31) = false := by simpa using hp0
    have HP0 := hide hp0
    clear hp0
    have hR : R = false := by rw [HE.out]; simp [HP0.out]
    clear HE
    subst hR
    go_enter Tryz.func73, Tryz.ntmps73
    go_wp2
    go_ret
    exact ⟨rfl, (by repeat (first | exact Ext.refl _ | exact Ext.pre (by simp) | exact Ext.alloc (by assumption) _ | refine Ext.alloc ?_ _ |  refine Ext.more ?_ _ _ | refine Ext.drew ?_ | refine Ext.drewN ?_ _))⟩

set_option maxRecDepth 10000 in
set_option maxHeartbeats 1000000 in
theorem n_alt (t : Tree) (ihp : ∀ k ∈ t.kids, Asks 87 patB k) (ih : ∀ k ∈ t.kids, Asks 54 expB k) : Asks 75 altB t := by
  intro w h
  have HE : Hid (altB t = (decide (t.kind = 15) && bareB t && decide (t.kids.length = 2) && patB (t.kid 0) && expB (t.kid 1))) := hide (alt_eq t)
  have Hk := hide h.nodes
  have hle := h.le
  have hmx := h.max
  have HB0 := hide (NBox.new w t)
  have X0 : Hid (Ext w (w.alloc (.cells #[.int .i64 t.kind, .int .i64 t.pos, .int .i64 t.n, encStr t.text, .slice t.A t.kids.length t.cap] 28))) := hide ((Ext.refl w).alloc _)
  have H1 := hide (fun w' (e : Ext w w') => hide (n_bare t w' (h.ext e)))
  generalize altB t = R at *
  generalize bareB t = B1 at *
  unfold treeV at *
  have HN := hide h
  clear h
  generalize hA0 : t.A = A0 at *
  have HA0 := hide hA0
  clear hA0
  by_cases hp0 : t.kind = 15
  · have hki : (t.kind == 15) = true := by simpa using hp0
    have HP0 := hide hp0
    clear hp0
    cases B1
    · have hR : R = false := by rw [HE.out]; simp
      clear HE
      subst hR
      go_enter Tryz.func75, Tryz.ntmps75
      go_wp2_with fail
      refine (H1.out _ X0.out).out.mono ?_
      rintro e w2 ⟨rfl, hx⟩
      have X2 := hide (X0.out.trans hx)
      have HB2 := hide (HB0.out.ext hx)
      clear hx
      have c0_1 := HB2.out.c0
      have c1_1 := HB2.out.c1
      have c2_1 := HB2.out.c2
      have c3_1 := HB2.out.c3
      have c4_1 := HB2.out.c4
      rw [HA0.out] at c4_1
      go_wp2
      go_ret
      exact ⟨rfl, X2.out⟩
    · by_cases hp2 : t.kids.length = 2
      · have hpi : ((t.kids.length : Int) == 2) = true := beq_iff_eq.2 (by omega)
        have hpz0 : (0 : Int) < (t.kids.length : Int) := by omega
        have hpz1 : (1 : Int) < (t.kids.length : Int) := by omega
        have HP2 := hide hp2
        clear hp2
        have hlt0 : 0 < t.kids.length := by have := HP2.out; omega
        obtain ⟨b, o, hAe, hb⟩ := Hk.out.some_ (by omega)
        subst hAe
        have HQ0 : Hid (∀ w', Ext w w' → w'.cell? ⟨b, o, none⟩ = some (.int .i64 (t.kids[0]'hlt0).kind) ∧ w'.cell? ⟨b, o + 1, none⟩ = some (.int .i64 (t.kids[0]'hlt0).pos) ∧ w'.cell? ⟨b, o + 2, none⟩ = some (.int .i64 (t.kids[0]'hlt0).n) ∧ w'.cell? ⟨b, o + 3, none⟩ = some (.string ⟨(t.kids[0]'hlt0).text.toArray⟩) ∧ w'.cell? ⟨b, o + 4, none⟩ = some (.slice (t.kids[0]'hlt0).A (t.kids[0]'hlt0).kids.length (t.kids[0]'hlt0).cap)) := hide (fun w' e => by have := (Hk.out.ext e).cells hlt0; simpa using this)
        have HN0 := hide (Hk.out.kids _ (List.getElem_mem hlt0))
        have hlt1 : 1 < t.kids.length := by have := HP2.out; omega
        have HQ1 : Hid (∀ w', Ext w w' → w'.cell? ⟨b, o + 5, none⟩ = some (.int .i64 (t.kids[1]'hlt1).kind) ∧ w'.cell? ⟨b, o + 5 + 1, none⟩ = some (.int .i64 (t.kids[1]'hlt1).pos) ∧ w'.cell? ⟨b, o + 5 + 2, none⟩ = some (.int .i64 (t.kids[1]'hlt1).n) ∧ w'.cell? ⟨b, o + 5 + 3, none⟩ = some (.string ⟨(t.kids[1]'hlt1).text.toArray⟩) ∧ w'.cell? ⟨b, o + 5 + 4, none⟩ = some (.slice (t.kids[1]'hlt1).A (t.kids[1]'hlt1).kids.length (t.kids[1]'hlt1).cap)) := hide (fun w' e => by have := (Hk.out.ext e).cells hlt1; simpa using this)
        have HN1 := hide (Hk.out.kids _ (List.getElem_mem hlt1))
        rw [kid_get hlt0] at HE
        have HMem0 := List.getElem_mem hlt0
        have H3 := hide (fun w' (e : Ext w w') => hide (ihp (t.kids[0]'hlt0) HMem0 w' (HN0.out.ext e)))
        generalize patB (t.kids[0]'hlt0) = B3 at *
        rw [kid_get hlt1] at HE
        have HMem1 := List.getElem_mem hlt1
        have H4 := hide (fun w' (e : Ext w w') => hide (ih (t.kids[1]'hlt1) HMem1 w' (HN1.out.ext e)))
        generalize expB (t.kids[1]'hlt1) = B4 at *
        clear HMem0
        generalize t.kids[0]'hlt0 = c0 at *
        obtain ⟨q0_0, q1_0, q2_0, q3_0, q4_0⟩ := HQ0.out _ (Ext.refl w)
        clear HMem1
        generalize t.kids[1]'hlt1 = c1 at *
        obtain ⟨q0_1, q1_1, q2_1, q3_1, q4_1⟩ := HQ1.out _ (Ext.refl w)
        cases B3
        · have hR : R = false := by rw [HE.out]; simp
          clear HE
          subst hR
          go_enter Tryz.func75, Tryz.ntmps75
          go_wp2_with fail
          refine (H1.out _ X0.out).out.mono ?_
          rintro e w2 ⟨rfl, hx⟩
          have X2 := hide (X0.out.trans hx)
          have HB2 := hide (HB0.out.ext hx)
          clear hx
          have c0_1 := HB2.out.c0
          have c1_1 := HB2.out.c1
          have c2_1 := HB2.out.c2
          have c3_1 := HB2.out.c3
          have c4_1 := HB2.out.c4
          rw [HA0.out] at c4_1
          obtain ⟨q0_1_0, q1_1_0, q2_1_0, q3_1_0, q4_1_0⟩ := HQ0.out _ X2.out
          obtain ⟨q0_1_1, q1_1_1, q2_1_1, q3_1_1, q4_1_1⟩ := HQ1.out _ X2.out
          go_wp2_with fail
          refine (H3.out _ X2.out).out.mono ?_
          rintro e w4 ⟨rfl, hx⟩
          have X4 := hide (X2.out.trans hx)
          have HB4 := hide (HB2.out.ext hx)
          clear hx
          have c0_3 := HB4.out.c0
          have c1_3 := HB4.out.c1
          have c2_3 := HB4.out.c2
          have c3_3 := HB4.out.c3
          have c4_3 := HB4.out.c4
          rw [HA0.out] at c4_3
          obtain ⟨q0_3_0, q1_3_0, q2_3_0, q3_3_0, q4_3_0⟩ := HQ0.out _ X4.out
          obtain ⟨q0_3_1, q1_3_1, q2_3_1, q3_3_1, q4_3_1⟩ := HQ1.out _ X4.out
          go_wp2
          go_ret
          exact ⟨rfl, X4.out⟩
        · have hR : R = B4 := by rw [HE.out]; simp [HP0.out, HP2.out]
          clear HE
          subst hR
          go_enter Tryz.func75, Tryz.ntmps75
          go_wp2_with fail
          refine (H1.out _ X0.out).out.mono ?_
          rintro e w2 ⟨rfl, hx⟩
          have X2 := hide (X0.out.trans hx)
          have HB2 := hide (HB0.out.ext hx)
          clear hx
          have c0_1 := HB2.out.c0
          have c1_1 := HB2.out.c1
          have c2_1 := HB2.out.c2
          have c3_1 := HB2.out.c3
          have c4_1 := HB2.out.c4
          rw [HA0.out] at c4_1
          obtain ⟨q0_1_0, q1_1_0, q2_1_0, q3_1_0, q4_1_0⟩ := HQ0.out _ X2.out
          obtain ⟨q0_1_1, q1_1_1, q2_1_1, q3_1_1, q4_1_1⟩ := HQ1.out _ X2.out
          go_wp2_with fail
          refine (H3.out _ X2.out).out.mono ?_
          rintro e w4 ⟨rfl, hx⟩
          have X4 := hide (X2.out.trans hx)
          have HB4 := hide (HB2.out.ext hx)
          clear hx
          have c0_3 := HB4.out.c0
          have c1_3 := HB4.out.c1
          have c2_3 := HB4.out.c2
          have c3_3 := HB4.out.c3
          have c4_3 := HB4.out.c4
          rw [HA0.out] at c4_3
          obtain ⟨q0_3_0, q1_3_0, q2_3_0, q3_3_0, q4_3_0⟩ := HQ0.out _ X4.out
          obtain ⟨q0_3_1, q1_3_1, q2_3_1, q3_3_1, q4_3_1⟩ := HQ1.out _ X4.out
          go_wp2_with fail
          refine (H4.out _ X4.out).out.mono ?_
          rintro e w5 ⟨rfl, hx⟩
          have X5 := hide (X4.out.trans hx)
          have HB5 := hide (HB4.out.ext hx)
          clear hx
          have c0_4 := HB5.out.c0
          have c1_4 := HB5.out.c1
          have c2_4 := HB5.out.c2
          have c3_4 := HB5.out.c3
          have c4_4 := HB5.out.c4
          rw [HA0.out] at c4_4
          obtain ⟨q0_4_0, q1_4_0, q2_4_0, q3_4_0, q4_4_0⟩ := HQ0.out _ X5.out
          obtain ⟨q0_4_1, q1_4_1, q2_4_1, q3_4_1, q4_4_1⟩ := HQ1.out _ X5.out
          go_wp2
          go_ret
          exact ⟨rfl, X5.out⟩
      · have hpi : ((t.kids.length : Int) == 2) = false := beq_eq_false_iff_ne.2 (by omega)
        have HP2 := hide hp2
        clear hp2
        have hR : R = false := by rw [HE.out]; simp [HP2.out]
        clear HE
        subst hR
        go_enter Tryz.func75, Tryz.ntmps75
        go_wp2_with fail
        refine (H1.out _ X0.out).out.mono ?_
        rintro e w2 ⟨rfl, hx⟩
        have X2 := hide (X0.out.trans hx)
        have HB2 := hide (HB0.out.ext hx)
        clear hx
        have c0_1 := HB2.out.c0
        have c1_1 := HB2.out.c1
        have c2_1 := HB2.out.c2
        have c3_1 := HB2.out.c3
        have c4_1 := HB2.out.c4
        rw [HA0.out] at c4_1
        go_wp2
        go_ret
        exact ⟨rfl, X2.out⟩
  · have hki : (t.kind == 15) = false := by simpa using hp0
    have HP0 := hide hp0
    clear hp0
    have hR : R = false := by rw [HE.out]; simp [HP0.out]
    clear HE
    subst hR
    go_enter Tryz.func75, Tryz.ntmps75
    go_wp2
    go_ret
    exact ⟨rfl, (by repeat (first | exact Ext.refl _ | exact Ext.pre (by simp) | exact Ext.alloc (by assumption) _ | refine Ext.alloc ?_ _ |  refine Ext.more ?_ _ _ | refine Ext.drew ?_ | refine Ext.drewN ?_ _))⟩

end Go.Proofs.YtbfggmeppakcgaaGreat
