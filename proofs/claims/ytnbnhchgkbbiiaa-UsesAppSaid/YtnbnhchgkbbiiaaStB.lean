/- The program's sets: counting, making. -/
import Derived.Test.YtnbnhchgkbbiiaaSet
import Derived.WalkSpells
import Derived.WalkLawsBesides
namespace Go.Proofs.Ytnbnhchgkbbiiaa
open Go.RowKit Go.Sort Go.Maps

set_option maxHeartbeats 1000000 in
theorem set_len {w : World} {s r n : Nat} {D : SD} (h : SetAt w s r n D) :
    Calls Try.prog 79 #[.pointer (some ⟨s, 0, none⟩)] w fun e w' => e = .returned (.int .i64 (Maps.size D)) ∧ w' = w := by
  have hc := h.cell
  have Hh := hide h
  clear h
  go_enter Try.func79, Try.ntmps79
  go_wp2_with (at_len; refine wpList_len_own _ rfl _ 99 rfl 9 3 Try.underlying99 _ r n D rfl Hh.out.own ?_)
  go_ret
  exact ⟨rfl, rfl⟩
theorem none_len (w : World) : Calls Try.prog 79 #[.pointer none] w fun e w' => e = .returned (.int .i64 0) ∧ w' = w := by
  go_enter Try.func79, Try.ntmps79
  go_wp2
  go_ret
  exact ⟨rfl, rfl⟩

theorem obj_alloc_at (w : World) (o : Obj) (n : Nat) (h : n = w.heap.size) : (w.alloc o).heap[n]? = some o := by subst h; exact heap_alloc_new w o

/-- The map of some texts. -/
def ofD (l : List Str) : SD := l.foldl (fun D x => D.put (.string x) oneD) (.map [])
theorem ofD_snoc (l : List Str) (x : Str) : ofD (l ++ [x]) = (ofD l).put (.string x) oneD := by simp [ofD, List.foldl_append]
theorem ofD_fold : ∀ (l : List Str) (D : SD), IsMap D → Ones D → IsMap (l.foldl (fun D x => D.put (.string x) oneD) D) ∧ Ones (l.foldl (fun D x => D.put (.string x) oneD) D) ∧
    ∀ x, mem (l.foldl (fun D x => D.put (.string x) oneD) D) x = (mem D x || l.any (x == ·))
  | [], D, h1, h2 => ⟨h1, h2, fun x => by simp⟩
  | y :: l, D, h1, h2 => by
    obtain ⟨a, b, c⟩ := ofD_fold l (D.put (.string y) oneD) (h1.put _ _) (h2.put h1 y)
    refine ⟨a, b, fun x => ?_⟩
    rw [List.foldl_cons, c, mem_put _ h1]
    simp [Bool.or_assoc]
theorem ofD_map (l : List Str) : IsMap (ofD l) ∧ Ones (ofD l) ∧ ∀ x, mem (ofD l) x = l.any (x == ·) := by
  obtain ⟨a, b, c⟩ := ofD_fold l (.map []) isMap_empty ones_empty
  exact ⟨a, b, fun x => by rw [ofD, c]; rfl⟩

set_option maxRecDepth 10000 in
set_option maxHeartbeats 1000000 in
theorem set_new (A : Option Addr) (cap : Nat) (l : List Str) (w : World) (h : Strs w A l) (hs : ∀ x ∈ l, x.length ≤ 9223372036854775807) (hn : l.length ≤ 10000) :
    Calls Try.prog 49 #[.slice A l.length cap] w fun e w' => (∃ s r n, e = .returned (.pointer (some ⟨s, 0, none⟩)) ∧ w.heap.size ≤ s ∧ w.heap.size ≤ r ∧ n ≤ 10000 ∧ SetAt w' s r n (ofD l)) ∧ Ext w w' := by
  have hmm := @run_makeMap Try.prog
  have Hs := hide hs
  have Hr := hide h
  clear hs h
  go_enter Try.func49, Try.ntmps49
  go_wp2
  go_loopw [11] (fun iv wr => ∃ k : Nat, k ≤ l.length ∧ iv = .int .i64 k ∧ Hid (Ext w wr) ∧ Hid (SetAt wr (w.heap.size + 1) w.heap.size k (ofD (l.take k)))) (fun iv _ => l.length - (intOf iv).toNat)
  case atStart =>
    refine ⟨0, Nat.zero_le _, rfl, hide (by repeat (first | exact Ext.refl _ | exact Ext.pre (by simp) | exact Ext.alloc (by assumption) _ | refine Ext.alloc ?_ _ |  refine Ext.more ?_ _ _ | refine Ext.drew ?_ | refine Ext.drewN ?_ _)), hide ⟨?_, ?_, ones_empty⟩⟩
    · exact obj_alloc_at _ _ _ (by simp)
    · exact (World.ownsMap_made w _ _ _).alloc _
  case round =>
    obtain ⟨k, hk, rfl, HX, HS⟩ := hrel
    have hc := HS.out.cell
    by_cases hlt : k < l.length
    · obtain ⟨b, o, rfl, hb, q0⟩ := (Hr.out.ext HX.out).at_ hlt
      have hlt' : (k : Int) < (l.length : Int) := by omega
      have hxs : (l.getD k []).length ≤ 9223372036854775807 := Hs.out _ (by simp [hlt])
      have Htk : Hid (l.take (k + 1) = l.take k ++ [l.getD k []]) := hide (by rw [List.take_succ_eq_append_getElem hlt]; simp [hlt])
      generalize l.getD k [] = x at *
      go_wp2_with (at_mapUpdate; refine wpList_mapUpdate_own _ rfl _ _ _ 99 rfl 9 3 key_law Try.underlying99 _ w.heap.size k (ofD (l.take k)) rfl HS.out.own (by unfold maxLen; omega) _ _ _ rfl rfl (key_of hxs) oneD [] (plainElem_int Try.underlying3 (by decide)) ?_; intro w2 hown2 hgrow2)
      go_roundw
      case rel =>
        refine ⟨k + 1, hlt, by go_num, hide (HX.out.grown hgrow2 (fun j hj => by injection hj with hj; omega)), hide ⟨(hgrow2.block _ HS.out.lts (fun e => by injection e with e; omega)).trans HS.out.box, ?_, ?_⟩⟩
        · rw [Htk.out, ofD_snoc]; exact hown2
        · exact (ofD_map _).2.1
      case measure => simp [intOf]; omega
    · have hge : (l.length : Int) ≤ (k : Int) := by omega
      have hkl : k = l.length := by omega
      rw [hkl, List.take_length] at HS
      go_wp2
      go_ret
      exact ⟨⟨_, _, _, rfl, by omega, Nat.le_refl _, hn, HS.out⟩, HX.out⟩

end Go.Proofs.Ytnbnhchgkbbiiaa
