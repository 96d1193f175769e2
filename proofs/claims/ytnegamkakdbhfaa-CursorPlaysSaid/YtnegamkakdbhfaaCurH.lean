/- A new cursor: the reference's and the program's. -/
import Derived.Test.YtnegamkakdbhfaaCurG
import Derived.WalkSpells
import Derived.WalkLawsBesides
import Derived.Deep.QuietTactic
import Derived.BigQuiet
import Derived.Deep.AppendLies
import Derived.Deep.RegionLaw
namespace Go.Proofs.Ytnegamkakdbhfaa
open Go.RowKit

/-- What a new cursor is. -/
def initM (l : List Tok) : M := { rest := l.takeWhile (fun t => t.kind != 0), ep := ((l.dropWhile (fun t => t.kind != 0)).headD Tok.zero).pos, nest := 0, err := 0, pos := 0 }

theorem span_at : ∀ (l : List Tok) (k : Nat), k ≤ l.length → (∀ i, i < k → (tokAt l i).kind ≠ 0) → (k < l.length → (tokAt l k).kind = 0) →
    l.takeWhile (fun t => t.kind != 0) = l.take k ∧ l.dropWhile (fun t => t.kind != 0) = l.drop k
  | [], k, hk, _, _ => by simp
  | t :: l, 0, _, _, h => by
    have : t.kind = 0 := by simpa [tokAt] using h (by simp)
    simp [this]
  | t :: l, k + 1, hk, h1, h2 => by
    have h0 : t.kind ≠ 0 := by simpa [tokAt] using h1 0 (by omega)
    have := span_at l k (by simpa using hk) (fun i hi => by simpa [tokAt] using h1 (i + 1) (by omega)) (fun hl => by simpa [tokAt] using h2 (by simpa using hl))
    simp [h0, this.1, this.2]

theorem initM_at {l : List Tok} {k : Nat} (hk : k ≤ l.length) (h1 : ∀ i, i < k → (tokAt l i).kind ≠ 0) (h2 : k < l.length → (tokAt l k).kind = 0) :
    initM l = { rest := l.take k, ep := (tokAt l k).pos, nest := 0, err := 0, pos := 0 } := by
  obtain ⟨e1, e2⟩ := span_at l k hk h1 h2
  unfold initM
  rw [e1, e2]
  congr 1
  rcases Nat.lt_or_ge k l.length with h | h
  · rw [drop_tok h]; rfl
  · rw [List.drop_of_length_le h]; simp [tokAt, h]

theorem hide_ne {t t' : Tok} (h : t.kind ≠ 0) (e : t' = t) : t'.kind ≠ 0 := e ▸ h

theorem Toks.take {w : World} {A : Option Addr} {ts : List Tok} (h : Toks w A ts) {k : Nat} (hk : k ≤ ts.length) : Toks w A (ts.take k) := by
  have hl : (ts.take k).length = k := by simp; omega
  refine ⟨toks_len _, fun hn => ?_⟩
  obtain ⟨b, o, e, hb, hc⟩ := h.2 (by omega)
  refine ⟨b, o, e, hb, fun j u hu => hc j u ?_⟩
  have e1 : toks ts = toks (ts.take k) ++ toks (ts.drop k) := by unfold toks; rw [← List.flatMap_append, List.take_append_drop]
  rw [e1, List.getElem?_append_left]
  · exact hu
  · exact (List.getElem?_eq_some_iff.1 hu).1

set_option maxRecDepth 10000 in
set_option maxHeartbeats 1000000 in
theorem ref_new (A : Option Addr) (cap : Nat) (l : List Tok) (w : World) (h : Toks w A l) (hl : l.length ≤ 100) (hle : l.length ≤ cap) (hcap : cap ≤ 9223372036854775807) :
    Calls Try.prog 18 #[.slice A l.length cap] w fun e w' => (∃ cap', e = .returned (refV A cap' (initM l)) ∧ RefC w A cap' (initM l)) ∧ Ext w w' := by
  have hle' : (l.length : Int) ≤ (cap : Int) := by omega
  go_enter Try.func18, Try.ntmps18
  go_wp2
  go_loop [3] (fun iv => ∃ k : Nat, k ≤ l.length ∧ iv = .int .i64 k ∧ Hid (∀ i, i < k → (tokAt l i).kind ≠ 0)) (fun iv => l.length - (intOf iv).toNat)
  case atStart => exact ⟨0, Nat.zero_le _, rfl, hide (fun i hi => absurd hi (by omega))⟩
  case round =>
    obtain ⟨k, hk, rfl, Hk⟩ := hrel
    by_cases hlt : k < l.length
    · obtain ⟨b, o, rfl, hb, c0, c1, c2, c3⟩ := h.at_ hlt
      have hlt' : (k : Int) < (l.length : Int) := by omega
      have hk0 : (0 : Int) ≤ (k : Int) := by omega
      cases hz : ((tokAt l k).kind == 0)
      · have Hz : Hid ((tokAt l k).kind ≠ 0) := hide (by simpa using hz)
        generalize ht : tokAt l k = t at *
        have Ht0 := hide ht
        have Hh := hide h
        clear h ht
        go_wp2
        go_round
        case rel =>
          refine ⟨k + 1, hlt, by go_num, hide (fun i hi => ?_)⟩
          by_cases hik : i = k
          · rw [hik]; exact hide_ne Hz.out Ht0.out
          · exact Hk.out i (by omega)
        case measure => simp [intOf]; omega
      · have Hi := hide (initM_at hk Hk.out (fun _ => by simpa using hz))
        have Ht := hide (h.take hk)
        have hlk : (l.take k).length = k := by simp; omega
        have Hlk := hide hlk
        have Hz := hide (show (tokAt l k).kind = 0 by simpa using hz)
        generalize tokAt l k = t at *
        generalize l.take k = tk at *
        clear hlk
        go_wp2
        go_region
        go_wp2
        refine bodyPost_ret (v := refV (some ⟨b, o, none⟩) cap (initM l)) ?_ rfl ⟨⟨cap, rfl, ?_⟩, (by repeat (first | exact Ext.refl _ | exact Ext.alloc (by assumption) _ | refine Ext.alloc ?_ _ | refine Ext.more ?_ _ _ | refine Ext.drew ?_ | refine Ext.drewN ?_ _))⟩
        · rw [Hi.out]; simp [results, Try.results18, go_sem, Hlk.out]
        · rw [Hi.out]; exact ⟨by rw [Hlk.out]; omega, hcap, by simp, Ht.out⟩
    · have hkl : k = l.length := by omega
      subst hkl
      have hi := initM_at hk Hk.out (fun h => absurd h (by omega))
      rw [List.take_length] at hi
      have e0 : (tokAt l l.length).pos = 0 := by simp [tokAt, Tok.zero]
      rw [e0] at hi
      have Hi := hide hi
      have Hh := hide h
      clear hi e0 h
      go_wp2
      refine bodyPost_ret (v := refV A cap (initM l)) ?_ rfl ⟨⟨cap, rfl, ?_⟩, (by repeat (first | exact Ext.refl _ | exact Ext.alloc (by assumption) _ | refine Ext.alloc ?_ _ | refine Ext.more ?_ _ _ | refine Ext.drew ?_ | refine Ext.drewN ?_ _))⟩
      · rw [Hi.out]; simp [results, Try.results18, go_sem]
      · rw [Hi.out]; exact ⟨hle, hcap, by simp, Hh.out⟩

theorem heap_alloc_at (w : World) (o : Obj) (n : Nat) (h : n = w.heap.size) : (w.alloc o).heap[n]? = some o := by subst h; exact heap_alloc_new w o
theorem heap_alloc_at_drew (w : World) (o : Obj) (n : Nat) (h : n = w.heap.size) : (w.alloc o).drew.heap[n]? = some o := heap_alloc_at w o n h

theorem tok_info : (Try.prog.info? 29).map (fun i => (i.zero, i.size, i.bytes)) = some (some (.agg #[.int .i64 0, .int .i64 0, .int .i64 0, .string ⟨#[]⟩]), 4, 40) := by kernel_rfl

theorem Toks.of_own {w : World} {base : Nat} {v : Value} {ts : List Tok} (h : w.ownsRow base 29 4 v ts.length (toks ts)) :
    ∃ A cap, v = .slice A ts.length cap ∧ ts.length ≤ cap ∧ cap ≤ 9223372036854775807 ∧ Toks w A ts ∧ ∀ c o, A = some ⟨c, o, none⟩ → base ≤ c := by
  rcases h.2 with ⟨rfl, h0⟩ | ⟨g, cap, cur, rfl, hb, hg, hle, hmax, hsz, htk⟩
  · have : ts = [] := List.eq_nil_of_length_eq_zero h0
    subst this
    exact ⟨none, 0, rfl, Nat.le_refl _, by omega, Toks.nil _, fun _ _ h => by cases h⟩
  · refine ⟨some ⟨g, 0, none⟩, cap, rfl, hle, by unfold maxLen at hmax; omega, ⟨toks_len ts, fun _ => ⟨g, 0, rfl, (Array.getElem?_eq_some_iff.1 hg).1, fun j u hu => ?_⟩⟩, fun c o h => ?_⟩
    · have := h.cells rfl j u hu
      by_cases h0 : j = 0
      · subst h0; simpa [Addr.add] using this
      · simpa [Addr.add, h0] using this
    · injection h with h; injection h with h; omega

theorem toks_snoc (ts : List Tok) (t : Tok) : toks (ts ++ [t]) = toks ts ++ t.cells := by simp [toks, List.flatMap_append]

set_option maxRecDepth 10000 in
set_option maxHeartbeats 1000000 in
theorem cur_new (A : Option Addr) (cap : Nat) (l : List Tok) (w : World) (h : Toks w A l) (hl : l.length ≤ 100) (hle : l.length ≤ cap) (hcap : cap ≤ 9223372036854775807) :
    Calls Try.prog 17 #[.slice A l.length cap] w fun e w' => (∃ c A' cap', e = .returned (.pointer (some ⟨c, 0, none⟩)) ∧ w.heap.size ≤ c ∧ (∀ g o, A' = some ⟨g, o, none⟩ → w.heap.size ≤ g) ∧ Cur w' c A' cap' (initM l).rest 0 (initM l)) ∧ Ext w w' := by
  go_enter Try.func17, Try.ntmps17
  go_wp2
  go_loopw [10] (fun iv wr => ∃ (k : Nat) (v : Value), k ≤ l.length ∧ iv = .int .i64 k ∧ Hid (∀ i, i < k → (tokAt l i).kind ≠ 0) ∧ Ext w wr ∧ Hid (wr.ownsRow (w.heap.size + 1) 29 4 v k (toks (l.take k))) ∧
      Hid (wr.heap[w.heap.size]? = some (.cells #[v, .int .i64 0, .int .i64 0, .int .i64 0, .string ⟨#[]⟩, .int .i64 0, .int .i64 0, .int .i64 0, .int .i64 0] 98 (0, 0)))) (fun iv _ => l.length - (intOf iv).toNat)
  case atStart =>
    exact ⟨0, .slice none 0 0, Nat.zero_le _, rfl, hide (fun i hi => absurd hi (by omega)), (by repeat (first | exact Ext.refl _ | exact Ext.alloc (by assumption) _ | refine Ext.alloc ?_ _ | refine Ext.more ?_ _ _ | refine Ext.drew ?_ | refine Ext.drewN ?_ _)), hide (World.ownsRow_nil _ _ _ _), hide (heap_alloc_new w _)⟩
  case round =>
    obtain ⟨k, v, hk, rfl, Hk, hext, Hown, Hblk⟩ := hrel
    have hsz : w.heap.size < wr.heap.size := lt_of_blk Hblk.out
    have Hext := hide hext
    by_cases hlt : k < l.length
    · obtain ⟨b, o, rfl, hb, c0, c1, c2, c3⟩ := (h.ext hext).at_ hlt
      have hlt' : (k : Int) < (l.length : Int) := by omega
      clear hext
      have g0 : wr.cell? ⟨w.heap.size, 0, none⟩ = some v := by simp [World.cell?, Hblk.out]
      have g2 : wr.cell? ⟨w.heap.size, 2, none⟩ = some (.int .i64 0) := by simp [World.cell?, Hblk.out]
      have f0 : wr.frozen? ⟨w.heap.size, 0, none⟩ = false := by simp [World.frozen?, Hblk.out]
      have f2 : wr.frozen? ⟨w.heap.size, 2, none⟩ = false := by simp [World.frozen?, Hblk.out]
      cases hz : ((tokAt l k).kind == 0)
      · have Hz : Hid ((tokAt l k).kind ≠ 0) := hide (by simpa using hz)
        have Htk : Hid (l.take (k + 1) = l.take k ++ [tokAt l k]) := hide (by rw [List.take_succ_eq_append_getElem hlt]; simp [tokAt, hlt])
        generalize ht : tokAt l k = t at *
        have Ht0 := hide ht
        have Hh := hide h
        clear h ht
        have hcell : ∀ W : World, ∀ p : Nat, W.heap[p]? = some (.cells #[.int .i64 t.kind, .int .i64 t.pos, .int .i64 t.n, .string t.text] 29 (0, 0)) → ∀ j u, t.cells[j]? = some u → W.cell? ((⟨p, 0, none⟩ : Addr).add j) = some u := by
          intro W p hW j u hu
          have e1 : ((⟨p, 0, none⟩ : Addr).add j) = ⟨p, j, none⟩ := by unfold Addr.add; split <;> simp_all
          rw [e1]
          simp only [World.cell?, hW]
          simpa [Tok.cells] using hu
        have Hcell := hide hcell
        clear hcell
        have hone : ∀ u ∈ t.cells, u.oneCell' = true := by
          intro u hu
          simp only [Tok.cells, List.mem_cons, List.not_mem_nil, or_false] at hu
          rcases hu with rfl | rfl | rfl | rfl <;> rfl
        have Hone := hide hone
        clear hone
        obtain ⟨i0, hi, hz0, hz1, hz2⟩ := info_parts tok_info
        have hne : v.ownBlock ≠ some w.heap.size := fun e => by have := (Hown.out.lt _ e).1; omega
        have Hne := hide hne
        clear hne
        go_wp2
        go_region_law (refine step_append_lies _ rfl (.tmp 27) (.tmp 29) 22 rfl (w.heap.size + 1) 29 i0 _ 4 40 Try.underlying22 hi hz0 hz1 hz2 rfl (by decide) v k (toks (l.take k)) rfl (by first | exact (Hown.out.alloc _).alloc _ | exact ((Hown.out.alloc _).alloc _).drew) ⟨wr.heap.size + 1, 0, none⟩ 1 1 t.cells rfl rfl (Hcell.out _ _ (by first | exact heap_alloc_at _ _ _ (by simp) | exact heap_alloc_at_drew _ _ _ (by simp))) Hone.out (by decide) (by unfold maxLen; omega) (by omega) (by simp; omega) _ rfl ?_; intro g cap' w3 hown3 hgr hg3 hlt3; have hb3 := (hgr.block w.heap.size (by simp; omega) (fun e => Hne.out e.symm)).trans ((Ext.heap (w := wr) (by repeat (first | exact Ext.refl _ | exact Ext.alloc (by assumption) _ | refine Ext.alloc ?_ _ | refine Ext.more ?_ _ _ | refine Ext.drew ?_ | refine Ext.drewN ?_ _)) hsz).trans Hblk.out); have q0 : w3.cell? ⟨w.heap.size, 0, none⟩ = some v := (by simp [World.cell?, hb3]); have qf : w3.frozen? ⟨w.heap.size, 0, none⟩ = false := (by simp [World.frozen?, hb3]); have qs : w.heap.size < w3.heap.size := lt_of_blk hb3; have Hb3 := hide hb3; clear hb3; have Hown3 := hide hown3; clear hown3; have Hgr := hide hgr; clear hgr; have Hg3 := hide hg3; clear hg3)
        all_goals
          go_wp2
          go_roundw
          case rel =>
            refine ⟨k + 1, .slice (some ⟨g, 0, none⟩) (k + 1) cap', hlt, by go_num, hide (fun i hi => ?_), ?_, hide ?_, hide ?_⟩
            · by_cases hik : i = k
              · rw [hik]; exact hide_ne Hz.out Ht0.out
              · exact Hk.out i (by omega)
            · refine Ext.setCell (Ext.grown (Hext.out.trans (by repeat (first | exact Ext.refl _ | exact Ext.alloc (by assumption) _ | refine Ext.alloc ?_ _ | refine Ext.more ?_ _ _ | refine Ext.drew ?_ | refine Ext.drewN ?_ _))) Hgr.out (fun j hj => ?_)) (Nat.le_refl _) _
              have := (Hown.out.lt j hj).1
              omega
            · rw [Htk.out, toks_snoc]
              exact ownsRow_setCell_below Hown3.out (by simp) _
            · exact blk_setCell Hb3.out 0 _
          case measure => simp [intOf]; omega
      · have Hi := hide (initM_at hk Hk.out (fun _ => by simpa using hz))
        have hlk : (l.take k).length = k := by simp; omega
        have Hcur := hide (Toks.of_own (hlk.symm ▸ Hown.out : wr.ownsRow (w.heap.size + 1) 29 4 v (l.take k).length (toks (l.take k))))
        have Hz := hide (show (tokAt l k).kind = 0 by simpa using hz)
        generalize tokAt l k = t at *
        clear hlk h
        go_wp2
        go_ret
        obtain ⟨A', cap', rfl, e1, e2, e3, e4⟩ := Hcur.out
        refine ⟨⟨w.heap.size, A', cap', rfl, Nat.le_refl _, fun g o e => by have := e4 g o e; omega, ?_⟩, Ext.alloc (Ext.setCell Hext.out (Nat.le_refl _) _) _⟩
        have e5 : Ext (wr.setCell ⟨w.heap.size, 2, none⟩ (.int .i64 t.pos)) ((wr.setCell ⟨w.heap.size, 2, none⟩ (.int .i64 t.pos)).alloc (.cells #[.int .i64 t.kind, .int .i64 t.pos, .int .i64 t.n, .string t.text] 29)) := Ext.alloc (Ext.refl _) _
        refine Cur.ext ?_ e5
        rw [Hi.out]
        refine ⟨(blk_setCell Hblk.out 2 _).trans rfl, fun o e => by have := e4 _ o e; omega, ?_, e1, e2, ⟨Nat.zero_le _, by simp, hide rfl⟩⟩
        exact Row.keep e3 (by simp) fun b o e _ => Below.heap_setCell _ _ _ _ (by have := e4 _ o e; simp; omega)
    · have hkl : k = l.length := by omega
      subst hkl
      have hi := initM_at hk Hk.out (fun h => absurd h (by omega))
      rw [List.take_length] at hi
      have e0 : (tokAt l l.length).pos = 0 := by simp [tokAt, Tok.zero]
      rw [e0] at hi
      have Hi := hide hi
      rw [List.take_length] at Hown
      clear hi e0 h
      go_wp2
      go_ret
      obtain ⟨A', cap', rfl, e1, e2, e3, e4⟩ := Toks.of_own Hown.out
      refine ⟨⟨w.heap.size, A', cap', rfl, Nat.le_refl _, fun g o e => by have := e4 g o e; omega, ?_⟩, Hext.out⟩
      rw [Hi.out]
      exact ⟨Hblk.out, fun o e => by have := e4 _ o e; omega, e3, e1, e2, ⟨Nat.zero_le _, by simp, hide rfl⟩⟩

end Go.Proofs.Ytnegamkakdbhfaa
