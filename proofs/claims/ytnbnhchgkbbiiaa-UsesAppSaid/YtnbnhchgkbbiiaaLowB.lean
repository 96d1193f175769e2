/- Contract: whether a tree is not too deep. -/
import Derived.Test.YtnbnhchgkbbiiaaLow
namespace Go.Proofs.Ytnbnhchgkbbiiaa
open Go.RowKit Go.Shelf

attribute [local go_sem] Oper.semAt_some

theorem cell_of_boxB {W : World} {B : Nat} {v : Value} {t : TypeId} (h : W.heap[B]? = some (.cells #[v] t (0, 0))) : W.cell? ⟨B, 0, none⟩ = some v ∧ W.frozen? ⟨B, 0, none⟩ = false := by
  constructor <;> simp [World.cell?, World.frozen?, h]
theorem cell_newB (W : World) (v : Value) (t : TypeId) : (W.alloc (.cells #[v] t)).cell? ⟨W.heap.size, 0, none⟩ = some v ∧ (W.alloc (.cells #[v] t)).frozen? ⟨W.heap.size, 0, none⟩ = false :=
  cell_of_boxB (World.alloc_heap_new W _)
theorem cell_allocB {W : World} {a : Addr} {v : Value} (o : Obj) (h : W.cell? a = some v) : (W.alloc o).cell? a = some v := cell_kept h (World.grownBy_alloc W o none) (fun r e => by cases e)
theorem frozen_allocB {W : World} {a : Addr} {v : Value} (o : Obj) (h : W.cell? a = some v) (hf : W.frozen? a = false) : (W.alloc o).frozen? a = false := (frozen_kept h (World.grownBy_alloc W o none) (fun r e => by cases e)).trans hf

/-- Not too deep? -/
noncomputable def lowB (t : Tree) : Bool := decide (t.depth ≤ 100)
theorem lowB_all (t : Tree) : lowB t = decide (∀ p ∈ t.lev 1, p.1 ≤ 100) := by
  unfold lowB
  have := lev_low 100 t 1
  apply decide_eq_decide.2
  rw [this]
  omega

def AllLow (l : List (Nat × Tree)) : Prop := ∀ p ∈ l, p.1 ≤ 100
theorem AllLow.snoc {l : List (Nat × Tree)} {x : Nat × Tree} (h : AllLow l) (hx : x.1 ≤ 100) : AllLow (l ++ [x]) := fun y hy => (List.mem_append.1 hy).elim (h y) (fun e => by rw [List.mem_singleton] at e; subst e; exact hx)

set_option maxRecDepth 100000 in
set_option maxHeartbeats 2000000 in
theorem n_low_in (F : Fence) (hd : F.depth = none) (n : Nat) (h3 : F.fn 52) (h4 : F.fn 65) (h5 : F.fn 93) (h6 : F.fn 94) (hro : F.round = none) (hn : 3 ≤ n) (t : Tree) (w : World) (ht : NodeIn w t) (hsz : t.size ≤ 100000) :
    CallsIn F n Try.prog 52 #[treeV t] w fun e W' => e = .returned (.bool (lowB t)) ∧ Below w.heap.size w W' := by
  have h1 : 1 ≤ n := by omega
  rw [lowB_all]
  have HA := hide (fun w' => n_all_in F (n - 1) 1 h4 hro t w')
  have Ht := hide ht
  have hsz1 : 1 + t.size ≤ 1000000 := by omega
  clear ht
  unfold treeV at *
  refine callsIn_of_wp_marks Try.func52 rfl h3 ?_ hro
  simp only [Try.ntmps52, List.size_toArray, List.length_cons, List.length_nil, Nat.reduceAdd, Nat.reduceSub, Array.replicate_succ, Array.replicate_zero, List.push_toArray, List.append_toArray, List.nil_append, List.cons_append]
  gi_wp2_with fail
  refine (HA.out _).mono ?_
  rintro e w' ⟨rfl, rfl⟩
  gi_wp2
  have hB0 : Below w.heap.size w (((((w.alloc (.cells #[.int .i64 t.kind, .int .i64 t.pos, .int .i64 t.n, encStr t.text, .slice t.A t.kids.length t.cap] 54)).alloc (.cells #[.bool false] 4)).alloc (.cells #[.int .i64 t.kind, .int .i64 t.pos, .int .i64 t.n, encStr t.text, .slice t.A t.kids.length t.cap] 54)).alloc (.cells #[.int .i64 ((1 : Nat) : Int)] 3))) := ((((Below.refl _ w).alloc (Nat.le_refl _) _).alloc (by simp) _).alloc (by simp; omega) _).alloc (by simp; omega) _
  have hbx : NBox (((((w.alloc (.cells #[.int .i64 t.kind, .int .i64 t.pos, .int .i64 t.n, encStr t.text, .slice t.A t.kids.length t.cap] 54)).alloc (.cells #[.bool false] 4)).alloc (.cells #[.int .i64 t.kind, .int .i64 t.pos, .int .i64 t.n, encStr t.text, .slice t.A t.kids.length t.cap] 54)).alloc (.cells #[.int .i64 ((1 : Nat) : Int)] 3))) (w.heap.size + 1 + 1) t := by
    refine (Below.heap_alloc _ _ _ (by simp)).trans ?_
    exact at_newB _ _ _ (by simp)
  have hbl : (((((w.alloc (.cells #[.int .i64 t.kind, .int .i64 t.pos, .int .i64 t.n, encStr t.text, .slice t.A t.kids.length t.cap] 54)).alloc (.cells #[.bool false] 4)).alloc (.cells #[.int .i64 t.kind, .int .i64 t.pos, .int .i64 t.n, encStr t.text, .slice t.A t.kids.length t.cap] 54)).alloc (.cells #[.int .i64 ((1 : Nat) : Int)] 3))).cell? ⟨w.heap.size + 1 + 1 + 1, 0, none⟩ = some (.int .i64 ((1 : Nat) : Int)) := (cell_of_boxB (at_newB _ _ _ (by simp))).1
  have hrc : (((((w.alloc (.cells #[.int .i64 t.kind, .int .i64 t.pos, .int .i64 t.n, encStr t.text, .slice t.A t.kids.length t.cap] 54)).alloc (.cells #[.bool false] 4)).alloc (.cells #[.int .i64 t.kind, .int .i64 t.pos, .int .i64 t.n, encStr t.text, .slice t.A t.kids.length t.cap] 54)).alloc (.cells #[.int .i64 ((1 : Nat) : Int)] 3))).cell? ⟨w.heap.size + 1, 0, none⟩ = some (.bool false) ∧ (((((w.alloc (.cells #[.int .i64 t.kind, .int .i64 t.pos, .int .i64 t.n, encStr t.text, .slice t.A t.kids.length t.cap] 54)).alloc (.cells #[.bool false] 4)).alloc (.cells #[.int .i64 t.kind, .int .i64 t.pos, .int .i64 t.n, encStr t.text, .slice t.A t.kids.length t.cap] 54)).alloc (.cells #[.int .i64 ((1 : Nat) : Int)] 3))).frozen? ⟨w.heap.size + 1, 0, none⟩ = false := by
    have := cell_newB (w.alloc (.cells #[.int .i64 t.kind, .int .i64 t.pos, .int .i64 t.n, encStr t.text, .slice t.A t.kids.length t.cap] 54)) (.bool false) 4
    simp only [World.size_alloc] at this
    exact ⟨cell_allocB _ (cell_allocB _ this.1), frozen_allocB _ (cell_allocB _ this.1) (frozen_allocB _ this.1 this.2)⟩
  have hsz0 : (((((w.alloc (.cells #[.int .i64 t.kind, .int .i64 t.pos, .int .i64 t.n, encStr t.text, .slice t.A t.kids.length t.cap] 54)).alloc (.cells #[.bool false] 4)).alloc (.cells #[.int .i64 t.kind, .int .i64 t.pos, .int .i64 t.n, encStr t.text, .slice t.A t.kids.length t.cap] 54)).alloc (.cells #[.int .i64 ((1 : Nat) : Int)] 3))).heap.size = w.heap.size + 4 := by simp
  have HS := hide (n_all_stops F hd (n - 1) h5 h6 hro 1 (w.heap.size + 1 + 1) (w.heap.size + 1 + 1 + 1) w.heap.size (w.heap.size + 1) w (((((w.alloc (.cells #[.int .i64 t.kind, .int .i64 t.pos, .int .i64 t.n, encStr t.text, .slice t.A t.kids.length t.cap] 54)).alloc (.cells #[.bool false] 4)).alloc (.cells #[.int .i64 t.kind, .int .i64 t.pos, .int .i64 t.n, encStr t.text, .slice t.A t.kids.length t.cap] 54)).alloc (.cells #[.int .i64 ((1 : Nat) : Int)] 3))) rfl t hbx hbl (by rw [hsz0]; omega) Ht.out hB0 (by rw [hsz0]; omega) hsz1)
  generalize (((((w.alloc (.cells #[.int .i64 t.kind, .int .i64 t.pos, .int .i64 t.n, encStr t.text, .slice t.A t.kids.length t.cap] 54)).alloc (.cells #[.bool false] 4)).alloc (.cells #[.int .i64 t.kind, .int .i64 t.pos, .int .i64 t.n, encStr t.text, .slice t.A t.kids.length t.cap] 54)).alloc (.cells #[.int .i64 ((1 : Nat) : Int)] 3))) = w1 at *
  refine wpIn_rangeFunc_ownF hro h1 (gf := 93) (lb := #[.pointer (some ⟨w.heap.size + 1 + 1, 0, none⟩), .pointer (some ⟨w.heap.size + 1 + 1 + 1, 0, none⟩)]) rfl h5 (enters_of Try.func93 (by kernel_rfl) rfl)
    HS.out (fun h k => h.trans k) (fun W l o o' hl hW ho _ => (Kc.refl _ _ W).put o' (by omega) hW ho) (Below.refl _ _) (fun _ => rfl)
    (fun pre W => (AllLow pre ∧ W.cell? ⟨w.heap.size + 1, 0, none⟩ = some (.bool false) ∧ W.frozen? ⟨w.heap.size + 1, 0, none⟩ = false) ∧ Below w.heap.size w W)
    (fun c pre W => (c = .ret ∧ (∃ p ∈ pre, ¬ p.1 ≤ 100) ∧ W.cell? ⟨w.heap.size + 1, 0, none⟩ = some (.bool false)) ∧ Below w.heap.size w W)
    (OwnFrom.and (Own.from (fun s A B row hs hg hr => ⟨hs.1, cell_kept hs.2.1 hg hr, (frozen_kept hs.2.1 hg hr).trans hs.2.2⟩) _) (ownFrom_below (Nat.le_refl _) (by omega)))
    (fun c => OwnFrom.and (Own.from (fun s A B row hs hg hr => ⟨hs.1, hs.2.1, cell_kept hs.2.2 hg hr⟩) _) (ownFrom_below (Nat.le_refl _) (by omega)))
    ⟨⟨(by intro p hp; cases hp), hrc.1, hrc.2⟩, hB0⟩
    (fun x => { tmps := #[.agg #[.int .i64 t.kind, .int .i64 t.pos, .int .i64 t.n, encStr t.text, .slice t.A t.kids.length t.cap], .pointer (some ⟨w.heap.size, 0, none⟩), .pointer (some ⟨w.heap.size + 1, 0, none⟩), .int .i64 (x.1 : Nat), .agg #[.int .i64 t.kind, .int .i64 t.pos, .int .i64 t.n, encStr t.text, .slice t.A t.kids.length t.cap], .func (.func 93) #[] #[.pointer (some ⟨w.heap.size + 1 + 1, 0, none⟩), .pointer (some ⟨w.heap.size + 1 + 1 + 1, 0, none⟩)], .int .i64 (x.1 : Nat), treeV x.2, undef, undef], defers := [] }) ?assign ?body ?done ?stop
  case assign =>
    intro l x W K hK
    gi_wp2
    exact hK
  case body =>
    rintro l pre x W ⟨⟨hp, hcr, hfr⟩, hB⟩ _
    by_cases hx : x.1 ≤ 100
    · have hx1 : ¬ (x.1 : Int) > 100 := by omega
      gi_wp2
      exact ⟨KeepsOthers.refl _, Kc.refl _ _ _, ⟨AllLow.snoc hp hx, hcr, hfr⟩, hB⟩
    · have hx1 : (x.1 : Int) > 100 := by omega
      gi_wp2
      exact ⟨KeepsOthers.setCell _ _ _, ⟨rfl, ⟨x, by simp, hx⟩, World.cell?_setCell_same' _ _ _ (by rw [hcr]; rfl)⟩, hB.setCell (p := ⟨w.heap.size + 1, 0, none⟩) (by simp) _⟩
  case done =>
    rintro D ys W hD rfl ⟨⟨hne, hcr, hfr⟩, hB⟩ hK
    gi_wp2
    have hK' := (KeepsOthers.setCell W ⟨w.heap.size + 1, 0, none⟩ (.bool true)).same D _ hK rfl
    refine ⟨by simp, .inl ⟨_, _, rfl, run_takeDeferred hK', ?_⟩⟩
    have hc5 := cell_kept (World.cell?_setCell_same' W ⟨w.heap.size + 1, 0, none⟩ (.bool true) (by rw [hcr]; rfl)) (grownBy_putObj' _ D (.deferred none)) (fun r e => by cases e; exact ⟨_, hK', rfl⟩)
    refine ⟨.bool true, ?_, by rw [decide_eq_true (p := ∀ p ∈ t.lev 1, p.1 ≤ 100) hne], (hB.setCell (p := ⟨w.heap.size + 1, 0, none⟩) (by simp) _).trans (belowK_b (w := w) (Nat.le_refl _) _ D _ _ (by omega) hK' rfl rfl)⟩
    simp [results, Try.f52, go_sem, hc5]
  case stop =>
    rintro D c pre W hD hpre ⟨⟨rfl, ⟨p, hp, hp1⟩, hcr⟩, hB⟩ hK
    gi_wp2
    refine ⟨by simp, .inl ⟨_, _, rfl, run_takeDeferred hK, ?_⟩⟩
    have hc5 := cell_kept hcr (grownBy_putObj' _ D (.deferred none)) (fun r e => by cases e; exact ⟨_, hK, rfl⟩)
    refine ⟨.bool false, ?_, by rw [decide_eq_false (fun h => hp1 (h p (hpre.subset hp)))], hB.trans (belowK_b (w := w) (Nat.le_refl _) W D _ _ (by omega) hK rfl rfl)⟩
    simp [results, Try.f52, go_sem, hc5]

theorem n_low (t : Tree) (w : World) (h : NodeIn w t) (hsz : t.size ≤ 100000) :
    Calls Try.prog 52 #[treeV t] w fun e w' => e = .returned (.bool (lowB t)) ∧ Ext w w' := by
  refine (callsIn_wide (n := 3)).1 ((n_low_in Fence.wide rfl 3 trivial trivial trivial trivial rfl (Nat.le_refl _) t w h hsz).mono ?_)
  rintro e w' ⟨he, hB⟩
  exact ⟨he, Ext.of_below hB (Nat.le_refl _)⟩

end Go.Proofs.Ytnbnhchgkbbiiaa
