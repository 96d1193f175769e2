/- Contracts: a term of others, of the program. -/
import Derived.Test.YtjacjpeeinnkcaaGreatJB38
import Derived.RegionTactic
import Derived.Deep.DeepCutAuto
/- Contracts: a term of others, of the program. -/
namespace Go.Proofs.YtjacjpeeinnkcaaGreat
open Go.RowKit

theorem app_form (wr : World) (B : Nat) (a b : Tm) (g : Nat) : ((((((wr.setCell ⟨B, 0, none⟩ (.int .i64 4)).setCell ⟨B, 1, none⟩ (.int .i64 0)).setCell ⟨B, 2, none⟩ (.string ⟨#[]⟩)).setCell ⟨B, 3, none⟩ (.slice none 0 0)).setCell ⟨B, 4, none⟩ (.slice none 0 0)).setCell ⟨B, 5, none⟩ (.slice (some ⟨g, 0, none⟩) 2 2)) = putTm wr B (appT a b g) := by
  unfold putTm appT Tm.kind Tm.n Tm.name Tm.V Tm.vars Tm.vc Tm.T Tm.types Tm.tc Tm.A Tm.kids Tm.cap
  rfl
/-- An application is written into a box, its parts into a new block. -/
theorem app_step {W wr : World} {B : Nat} {a b : Tm} {v0 v1 v2 v3 v4 v5 : Value} (hX : Ext W wr) (hB : TmBox wr B a) (hZ : wr.heap[B + 1]? = some (.cells #[v0, v1, v2, v3, v4, v5] 31 (0, 0))) (ha : TmIn wr a) (haa : AwayM B a) (hb : TmIn wr b) (hab : AwayM B b) (hWB : W.heap.size ≤ B) {V V2 : World} {g : Nat} (hV : V = putTm wr B (appT a b g)) (hE : Ext V V2) (hg : g = V2.heap.size) :
    Ext W (V2.alloc (.cells #[.int .i64 a.kind, .int .i64 a.n, .string ⟨a.name.toArray⟩, .slice a.V a.vars.length a.vc, .slice a.T a.types.length a.tc, .slice a.A a.kids.length a.cap, .int .i64 b.kind, .int .i64 b.n, .string ⟨b.name.toArray⟩, .slice b.V b.vars.length b.vc, .slice b.T b.types.length b.tc, .slice b.A b.kids.length b.cap] 31)) ∧ TmBox (V2.alloc (.cells #[.int .i64 a.kind, .int .i64 a.n, .string ⟨a.name.toArray⟩, .slice a.V a.vars.length a.vc, .slice a.T a.types.length a.tc, .slice a.A a.kids.length a.cap, .int .i64 b.kind, .int .i64 b.n, .string ⟨b.name.toArray⟩, .slice b.V b.vars.length b.vc, .slice b.T b.types.length b.tc, .slice b.A b.kids.length b.cap] 31)) B (appT a b (g)) ∧ (V2.alloc (.cells #[.int .i64 a.kind, .int .i64 a.n, .string ⟨a.name.toArray⟩, .slice a.V a.vars.length a.vc, .slice a.T a.types.length a.tc, .slice a.A a.kids.length a.cap, .int .i64 b.kind, .int .i64 b.n, .string ⟨b.name.toArray⟩, .slice b.V b.vars.length b.vc, .slice b.T b.types.length b.tc, .slice b.A b.kids.length b.cap] 31)).heap[B + 1]? = some (.cells #[v0, v1, v2, v3, v4, v5] 31 (0, 0)) ∧ TmIn (V2.alloc (.cells #[.int .i64 a.kind, .int .i64 a.n, .string ⟨a.name.toArray⟩, .slice a.V a.vars.length a.vc, .slice a.T a.types.length a.tc, .slice a.A a.kids.length a.cap, .int .i64 b.kind, .int .i64 b.n, .string ⟨b.name.toArray⟩, .slice b.V b.vars.length b.vc, .slice b.T b.types.length b.tc, .slice b.A b.kids.length b.cap] 31)) (appT a b (g)) := by
  have gr := putTm_grown wr B (appT a b g)
  rw [← hV] at gr
  have hbx : TmBox V B (appT a b g) := by rw [hV]; exact putTm_box _ hB
  have hz : V.heap[B + 1]? = _ := (gr.block (B + 1) (lt_of_obj hZ) (fun e => by injection e with e; omega)).trans hZ
  have hE : Ext V (V2.alloc (.cells #[.int .i64 a.kind, .int .i64 a.n, .string ⟨a.name.toArray⟩, .slice a.V a.vars.length a.vc, .slice a.T a.types.length a.tc, .slice a.A a.kids.length a.cap, .int .i64 b.kind, .int .i64 b.n, .string ⟨b.name.toArray⟩, .slice b.V b.vars.length b.vc, .slice b.T b.types.length b.tc, .slice b.A b.kids.length b.cap] 31)) := hE.alloc _
  exact ⟨(hX.grown gr (fun c e => by injection e with e; omega)).trans hE, hbx.ext hE, (hE.heap (lt_of_obj hz)).trans hz,
    appT_in ((ha.grown gr (fun c e => by injection e with e; subst e; exact haa)).ext hE) ((hb.grown gr (fun c e => by injection e with e; subst e; exact hab)).ext hE) (at_newB V2 _ _ hg)⟩
theorem app_stepA {W wr : World} {B : Nat} {a b : Tm} {v0 v1 v2 v3 v4 v5 : Value} (hX : Ext W wr) (hB : TmBox wr B a) (hZ : wr.heap[B + 1]? = some (.cells #[v0, v1, v2, v3, v4, v5] 31 (0, 0))) (ha : TmIn wr a) (haa : AwayM B a) (hb : TmIn wr b) (hab : AwayM B b) (hWB : W.heap.size ≤ B) :
    Ext W (((((((((wr.setCell ⟨B, 0, none⟩ (.int .i64 4)).setCell ⟨B, 1, none⟩ (.int .i64 0)).setCell ⟨B, 2, none⟩ (.string ⟨#[]⟩)).setCell ⟨B, 3, none⟩ (.slice none 0 0)).setCell ⟨B, 4, none⟩ (.slice none 0 0)).setCell ⟨B, 5, none⟩ (.slice (some ⟨wr.heap.size + 1, 0, none⟩) 2 2))).alloc (.cells #[.int .i64 b.kind, .int .i64 b.n, .string ⟨b.name.toArray⟩, .slice b.V b.vars.length b.vc, .slice b.T b.types.length b.tc, .slice b.A b.kids.length b.cap] 31)).alloc (.cells #[.int .i64 a.kind, .int .i64 a.n, .string ⟨a.name.toArray⟩, .slice a.V a.vars.length a.vc, .slice a.T a.types.length a.tc, .slice a.A a.kids.length a.cap, .int .i64 b.kind, .int .i64 b.n, .string ⟨b.name.toArray⟩, .slice b.V b.vars.length b.vc, .slice b.T b.types.length b.tc, .slice b.A b.kids.length b.cap] 31)) ∧ TmBox (((((((((wr.setCell ⟨B, 0, none⟩ (.int .i64 4)).setCell ⟨B, 1, none⟩ (.int .i64 0)).setCell ⟨B, 2, none⟩ (.string ⟨#[]⟩)).setCell ⟨B, 3, none⟩ (.slice none 0 0)).setCell ⟨B, 4, none⟩ (.slice none 0 0)).setCell ⟨B, 5, none⟩ (.slice (some ⟨wr.heap.size + 1, 0, none⟩) 2 2))).alloc (.cells #[.int .i64 b.kind, .int .i64 b.n, .string ⟨b.name.toArray⟩, .slice b.V b.vars.length b.vc, .slice b.T b.types.length b.tc, .slice b.A b.kids.length b.cap] 31)).alloc (.cells #[.int .i64 a.kind, .int .i64 a.n, .string ⟨a.name.toArray⟩, .slice a.V a.vars.length a.vc, .slice a.T a.types.length a.tc, .slice a.A a.kids.length a.cap, .int .i64 b.kind, .int .i64 b.n, .string ⟨b.name.toArray⟩, .slice b.V b.vars.length b.vc, .slice b.T b.types.length b.tc, .slice b.A b.kids.length b.cap] 31)) B (appT a b (wr.heap.size + 1)) ∧ (((((((((wr.setCell ⟨B, 0, none⟩ (.int .i64 4)).setCell ⟨B, 1, none⟩ (.int .i64 0)).setCell ⟨B, 2, none⟩ (.string ⟨#[]⟩)).setCell ⟨B, 3, none⟩ (.slice none 0 0)).setCell ⟨B, 4, none⟩ (.slice none 0 0)).setCell ⟨B, 5, none⟩ (.slice (some ⟨wr.heap.size + 1, 0, none⟩) 2 2))).alloc (.cells #[.int .i64 b.kind, .int .i64 b.n, .string ⟨b.name.toArray⟩, .slice b.V b.vars.length b.vc, .slice b.T b.types.length b.tc, .slice b.A b.kids.length b.cap] 31)).alloc (.cells #[.int .i64 a.kind, .int .i64 a.n, .string ⟨a.name.toArray⟩, .slice a.V a.vars.length a.vc, .slice a.T a.types.length a.tc, .slice a.A a.kids.length a.cap, .int .i64 b.kind, .int .i64 b.n, .string ⟨b.name.toArray⟩, .slice b.V b.vars.length b.vc, .slice b.T b.types.length b.tc, .slice b.A b.kids.length b.cap] 31)).heap[B + 1]? = some (.cells #[v0, v1, v2, v3, v4, v5] 31 (0, 0)) ∧ TmIn (((((((((wr.setCell ⟨B, 0, none⟩ (.int .i64 4)).setCell ⟨B, 1, none⟩ (.int .i64 0)).setCell ⟨B, 2, none⟩ (.string ⟨#[]⟩)).setCell ⟨B, 3, none⟩ (.slice none 0 0)).setCell ⟨B, 4, none⟩ (.slice none 0 0)).setCell ⟨B, 5, none⟩ (.slice (some ⟨wr.heap.size + 1, 0, none⟩) 2 2))).alloc (.cells #[.int .i64 b.kind, .int .i64 b.n, .string ⟨b.name.toArray⟩, .slice b.V b.vars.length b.vc, .slice b.T b.types.length b.tc, .slice b.A b.kids.length b.cap] 31)).alloc (.cells #[.int .i64 a.kind, .int .i64 a.n, .string ⟨a.name.toArray⟩, .slice a.V a.vars.length a.vc, .slice a.T a.types.length a.tc, .slice a.A a.kids.length a.cap, .int .i64 b.kind, .int .i64 b.n, .string ⟨b.name.toArray⟩, .slice b.V b.vars.length b.vc, .slice b.T b.types.length b.tc, .slice b.A b.kids.length b.cap] 31)) (appT a b (wr.heap.size + 1)) := by
  have hV := app_form wr B a b (wr.heap.size + 1)
  generalize ((((((wr.setCell ⟨B, 0, none⟩ (.int .i64 4)).setCell ⟨B, 1, none⟩ (.int .i64 0)).setCell ⟨B, 2, none⟩ (.string ⟨#[]⟩)).setCell ⟨B, 3, none⟩ (.slice none 0 0)).setCell ⟨B, 4, none⟩ (.slice none 0 0)).setCell ⟨B, 5, none⟩ (.slice (some ⟨wr.heap.size + 1, 0, none⟩) 2 2)) = V at *
  have hsz : V.heap.size = wr.heap.size := by rw [hV, putTm_size]
  exact app_step hX hB hZ ha haa hb hab hWB hV ((Ext.refl V).alloc _) (by simp [hsz])
theorem app_stepB {W wr : World} {B : Nat} {a b : Tm} {v0 v1 v2 v3 v4 v5 : Value} (hX : Ext W wr) (hB : TmBox wr B a) (hZ : wr.heap[B + 1]? = some (.cells #[v0, v1, v2, v3, v4, v5] 31 (0, 0))) (ha : TmIn wr a) (haa : AwayM B a) (hb : TmIn wr b) (hab : AwayM B b) (hWB : W.heap.size ≤ B) :
    Ext W ((((((((wr.setCell ⟨B, 0, none⟩ (.int .i64 4)).setCell ⟨B, 1, none⟩ (.int .i64 0)).setCell ⟨B, 2, none⟩ (.string ⟨#[]⟩)).setCell ⟨B, 3, none⟩ (.slice none 0 0)).setCell ⟨B, 4, none⟩ (.slice none 0 0)).setCell ⟨B, 5, none⟩ (.slice (some ⟨wr.heap.size, 0, none⟩) 2 2))).alloc (.cells #[.int .i64 a.kind, .int .i64 a.n, .string ⟨a.name.toArray⟩, .slice a.V a.vars.length a.vc, .slice a.T a.types.length a.tc, .slice a.A a.kids.length a.cap, .int .i64 b.kind, .int .i64 b.n, .string ⟨b.name.toArray⟩, .slice b.V b.vars.length b.vc, .slice b.T b.types.length b.tc, .slice b.A b.kids.length b.cap] 31)) ∧ TmBox ((((((((wr.setCell ⟨B, 0, none⟩ (.int .i64 4)).setCell ⟨B, 1, none⟩ (.int .i64 0)).setCell ⟨B, 2, none⟩ (.string ⟨#[]⟩)).setCell ⟨B, 3, none⟩ (.slice none 0 0)).setCell ⟨B, 4, none⟩ (.slice none 0 0)).setCell ⟨B, 5, none⟩ (.slice (some ⟨wr.heap.size, 0, none⟩) 2 2))).alloc (.cells #[.int .i64 a.kind, .int .i64 a.n, .string ⟨a.name.toArray⟩, .slice a.V a.vars.length a.vc, .slice a.T a.types.length a.tc, .slice a.A a.kids.length a.cap, .int .i64 b.kind, .int .i64 b.n, .string ⟨b.name.toArray⟩, .slice b.V b.vars.length b.vc, .slice b.T b.types.length b.tc, .slice b.A b.kids.length b.cap] 31)) B (appT a b (wr.heap.size)) ∧ ((((((((wr.setCell ⟨B, 0, none⟩ (.int .i64 4)).setCell ⟨B, 1, none⟩ (.int .i64 0)).setCell ⟨B, 2, none⟩ (.string ⟨#[]⟩)).setCell ⟨B, 3, none⟩ (.slice none 0 0)).setCell ⟨B, 4, none⟩ (.slice none 0 0)).setCell ⟨B, 5, none⟩ (.slice (some ⟨wr.heap.size, 0, none⟩) 2 2))).alloc (.cells #[.int .i64 a.kind, .int .i64 a.n, .string ⟨a.name.toArray⟩, .slice a.V a.vars.length a.vc, .slice a.T a.types.length a.tc, .slice a.A a.kids.length a.cap, .int .i64 b.kind, .int .i64 b.n, .string ⟨b.name.toArray⟩, .slice b.V b.vars.length b.vc, .slice b.T b.types.length b.tc, .slice b.A b.kids.length b.cap] 31)).heap[B + 1]? = some (.cells #[v0, v1, v2, v3, v4, v5] 31 (0, 0)) ∧ TmIn ((((((((wr.setCell ⟨B, 0, none⟩ (.int .i64 4)).setCell ⟨B, 1, none⟩ (.int .i64 0)).setCell ⟨B, 2, none⟩ (.string ⟨#[]⟩)).setCell ⟨B, 3, none⟩ (.slice none 0 0)).setCell ⟨B, 4, none⟩ (.slice none 0 0)).setCell ⟨B, 5, none⟩ (.slice (some ⟨wr.heap.size, 0, none⟩) 2 2))).alloc (.cells #[.int .i64 a.kind, .int .i64 a.n, .string ⟨a.name.toArray⟩, .slice a.V a.vars.length a.vc, .slice a.T a.types.length a.tc, .slice a.A a.kids.length a.cap, .int .i64 b.kind, .int .i64 b.n, .string ⟨b.name.toArray⟩, .slice b.V b.vars.length b.vc, .slice b.T b.types.length b.tc, .slice b.A b.kids.length b.cap] 31)) (appT a b (wr.heap.size)) := by
  have hV := app_form wr B a b wr.heap.size
  generalize ((((((wr.setCell ⟨B, 0, none⟩ (.int .i64 4)).setCell ⟨B, 1, none⟩ (.int .i64 0)).setCell ⟨B, 2, none⟩ (.string ⟨#[]⟩)).setCell ⟨B, 3, none⟩ (.slice none 0 0)).setCell ⟨B, 4, none⟩ (.slice none 0 0)).setCell ⟨B, 5, none⟩ (.slice (some ⟨wr.heap.size, 0, none⟩) 2 2)) = V at *
  have hsz : V.heap.size = wr.heap.size := by rw [hV, putTm_size]
  exact app_step hX hB hZ ha haa hb hab hWB hV (Ext.refl V) hsz.symm

set_option maxRecDepth 10000 in
set_option maxHeartbeats 4000000 in
theorem m_apps (A : Option Addr) (cap : Nat) (l : List Tm) (t : Tm) (w : World) (h : TmsIn w A l) (ht : TmIn w t) (hl : l.length ≤ 1000000) :
    Calls Tryz.prog 15 #[tmV t, .slice A l.length cap] w fun e w' => (∃ u, e = .returned (tmV u) ∧ TmIn w' u ∧ u.pure = appsP t.pure l ∧ ∀ c, c < w.heap.size → AwayM c t → (∀ x ∈ l, AwayM c x) → AwayM c u) ∧ Ext w w' := by
  obtain ⟨W, hW⟩ : ∃ W, W = (w.alloc (.cells #[.int .i64 t.kind, .int .i64 t.n, encStr t.name, .slice t.V t.vars.length t.vc, .slice t.T t.types.length t.tc, .slice t.A t.kids.length t.cap] 31)).alloc (.cells #[.int .i64 0, .int .i64 0, .string ⟨#[]⟩, .slice none 0 0, .slice none 0 0, .slice none 0 0] 31) := ⟨_, rfl⟩
  have HW := hide hW.symm
  have X0 : Hid (Ext w W) := hide (by rw [hW]; exact ((Ext.refl _).alloc _).alloc _)
  have hWs : W.heap.size = w.heap.size + 2 := by rw [hW]; simp
  have B1 : Hid (TmBox W w.heap.size t) := hide (by rw [hW]; exact (TmBox.new w t).ext ((Ext.refl _).alloc _))
  have B2 : Hid (W.heap[w.heap.size + 1]? = some (.cells #[.int .i64 0, .int .i64 0, .string ⟨#[]⟩, .slice none 0 0, .slice none 0 0, .slice none 0 0] 31 (0, 0))) := hide (by rw [hW]; exact at_newB _ _ _ (by simp))
  have H := hide h
  have Ht := hide ht
  have HA0 : Hid (∀ c, c < w.heap.size + 2 → (c < w.heap.size → AwayM c t ∧ ∀ x ∈ l, AwayM c x) → AwayM c t) := hide (fun c _ h => (Nat.lt_or_ge c w.heap.size).elim (fun h1 => (h h1).1) (fun h1 => awayM_new ht h1))
  clear h ht hW
  unfold tmV at *
  go_enter Tryz.func15, Tryz.ntmps15
  go_upto_region 1 with fail
  rw [HW.out]
  go_wp2
  go_loopw [9] (fun i wr => ∃ (k : Nat) (u : Tm), k ≤ l.length ∧ i = .int .i64 k ∧ Hid (Ext w wr) ∧ Hid (TmBox wr w.heap.size u) ∧ Hid (wr.heap[w.heap.size + 1]? = some (.cells #[.int .i64 0, .int .i64 0, .string ⟨#[]⟩, .slice none 0 0, .slice none 0 0, .slice none 0 0] 31 (0, 0))) ∧ Hid (TmIn wr u ∧ u.pure = appsP t.pure (l.take k) ∧ ∀ c, c < w.heap.size + 2 → (c < w.heap.size → AwayM c t ∧ ∀ x ∈ l, AwayM c x) → AwayM c u)) (fun i _ => l.length - (intOf i).toNat)
  case atStart => exact ⟨0, t, Nat.zero_le _, rfl, X0, B1, B2, hide ⟨Ht.out.ext X0.out, rfl, HA0.out⟩⟩
  case round =>
    obtain ⟨k, u, hk, rfl, HX, HB, HZ, HU⟩ := hrel
    have hz2 := lt_of_obj HZ.out
    have hbl := HB.out.lt
    by_cases hlt : k < l.length
    · have hlt' : (k : Int) < (l.length : Int) := by omega
      have hk0 : (0 : Int) ≤ (k : Int) := by omega
      obtain ⟨b, o, hA, hb, r0, r1, r2, r3, r4, r5⟩ := (H.out.ext HX.out).at_ hlt
      have Htk := hide (appsP_take t.pure l hlt)
      have Hm := hide (List.getElem_mem hlt)
      have Hx := hide (H.out.kids _ (List.getElem_mem hlt))
      rw [hA]
      generalize l[k]'hlt = x at *
      have HAx : Hid (∀ c, c < w.heap.size + 2 → (c < w.heap.size → AwayM c t ∧ ∀ x ∈ l, AwayM c x) → AwayM c x) := hide (fun c _ h => (Nat.lt_or_ge c w.heap.size).elim (fun h1 => (h h1).2 _ Hm.out) (fun h1 => awayM_new Hx.out h1))
      have HAu : Hid (∀ g, wr.heap.size ≤ g → ∀ c, c < w.heap.size + 2 → (c < w.heap.size → AwayM c t ∧ ∀ x ∈ l, AwayM c x) → AwayM c (appT u x g)) := hide (fun g hg c hc h2 => appT_away (by omega) (HU.out.2.2 c hc h2) (HAx.out c hc h2))
      have HP : Hid (∀ g, (appT u x g).pure = appsP t.pure (l.take (k + 1))) := hide (fun g => by rw [appT_pure, HU.out.2.1, Htk.out])
      clear hA
      obtain ⟨c0, c1, c2, c3, c4, c5⟩ := HB.out.cells
      obtain ⟨f0, f1, f2, f3, f4, f5⟩ := HB.out.frees
      have HL := hide (app_stepA HX.out HB.out HZ.out HU.out.1 (HU.out.2.2 _ (by omega) (fun h => by omega)) (Hx.out.ext HX.out) (HAx.out _ (by omega) (fun h => by omega)) (Nat.le_refl _))
      go_wp2
      go_roundw
      case rel => exact ⟨k + 1, appT u x _, hlt, by go_num, hide HL.out.1, hide HL.out.2.1, hide HL.out.2.2.1, hide ⟨HL.out.2.2.2, HP.out _, HAu.out _ (by omega)⟩⟩
      case measure => simp [intOf]; omega
    · have hge : ¬ (k : Int) < (l.length : Int) := by omega
      obtain ⟨c0, c1, c2, c3, c4, c5⟩ := HB.out.cells
      obtain ⟨hu, hp, ha⟩ := HU.out
      rw [List.take_of_length_le (by omega)] at hp
      obtain ⟨WF, hWF⟩ : ∃ WF, WF = putTm wr (w.heap.size + 1) u := ⟨_, rfl⟩
      have hgr := putTm_grown wr (w.heap.size + 1) u
      have hbx := putTm_box u HZ.out
      rw [← hWF] at hgr hbx
      have XF := hide (HX.out.grown hgr (fun c e => by injection e with e; omega))
      have HUF := hide (hu.grown hgr (fun c e => by injection e with e; subst e; exact ha _ (by omega) (fun h => by omega)))
      have HP := hide hp
      have HA := hide ha
      have g0 := free_block HZ.out 0
      have g1 := free_block HZ.out 1
      have g2 := free_block HZ.out 2
      have g3 := free_block HZ.out 3
      have g4 := free_block HZ.out 4
      have g5 := free_block HZ.out 5
      have z0 := bytes_block HZ.out 0
      have z1 := bytes_block HZ.out 1
      have z2 := bytes_block HZ.out 2
      have z3 := bytes_block HZ.out 3
      have z4 := bytes_block HZ.out 4
      have z5 := bytes_block HZ.out 5
      simp only [List.getElem?_toArray, List.getElem?_cons_zero, List.getElem?_cons_succ] at z0 z1 z2 z3 z4 z5
      obtain ⟨m0, m1, m2, m3, m4, m5⟩ := hbx.cells
      clear hu hp ha hgr hbx
      unfold putTm at hWF
      go_wp2
      rw [← hWF]
      refine bodyPost_ret (v := .agg #[.int .i64 u.kind, .int .i64 u.n, .string ⟨u.name.toArray⟩, .slice u.V u.vars.length u.vc, .slice u.T u.types.length u.tc, .slice u.A u.kids.length u.cap]) ?_ rfl ⟨⟨u, rfl, HUF.out, HP.out, fun c hc h1 h2 => HA.out c (by omega) (fun _ => ⟨h1, h2⟩)⟩, XF.out⟩
      simp [results, Tryz.f15, go_sem, m0, m1, m2, m3, m4, m5]

end Go.Proofs.YtjacjpeeinnkcaaGreat

/- Contract: chapter 32's example. -/
namespace Go.Proofs.YtjacjpeeinnkcaaGreat
open Go.RowKit

theorem tm_block {w : World} {b : Nat} {t : Tm} {fr : Nat × Nat} (h : w.heap[b]? = some (.cells #[.int .i64 t.kind, .int .i64 t.n, .string ⟨t.name.toArray⟩, .slice t.V t.vars.length t.vc, .slice t.T t.types.length t.tc, .slice t.A t.kids.length t.cap] 31 fr)) : RowOf tmC w (some ⟨b, 0, none⟩) [t] := RowOf.block (t := 31) (fr := fr) tmC [t] h
theorem ex32_few (t : Tm) (h : t.pure = exX ∨ t.pure = exL ∨ t.pure = exA ∨ t.pure = exC ∨ t.pure = exF) : F32 t := by
  rcases h with h | h | h | h | h
  · exact few_var h
  · exact few_lam h
  · exact few_all h
  · exact few_all h
  · exact few_exF h

set_option maxRecDepth 10000 in
set_option maxHeartbeats 8000000 in
theorem l_awake32 (w : World) : Calls Tryz.prog 11 #[] w fun e w' => e = .returned (.bool true) ∧ Ext w w' := by
  go_enter Tryz.func11, Tryz.ntmps11
  -- x
  obtain ⟨x, hx⟩ : ∃ x : Tm, x = .mk 1 0 [35, 120] none 0 [] none 0 [] none 0 [] := ⟨_, rfl⟩
  obtain ⟨W1, hW1⟩ : ∃ W, W = w.alloc (.cells #[.int .i64 1, .int .i64 0, .string ⟨#[35, 120]⟩, .slice none 0 0, .slice none 0 0, .slice none 0 0] 31) := ⟨_, rfl⟩
  have X1 : Hid (Ext w W1) := hide (by rw [hW1]; exact (Ext.refl _).alloc _)
  have HxB : Hid (TmBox W1 w.heap.size x) := hide (by rw [hW1, hx]; exact at_newB _ _ _ rfl)
  have Hxi : Hid (∀ w, TmIn w x) := hide (fun w => by rw [hx]; exact .mk ⟨Nat.zero_le _, by decide, Nat.zero_le _, by decide, Nat.zero_le _, by decide, by decide, RowOf.nil _ _ _, TysIn.nil _ _, RowOf.nil _ _ _⟩ (by intro k hk; cases hk))
  have Hxp : Hid (x.pure = exX) := hide (by rw [hx, Tm.pure_eq]; rfl)
  clear hx
  go_upto_region 2 with fail
  rw [← hW1]
  clear hW1
  -- l
  obtain ⟨c0, c1, c2, c3, c4, c5⟩ := HxB.out.cells
  have hlt := HxB.out.lt
  obtain ⟨W2, hW2⟩ : ∃ W, W = ((W1.alloc (.cells #[.string ⟨#[]⟩, .int .i64 7, .slice none 0 0] 55)).alloc (.cells #[.int .i64 x.kind, .int .i64 x.n, .string ⟨x.name.toArray⟩, .slice x.V x.vars.length x.vc, .slice x.T x.types.length x.tc, .slice x.A x.kids.length x.cap] 31)).alloc (.cells #[.int .i64 3, .int .i64 0, .string ⟨#[35, 120]⟩, .slice none 0 0, .slice (some ⟨W1.heap.size, 0, none⟩) 1 1, .slice (some ⟨W1.heap.size + 1, 0, none⟩) 1 1] 31) := ⟨_, rfl⟩
  obtain ⟨l, hl⟩ : ∃ l : Tm, l = .mk 3 0 [35, 120] none 0 [] (some ⟨W1.heap.size, 0, none⟩) 1 [varT 7] (some ⟨W1.heap.size + 1, 0, none⟩) 1 [x] := ⟨_, rfl⟩
  have X2 : Hid (Ext W1 W2) := hide (by rw [hW2]; exact (((Ext.refl _).alloc _).alloc _).alloc _)
  have HlB : Hid (TmBox W2 (W1.heap.size + 2) l) := hide (by rw [hW2, hl]; exact at_newB _ _ _ (by simp))
  have Hli : Hid (TmIn W2 l) := hide (by
    rw [hl]
    refine .mk ⟨Nat.zero_le _, by show 0 ≤ 9223372036854775807; omega, Nat.le_refl _, by show 1 ≤ 9223372036854775807; omega, Nat.le_refl _, by show 1 ≤ 9223372036854775807; omega, by show 2 ≤ 9223372036854775807; omega, RowOf.nil _ _ _, ⟨RowOf.block (t := 55) (fr := (0, 0)) tyC [varT 7] (by rw [hW2]; exact ((((Ext.refl _).alloc _).alloc _).heap (by simp)).trans (at_newB _ _ _ rfl)), fun k hk => by rcases List.mem_singleton.1 hk with rfl; exact varT_in _ 7⟩, tm_block (t := x) (by rw [hW2]; exact ((((Ext.refl _).alloc _).heap (by simp)).trans (at_newB _ _ _ (by simp))))⟩ (fun k hk => ?_)
    rcases List.mem_singleton.1 hk with rfl
    exact Hxi.out _)
  have Hlp : Hid (l.pure = exL) := hide (by rw [hl, Tm.pure_eq]; show Tm.Pure.mk 3 0 [35, 120] [] [(varT 7).pure] [x.pure] = exL; rw [Hxp.out, Ty.pure_eq]; rfl)
  clear hl
  go_upto_region 3 with fail
  rw [← hW2]
  clear hW2 c0 c1 c2 c3 c4 c5 hlt
  -- a
  obtain ⟨c0, c1, c2, c3, c4, c5⟩ := HlB.out.cells
  have hlt := HlB.out.lt
  obtain ⟨W3, hW3⟩ : ∃ W, W = ((W2.alloc (.cells #[.int .i64 7] 3)).alloc (.cells #[.int .i64 l.kind, .int .i64 l.n, .string ⟨l.name.toArray⟩, .slice l.V l.vars.length l.vc, .slice l.T l.types.length l.tc, .slice l.A l.kids.length l.cap] 31)).alloc (.cells #[.int .i64 5, .int .i64 0, .string ⟨#[]⟩, .slice (some ⟨W2.heap.size, 0, none⟩) 1 1, .slice none 0 0, .slice (some ⟨W2.heap.size + 1, 0, none⟩) 1 1] 31) := ⟨_, rfl⟩
  obtain ⟨a, ha⟩ : ∃ a : Tm, a = .mk 5 0 [] (some ⟨W2.heap.size, 0, none⟩) 1 [7] none 0 [] (some ⟨W2.heap.size + 1, 0, none⟩) 1 [l] := ⟨_, rfl⟩
  have X3 : Hid (Ext W2 W3) := hide (by rw [hW3]; exact (((Ext.refl _).alloc _).alloc _).alloc _)
  have HaB : Hid (TmBox W3 (W2.heap.size + 2) a) := hide (by rw [hW3, ha]; exact at_newB _ _ _ (by simp))
  have Hai : Hid (TmIn W3 a) := hide (by
    rw [ha]
    refine .mk ⟨Nat.le_refl _, by show 1 ≤ 9223372036854775807; omega, Nat.zero_le _, by show 0 ≤ 9223372036854775807; omega, Nat.le_refl _, by show 1 ≤ 9223372036854775807; omega, by show 0 ≤ 9223372036854775807; omega, RowOf.block (t := 3) (fr := (0, 0)) intC [7] (by rw [hW3]; exact ((((Ext.refl _).alloc _).alloc _).heap (by simp)).trans (at_newB _ _ _ rfl)), TysIn.nil _ _, tm_block (t := l) (by rw [hW3]; exact ((((Ext.refl _).alloc _).heap (by simp)).trans (at_newB _ _ _ (by simp))))⟩ (fun k hk => ?_)
    rcases List.mem_singleton.1 hk with rfl
    exact Hli.out.ext X3.out)
  have Hap : Hid (a.pure = exA) := hide (by rw [ha, Tm.pure_eq]; show Tm.Pure.mk 5 0 [] [7] [] [l.pure] = exA; rw [Hlp.out]; rfl)
  clear ha
  go_upto_region 4 with fail
  rw [← hW3]
  clear hW3 c0 c1 c2 c3 c4 c5 hlt
  -- c
  obtain ⟨c0, c1, c2, c3, c4, c5⟩ := HaB.out.cells
  have hlt := HaB.out.lt
  have HCn := hide (m_canon (some ⟨W3.heap.size, 0, none⟩) 1 [a] (W3.alloc (.cells #[.int .i64 a.kind, .int .i64 a.n, .string ⟨a.name.toArray⟩, .slice a.V a.vars.length a.vc, .slice a.T a.types.length a.tc, .slice a.A a.kids.length a.cap] 31)) ⟨tm_block (t := a) (at_newB _ _ _ rfl), fun k hk => by rcases List.mem_singleton.1 hk with rfl; exact Hai.out.ext ((Ext.refl _).alloc _)⟩ (fun k hk => by rcases List.mem_singleton.1 hk with rfl; exact (few_all Hap.out).few (by rw [(exAll_facts Hap.out rfl rfl).1]; decide)) (fun k hk => by rcases List.mem_singleton.1 hk with rfl; rw [(exAll_facts Hap.out rfl rfl).1]; decide) (by show msizes [a] ≤ 1000000; unfold msizes; rw [List.map_cons, (exAll_facts Hap.out rfl rfl).1]; decide) (by show 1 ≤ 1000000; omega))
  rw [List.map_cons, List.map_nil, Hap.out] at HCn
  have hec : (canQs numS [exA] cn0 0 0).1 = [exC] := ex_canon
  rw [hec] at HCn
  clear hec
  simp only [List.length_cons, List.length_nil, Nat.zero_add] at HCn
  go_wp2_with fail
  refine HCn.out.mono ?_
  rintro e W4 ⟨⟨cv, us, rfl, hown, hlen, hin, hpu⟩, hx4⟩
  have X4 := hide (((Ext.refl W3).alloc (.cells #[.int .i64 a.kind, .int .i64 a.n, .string ⟨a.name.toArray⟩, .slice a.V a.vars.length a.vc, .slice a.T a.types.length a.tc, .slice a.A a.kids.length a.cap] 31)).trans hx4)
  obtain ⟨c, rfl, hcp⟩ := one_of hpu
  have Hci : Hid (TmIn W4 c) := hide (hin c (List.mem_singleton.2 rfl))
  have Hcp : Hid (c.pure = exC) := hide hcp
  obtain ⟨Ac, capc, rfl, -, -, hrow, -⟩ := RowOf.own (C := tmC) hown
  have Hcr : Hid (TmsIn W4 Ac [c]) := hide ⟨hrow, fun k hk => by rcases List.mem_singleton.1 hk with rfl; exact Hci.out⟩
  simp only [List.length_cons, List.length_nil, Nat.zero_add] at *
  clear hown hlen hin hpu hcp hx4 HCn c0 c1 c2 c3 c4 c5 hlt hrow
  go_upto_region 5 with fail
  -- f
  have HxB4 : Hid (TmBox W4 w.heap.size x) := hide (HxB.out.ext (X2.out.trans (X3.out.trans X4.out)))
  obtain ⟨c0, c1, c2, c3, c4, c5⟩ := HxB4.out.cells
  have hlt := HxB4.out.lt
  obtain ⟨W5, hW5⟩ : ∃ W, W = ((W4.alloc (.cells #[.string ⟨#[120]⟩] 9)).alloc (.cells #[.string ⟨#[73, 110, 116]⟩, .int .i64 0, .slice none 0 0] 55)).alloc (.cells #[.int .i64 x.kind, .int .i64 x.n, .string ⟨x.name.toArray⟩, .slice x.V x.vars.length x.vc, .slice x.T x.types.length x.tc, .slice x.A x.kids.length x.cap] 31) := ⟨_, rfl⟩
  have X5 : Hid (Ext W4 W5) := hide (by rw [hW5]; exact (((Ext.refl _).alloc _).alloc _).alloc _)
  have HN : Hid (Strs W5 (some ⟨W4.heap.size, 0, none⟩) [[120]]) := hide (RowOf.block (t := 9) (fr := (0, 0)) strC [[120]] (by rw [hW5]; exact ((((Ext.refl _).alloc _).alloc _).heap (by simp)).trans (at_newB _ _ _ rfl)))
  have HTy : Hid (TysIn W5 (some ⟨W4.heap.size + 1, 0, none⟩) [.mk [73, 110, 116] 0 none 0 []]) := hide ⟨RowOf.block (t := 55) (fr := (0, 0)) tyC [.mk [73, 110, 116] 0 none 0 []] (by rw [hW5]; exact ((((Ext.refl _).alloc _).heap (by simp)).trans (at_newB _ _ _ (by simp)))), fun k hk => by rcases List.mem_singleton.1 hk with rfl; exact TyIn.of (Nat.zero_le _) (by omega) (by decide) (RowOf.nil _ _ _) (by simp)⟩
  have HXs : Hid (TmsIn W5 (some ⟨W4.heap.size + 2, 0, none⟩) [x]) := hide ⟨tm_block (t := x) (by rw [hW5]; exact at_newB _ _ _ (by simp)), fun k hk => by rcases List.mem_singleton.1 hk with rfl; exact Hxi.out _⟩
  have HAp := hide (m_apps (some ⟨W4.heap.size + 2, 0, none⟩) 1 [x] x W5 HXs.out (Hxi.out _) (by show 1 ≤ 1000000; omega))
  simp only [List.length_cons, List.length_nil, Nat.zero_add] at HAp
  unfold tmV at HAp
  rw [hW5] at HAp
  go_wp2_with fail
  refine HAp.out.mono ?_
  rintro e W6 ⟨⟨u, rfl, hu, hup, -⟩, hx6⟩
  rw [← hW5] at hx6
  have X6 := hide hx6
  have Hui : Hid (TmIn W6 u) := hide hu
  have Hup : Hid (u.pure = .mk 4 0 [] [] [] [exX, exX]) := hide (by rw [hup]; show appP x.pure x.pure = _; rw [Hxp.out]; rfl)
  clear hx6 hu hup HAp hW5 c0 c1 c2 c3 c4 c5 hlt
  have HLa := hide (m_lams (some ⟨W4.heap.size, 0, none⟩) 1 [[120]] (some ⟨W4.heap.size + 1, 0, none⟩) 1 [.mk [73, 110, 116] 0 none 0 []] u W6 (RowOf.ext strC HN.out X6.out) (HTy.out.ext X6.out) Hui.out (fun y hy => by rcases List.mem_singleton.1 hy with rfl; decide) (by decide) (by decide))
  simp only [List.length_cons, List.length_nil, Nat.zero_add] at HLa
  unfold tmV at HLa
  go_wp2_with fail
  refine HLa.out.mono ?_
  rintro e W7 ⟨⟨f, rfl, hf, hfp, -⟩, hx7⟩
  have X7 := hide hx7
  obtain ⟨W, hW⟩ : ∃ W, W = W7.alloc (.cells #[.int .i64 f.kind, .int .i64 f.n, .string ⟨f.name.toArray⟩, .slice f.V f.vars.length f.vc, .slice f.T f.types.length f.tc, .slice f.A f.kids.length f.cap] 31) := ⟨_, rfl⟩
  have X8 : Hid (Ext W7 W) := hide (by rw [hW]; exact (Ext.refl _).alloc _)
  have HfB : Hid (TmBox W W7.heap.size f) := hide (by rw [hW]; exact TmBox.new W7 f)
  have Hfi : Hid (TmIn W f) := hide (hf.ext X8.out)
  have Hfp : Hid (f.pure = exF) := hide (by rw [hfp]; show lamP [120] (Ty.mk [73, 110, 116] 0 none 0 []).pure u.pure = exF; rw [Hup.out, Ty.pure_eq]; rfl)
  have X48 : Hid (Ext W4 W) := hide (X5.out.trans (X6.out.trans (X7.out.trans X8.out)))
  clear hx7 hf hfp HLa HN HTy HXs Hui Hup
  go_upto_region 6 with fail
  rw [← hW]
  clear hW
  -- the calls
  have Hci8 : Hid (TmIn W c) := hide (Hci.out.ext X48.out)
  have Hcr8 : Hid (TmsIn W Ac [c]) := hide (Hcr.out.ext X48.out)
  have Hai8 : Hid (TmIn W a) := hide (Hai.out.ext (X4.out.trans X48.out))
  have Hli8 : Hid (TmIn W l) := hide (Hli.out.ext (X3.out.trans (X4.out.trans X48.out)))
  have HaB8 : Hid (TmBox W (W2.heap.size + 2) a) := hide (HaB.out.ext (X4.out.trans X48.out))
  have HlB8 : Hid (TmBox W (W1.heap.size + 2) l) := hide (HlB.out.ext (X3.out.trans (X4.out.trans X48.out)))
  have HxB8 : Hid (TmBox W w.heap.size x) := hide (HxB4.out.ext X48.out)
  have XW : Hid (Ext w W) := hide (X1.out.trans (X2.out.trans (X3.out.trans (X4.out.trans X48.out))))
  obtain ⟨ac, al⟩ := exAll_facts Hap.out rfl rfl
  obtain ⟨cc, cl⟩ := exAll_facts Hcp.out rfl rfl
  obtain ⟨fc, fl⟩ := exF_facts Hfp.out
  have ll := (exLam_size Hlp.out).1
  have xx := (exV_size Hxp.out).1
  have fA := few_all Hap.out
  have fL := few_lam Hlp.out
  have ak : a.kind = 5 := by have := congrArg (fun p : Tm.Pure => match p with | .mk k _ _ _ _ _ => k) Hap.out; rw [Tm.pure_eq] at this; exact this
  have lk : l.kind = 3 := by have := congrArg (fun p : Tm.Pure => match p with | .mk k _ _ _ _ _ => k) Hlp.out; rw [Tm.pure_eq] at this; exact this
  have H0 := hide (fun w' (e : Ext W w') => hide (m_text c _ (exC_text Hcp.out) cl ((few_all Hcp.out).few (by omega)) (by omega) w' (Hci8.out.ext e)))
  have H1 := hide (fun w' (e : Ext W w') => hide (m_size a w' (Hai8.out.ext e) (by omega)))
  rw [ac] at H1
  have H2 := hide (fun w' (e : Ext W w') => hide (m_legal a w' (Hai8.out.ext e) (fA.few (by omega)) (by omega)))
  rw [al] at H2
  have fZ : FewM Tm.zero := .mk (by show 0 ≤ 10000; omega) (fun y hy => by cases hy) (by show 0 ≤ 1000000; omega) (by show 0 ≤ 10000; omega) (fun y hy => by cases hy)
  have H3 := hide (fun w' => hide (m_legal Tm.zero w' (TmIn.zero w') fZ (by rw [Tm.size_eq]; show 0 + 1 ≤ 100000; omega)))
  rw [zero_legalM rfl] at H3
  have H4 := hide (fun w' (e : Ext W w') => hide (m_same_eq a a w' (Hai8.out.ext e) (Hai8.out.ext e) rfl))
  have H5 := hide (fun w' => hide (m_same_ne a l w' (by rw [ak, lk]; rfl)))
  have H6 := hide (fun w' => hide (m_free x w' (Hxi.out w') (by omega)))
  rw [ex_free_x Hxp.out] at H6
  have H8 := hide (fun w' (e : Ext W w') => hide (m_free l w' (Hli8.out.ext e) (by omega)))
  rw [ex_free_l Hlp.out] at H8
  have H9 := hide (fun w' (e : Ext W w') => hide (m_vars l w' (Hli8.out.ext e) (fL.few (by omega)) (by omega) (by have := fL.vsz; omega)))
  rw [ex_vars_l Hlp.out] at H9
  have H11 := hide (fun w' (e : Ext W w') => hide (m_vars a w' (Hai8.out.ext e) (fA.few (by omega)) (by omega) (by have := fA.vsz; omega)))
  rw [ex_vars_a Hap.out] at H11
  have H12 := hide (fun w' (e : Ext W w') => hide (m_text f _ (exF_text Hfp.out) fl ((few_exF Hfp.out).few (by omega)) (by omega) w' (Hfi.out.ext e)))
  unfold tmV at H0 H1 H2 H3 H4 H5 H6 H8 H9 H11 H12
  simp only [Tm.zero, Tm.kind, Tm.n, Tm.name, Tm.V, Tm.vc, Tm.vars, Tm.T, Tm.tc, Tm.types, Tm.A, Tm.cap, Tm.kids, encStr, List.length_nil] at H3
  clear ac al cc cl fc fl ll xx fA fL ak lk fZ Hci Hcr Hai Hli HaB HlB HxB HxB4 Hci8 Hai8 Hli8 Hfi Hxi Hxp Hlp Hap Hcp Hfp X1 X2 X3 X4 X5 X6 X7 X8 X48
  obtain ⟨b, o, hA, hb, q0, q1, q2, q3, q4, q5⟩ := Hcr8.out.at_ (i := 0) (by show 0 < 1; omega)
  subst hA
  simp only [List.getElem_cons_zero, Nat.zero_mul, Nat.add_zero] at q0 q1 q2 q3 q4 q5
  go_wp2_with fail
  refine (H0.out _ (Ext.refl W)).out.mono ?_
  rintro e v0 ⟨rfl, hx⟩
  have Y0 : Hid (Ext W v0) := hide ((Ext.refl W).trans hx)
  clear hx q0 q1 q2 q3 q4 q5
  obtain ⟨a0, a1, a2, a3, a4, a5⟩ := (HaB8.out.ext Y0.out).cells
  go_wp2_with fail
  refine (H1.out _ Y0.out).out.mono ?_
  rintro e v1 ⟨rfl, hx⟩
  have Y1 : Hid (Ext W v1) := hide (Y0.out.trans hx)
  clear hx a0 a1 a2 a3 a4 a5 
  obtain ⟨a0, a1, a2, a3, a4, a5⟩ := (HaB8.out.ext Y1.out).cells
  go_wp2_with fail
  refine (H2.out _ Y1.out).out.mono ?_
  rintro e v2 ⟨rfl, hx⟩
  have Y2 : Hid (Ext W v2) := hide (Y1.out.trans hx)
  clear hx a0 a1 a2 a3 a4 a5 
  go_wp2_with fail
  refine (H3.out _).out.mono ?_
  rintro e v3 ⟨rfl, hx⟩
  have Y3 : Hid (Ext W v3) := hide (Y2.out.trans hx)
  clear hx 
  obtain ⟨a0, a1, a2, a3, a4, a5⟩ := (HaB8.out.ext Y3.out).cells
  go_wp2_with fail
  refine (H4.out _ Y3.out).out.mono ?_
  rintro e v4 ⟨rfl, hx⟩
  have Y4 : Hid (Ext W v4) := hide (Y3.out.trans hx)
  clear hx a0 a1 a2 a3 a4 a5 
  obtain ⟨a0, a1, a2, a3, a4, a5⟩ := (HaB8.out.ext Y4.out).cells
  obtain ⟨l0, l1, l2, l3, l4, l5⟩ := (HlB8.out.ext Y4.out).cells
  go_wp2_with fail
  refine (H5.out _).out.mono ?_
  rintro e v5 ⟨rfl, hx⟩
  have Y5 : Hid (Ext W v5) := hide (Y4.out.trans hx)
  clear hx a0 a1 a2 a3 a4 a5 l0 l1 l2 l3 l4 l5 
  obtain ⟨x0, x1, x2, x3, x4, x5⟩ := (HxB8.out.ext Y5.out).cells
  go_wp2_with fail
  refine (H6.out _).out.mono ?_
  rintro e v6 ⟨⟨v, rfl, ho⟩, hx⟩
  obtain ⟨A6, cap6, rfl, -, -, hr, -⟩ := RowOf.own (C := strC) (l := [[35, 120]]) ho
  have Y6 : Hid (Ext W v6) := hide (Y5.out.trans hx)
  have H7 := hide (ref_texts A6 (some ⟨v6.heap.size, 0, none⟩) cap6 1 [[35, 120]] [[35, 120]] (v6.alloc (.cells #[.string ⟨#[35, 120]⟩] 9)) (RowOf.ext strC hr ((Ext.refl _).alloc _)) (RowOf.block strC [[35, 120]] (at_newB _ _ _ rfl)) (by show 1 ≤ 9223372036854775807; omega))
  rw [decide_eq_true rfl] at H7
  simp only [List.length_cons, List.length_nil, Nat.zero_add] at H7
  simp only [List.length_cons, List.length_nil, Nat.zero_add]
  clear hx ho hr x0 x1 x2 x3 x4 x5 
  go_wp2_with fail
  refine H7.out.mono ?_
  rintro e v7 ⟨rfl, hx⟩
  have Y7 : Hid (Ext W v7) := hide ((Y6.out.alloc _).trans hx)
  clear hx H7
  obtain ⟨l0, l1, l2, l3, l4, l5⟩ := (HlB8.out.ext Y7.out).cells
  go_wp2_with fail
  refine (H8.out _ Y7.out).out.mono ?_
  rintro e v8 ⟨⟨v, rfl, ho⟩, hx⟩
  obtain ⟨A8, cap8, rfl, -, -, -, -⟩ := RowOf.own (C := strC) (l := []) ho
  have Y8 : Hid (Ext W v8) := hide (Y7.out.trans hx)
  simp only [List.length_nil]
  clear hx ho l0 l1 l2 l3 l4 l5
  obtain ⟨l0, l1, l2, l3, l4, l5⟩ := (HlB8.out.ext Y8.out).cells
  go_wp2_with fail
  refine (H9.out _ Y8.out).out.mono ?_
  rintro e v9 ⟨⟨v, rfl, ho⟩, hx⟩
  obtain ⟨A9, cap9, rfl, -, -, hr, -⟩ := Ints.own (l := [7]) ho
  have Y9 : Hid (Ext W v9) := hide (Y8.out.trans hx)
  have H10 := hide (ref_ints A9 (some ⟨v9.heap.size, 0, none⟩) cap9 1 [7] [7] (v9.alloc (.cells #[.int .i64 7] 3)) (RowOf.ext intC hr ((Ext.refl _).alloc _)) (RowOf.block intC [7] (at_newB _ _ _ rfl)) (by show 1 ≤ 9223372036854775807; omega))
  rw [decide_eq_true rfl] at H10
  simp only [List.length_cons, List.length_nil, Nat.zero_add] at H10
  simp only [List.length_cons, List.length_nil, Nat.zero_add]
  clear hx ho hr l0 l1 l2 l3 l4 l5
  go_wp2_with fail
  refine H10.out.mono ?_
  rintro e v10 ⟨rfl, hx⟩
  have Y10 : Hid (Ext W v10) := hide ((Y9.out.alloc _).trans hx)
  clear hx H10
  obtain ⟨a0, a1, a2, a3, a4, a5⟩ := (HaB8.out.ext Y10.out).cells
  go_wp2_with fail
  refine (H11.out _ Y10.out).out.mono ?_
  rintro e v11 ⟨⟨v, rfl, ho⟩, hx⟩
  obtain ⟨A11, cap11, rfl, -, -, -, -⟩ := Ints.own (l := []) ho
  have Y11 : Hid (Ext W v11) := hide (Y10.out.trans hx)
  simp only [List.length_nil]
  clear hx ho a0 a1 a2 a3 a4 a5
  obtain ⟨f0, f1, f2, f3, f4, f5⟩ := (HfB.out.ext Y11.out).cells
  go_wp2_with fail
  refine (H12.out _ Y11.out).out.mono ?_
  rintro e v12 ⟨rfl, hx⟩
  go_wp2
  go_ret
  exact ⟨rfl, XW.out.trans (Y11.out.trans hx)⟩

end Go.Proofs.YtjacjpeeinnkcaaGreat

/- Contract: lambdas around a term, of the reference. -/
namespace Go.Proofs.YtjacjpeeinnkcaaGreat
open Go.RowKit

set_option maxRecDepth 10000 in
set_option maxHeartbeats 4000000 in
theorem r_lams32 (N : Option Addr) (nc : Nat) (names : List Str) (T : Option Addr) (tc : Nat) (types : List Ty) (t : Tm) (w : World) (hN : Strs w N names) (hT : TysIn w T types) (ht : TmIn w t) (hs : ∀ x ∈ names, x.length ≤ 9223372036854775807) (h1 : names.length ≤ 1000000) (h2 : types.length ≤ 1000000) :
    Calls Tryz.prog 14 #[.slice N names.length nc, .slice T types.length tc, tmV t] w fun e w' => (∃ u, e = .returned (tmV u) ∧ TmIn w' u ∧ u.pure = lamsP (names.zip types) t.pure ∧ ∀ c, c < w.heap.size → AwayM c t → (∀ x ∈ types, awayB c x = true) → AwayM c u) ∧ Ext w w' := by
  obtain ⟨W, hW⟩ : ∃ W, W = (w.alloc (.cells #[.int .i64 t.kind, .int .i64 t.n, encStr t.name, .slice t.V t.vars.length t.vc, .slice t.T t.types.length t.tc, .slice t.A t.kids.length t.cap] 31)).alloc (.cells #[.int .i64 0, .int .i64 0, .string ⟨#[]⟩, .slice none 0 0, .slice none 0 0, .slice none 0 0] 31) := ⟨_, rfl⟩
  have HW := hide hW.symm
  have X0 : Hid (Ext w W) := hide (by rw [hW]; exact ((Ext.refl _).alloc _).alloc _)
  have hWs : W.heap.size = w.heap.size + 2 := by rw [hW]; simp
  have B1 : Hid (TmBox W w.heap.size t) := hide (by rw [hW]; exact (TmBox.new w t).ext ((Ext.refl _).alloc _))
  have B2 : Hid (W.heap[w.heap.size + 1]? = some (.cells #[.int .i64 0, .int .i64 0, .string ⟨#[]⟩, .slice none 0 0, .slice none 0 0, .slice none 0 0] 31 (0, 0))) := hide (by rw [hW]; exact at_newB _ _ _ (by simp))
  have HN := hide hN
  have HT := hide hT
  have Ht := hide ht
  have Hs := hide hs
  have HA0 : Hid (∀ c, c < w.heap.size + 2 → (c < w.heap.size → AwayM c t ∧ ∀ x ∈ types, awayB c x = true) → AwayM c t) := hide (fun c _ h => (Nat.lt_or_ge c w.heap.size).elim (fun h1 => (h h1).1) (fun h1 => awayM_new ht h1))
  clear hN hT ht hs hW
  obtain ⟨m, Hm⟩ : ∃ m, Hid (m = (names.zip types).length) := ⟨_, hide rfl⟩
  have hmin : (if (types.length : Int) < (names.length : Int) then (types.length : Int) else (names.length : Int)) = (m : Int) := by have := Hm.out; rw [List.length_zip] at this; split <;> omega
  have hmin3 : (if types.length < names.length then (types.length : Int) else (names.length : Int)) = (m : Int) := by have := Hm.out; rw [List.length_zip] at this; split <;> omega
  have hmin2 : min (names.length : Int) (types.length : Int) = (m : Int) := by have := Hm.out; rw [List.length_zip] at this; omega
  unfold tmV at *
  go_enter Tryz.func14, Tryz.ntmps14
  go_upto_region 1 with fail
  rw [HW.out]
  go_wp2
  go_loopw [7] (fun i wr => ∃ (k : Nat) (v : Int) (u : Tm), (k : Int) = v + 1 ∧ k ≤ (names.zip types).length ∧ i = .int .i64 v ∧ Hid (Ext w wr) ∧ Hid (TmBox wr w.heap.size u) ∧ Hid (wr.heap[w.heap.size + 1]? = some (.cells #[.int .i64 0, .int .i64 0, .string ⟨#[]⟩, .slice none 0 0, .slice none 0 0, .slice none 0 0] 31 (0, 0))) ∧ Hid (TmIn wr u ∧ u.pure = lamsP ((names.zip types).drop k) t.pure ∧ ∀ c, c < w.heap.size + 2 → (c < w.heap.size → AwayM c t ∧ ∀ x ∈ types, awayB c x = true) → AwayM c u)) (fun i _ => (intOf i + 1).toNat)
  case atStart => exact ⟨(names.zip types).length, (m : Int) - 1, t, by have := Hm.out; omega, Nat.le_refl _, rfl, X0, B1, B2, hide ⟨Ht.out.ext X0.out, by rw [List.drop_length]; rfl, HA0.out⟩⟩
  case round =>
    obtain ⟨k, v, u, hk, hkl, rfl, HX, HB, HZ, HU⟩ := hrel
    obtain ⟨c0, c1, c2, c3, c4, c5⟩ := HB.out.cells
    obtain ⟨f0, f1, f2, f3, f4, f5⟩ := HB.out.frees
    by_cases hv : 0 ≤ v
    · obtain ⟨j, rfl⟩ : ∃ j : Nat, v = (j : Int) := ⟨v.toNat, by omega⟩
      have hkj : k = j + 1 := by omega
      subst hkj
      have hlz : j < (names.zip types).length := by omega
      have hjn : j < names.length := by rw [List.length_zip] at hlz; omega
      have hjt : j < types.length := by rw [List.length_zip] at hlz; omega
      have hn1 : (j : Int) < (names.length : Int) := by omega
      have ht1 : (j : Int) < (types.length : Int) := by omega
      have XR := HX
      have hz2 := lt_of_obj HZ.out
      obtain ⟨b, o, hA, hb, q0⟩ := (HN.out.ext XR.out).at_ hjn
      obtain ⟨b', o', hA', hb', r0, r1, r2⟩ := (HT.out.ext XR.out).at_ hjt
      rw [hA, hA']
      have Hxs := hide (Hs.out (names.getD j []) (by simp [hjn]))
      have hbl := HB.out.lt
      have Hzip : Hid (lamsP ((names.zip types).drop j) t.pure = lamP (names[j]'hjn) (types[j]'hjt).pure (lamsP ((names.zip types).drop (j + 1)) t.pure)) := hide (by rw [lamsP_drop _ _ hlz, List.getElem_zip])
      have Hxt := hide (List.getElem_mem hjt)
      have Hxi := hide (HT.out.args _ (List.getElem_mem hjt))
      have hgd : names.getD j [] = names[j]'hjn := by simp [hjn]
      rw [hgd] at q0 Hxs
      generalize names[j]'hjn = s at *
      generalize types[j]'hjt = x at *
      clear hgd hA hA'
      have HAx : Hid (∀ c, w.heap.size ≤ c → awayB c x = true) := hide (fun c hc => away_new Hxi.out hc)
      have Hxr := hide (Hxi.out.ext XR.out)
      have HAu : ∀ g h, wr.heap.size ≤ g → wr.heap.size ≤ h → ∀ c, c < w.heap.size + 2 → (c < w.heap.size → AwayM c t ∧ ∀ x ∈ types, awayB c x = true) → AwayM c (lamT s x u g h) := fun g h hg hh c hc h2 => by
        refine lamT_away (by omega) (by omega) ?_ (HU.out.2.2 c hc h2)
        rcases Nat.lt_or_ge c w.heap.size with h3 | h3
        · exact (h2 h3).2 _ Hxt.out
        · exact HAx.out c h3
      have HAu := hide HAu
      have HP : Hid (∀ g h, (lamT s x u g h).pure = lamsP ((names.zip types).drop j) t.pure) := hide (fun g h => by rw [lamT_pure, HU.out.2.1, Hzip.out])
      have HLA := hide (lam_stepA HX.out HB.out HZ.out HU.out.1 (HU.out.2.2 _ (by omega) (fun h => by omega)) Hxr.out (HAx.out _ (Nat.le_refl _)) Hxs.out (Nat.le_refl _))
      have HLB := hide (lam_stepB HX.out HB.out HZ.out HU.out.1 (HU.out.2.2 _ (by omega) (fun h => by omega)) Hxr.out (HAx.out _ (Nat.le_refl _)) Hxs.out (Nat.le_refl _))
      go_wp2
      go_region
      all_goals (go_wp2; go_roundw)
      case measure => simp [intOf]
      case measure => simp [intOf]
      case rel => exact ⟨j, (j : Int) - 1, lamT s x u wr.heap.size (wr.heap.size + 1), by omega, by omega, rfl, hide HLA.out.1, hide HLA.out.2.1, hide HLA.out.2.2.1, hide ⟨HLA.out.2.2.2, HP.out _ _, HAu.out _ _ (Nat.le_refl _) (Nat.le_succ _)⟩⟩
      case rel => exact ⟨j, (j : Int) - 1, lamT s x u (wr.heap.size + 1) wr.heap.size, by omega, by omega, rfl, hide HLB.out.1, hide HLB.out.2.1, hide HLB.out.2.2.1, hide ⟨HLB.out.2.2.2, HP.out _ _, HAu.out _ _ (Nat.le_succ _) (Nat.le_refl _)⟩⟩
    · have hk0 : k = 0 := by omega
      subst hk0
      obtain ⟨hu, hp, ha⟩ := HU.out
      rw [List.drop_zero] at hp
      obtain ⟨WF, hWF⟩ : ∃ WF, WF = putTm wr (w.heap.size + 1) u := ⟨_, rfl⟩
      have hgr := putTm_grown wr (w.heap.size + 1) u
      have hbx := putTm_box u HZ.out
      rw [← hWF] at hgr hbx
      have XF := hide (HX.out.grown hgr (fun c e => by injection e with e; omega))
      have HUF := hide (hu.grown hgr (fun c e => by injection e with e; subst e; exact ha _ (by omega) (fun h => by omega)))
      have HP := hide hp
      have HA := hide ha
      have g0 := free_block HZ.out 0
      have g1 := free_block HZ.out 1
      have g2 := free_block HZ.out 2
      have g3 := free_block HZ.out 3
      have g4 := free_block HZ.out 4
      have g5 := free_block HZ.out 5
      have z0 := bytes_block HZ.out 0
      have z1 := bytes_block HZ.out 1
      have z2 := bytes_block HZ.out 2
      have z3 := bytes_block HZ.out 3
      have z4 := bytes_block HZ.out 4
      have z5 := bytes_block HZ.out 5
      simp only [List.getElem?_toArray, List.getElem?_cons_zero, List.getElem?_cons_succ] at z0 z1 z2 z3 z4 z5
      obtain ⟨m0, m1, m2, m3, m4, m5⟩ := hbx.cells
      clear hu hp ha hgr hbx
      unfold putTm at hWF
      go_wp2
      rw [← hWF]
      refine bodyPost_ret (v := .agg #[.int .i64 u.kind, .int .i64 u.n, .string ⟨u.name.toArray⟩, .slice u.V u.vars.length u.vc, .slice u.T u.types.length u.tc, .slice u.A u.kids.length u.cap]) ?_ rfl ⟨⟨u, rfl, HUF.out, HP.out, fun c hc h1 h2 => HA.out c (by omega) (fun _ => ⟨h1, h2⟩)⟩, XF.out⟩
      simp [results, Tryz.f14, go_sem, m0, m1, m2, m3, m4, m5]

end Go.Proofs.YtjacjpeeinnkcaaGreat

/- Contract: a term of others, of the reference. -/
namespace Go.Proofs.YtjacjpeeinnkcaaGreat
open Go.RowKit

set_option maxRecDepth 10000 in
set_option maxHeartbeats 4000000 in
theorem r_apps32 (A : Option Addr) (cap : Nat) (l : List Tm) (t : Tm) (w : World) (h : TmsIn w A l) (ht : TmIn w t) (hl : l.length ≤ 1000000) :
    Calls Tryz.prog 16 #[tmV t, .slice A l.length cap] w fun e w' => (∃ u, e = .returned (tmV u) ∧ TmIn w' u ∧ u.pure = appsP t.pure l ∧ ∀ c, c < w.heap.size → AwayM c t → (∀ x ∈ l, AwayM c x) → AwayM c u) ∧ Ext w w' := by
  obtain ⟨W, hW⟩ : ∃ W, W = (w.alloc (.cells #[.int .i64 t.kind, .int .i64 t.n, encStr t.name, .slice t.V t.vars.length t.vc, .slice t.T t.types.length t.tc, .slice t.A t.kids.length t.cap] 31)).alloc (.cells #[.int .i64 0, .int .i64 0, .string ⟨#[]⟩, .slice none 0 0, .slice none 0 0, .slice none 0 0] 31) := ⟨_, rfl⟩
  have HW := hide hW.symm
  have X0 : Hid (Ext w W) := hide (by rw [hW]; exact ((Ext.refl _).alloc _).alloc _)
  have hWs : W.heap.size = w.heap.size + 2 := by rw [hW]; simp
  have B1 : Hid (TmBox W w.heap.size t) := hide (by rw [hW]; exact (TmBox.new w t).ext ((Ext.refl _).alloc _))
  have B2 : Hid (W.heap[w.heap.size + 1]? = some (.cells #[.int .i64 0, .int .i64 0, .string ⟨#[]⟩, .slice none 0 0, .slice none 0 0, .slice none 0 0] 31 (0, 0))) := hide (by rw [hW]; exact at_newB _ _ _ (by simp))
  have H := hide h
  have Ht := hide ht
  have HA0 : Hid (∀ c, c < w.heap.size + 2 → (c < w.heap.size → AwayM c t ∧ ∀ x ∈ l, AwayM c x) → AwayM c t) := hide (fun c _ h => (Nat.lt_or_ge c w.heap.size).elim (fun h1 => (h h1).1) (fun h1 => awayM_new ht h1))
  clear h ht hW
  unfold tmV at *
  go_enter Tryz.func16, Tryz.ntmps16
  go_upto_region 1 with fail
  rw [HW.out]
  go_wp2
  go_loopw [5] (fun i wr => ∃ (k : Nat) (u : Tm), k ≤ l.length ∧ i = .int .i64 k ∧ Hid (Ext w wr) ∧ Hid (TmBox wr w.heap.size u) ∧ Hid (wr.heap[w.heap.size + 1]? = some (.cells #[.int .i64 0, .int .i64 0, .string ⟨#[]⟩, .slice none 0 0, .slice none 0 0, .slice none 0 0] 31 (0, 0))) ∧ Hid (TmIn wr u ∧ u.pure = appsP t.pure (l.take k) ∧ ∀ c, c < w.heap.size + 2 → (c < w.heap.size → AwayM c t ∧ ∀ x ∈ l, AwayM c x) → AwayM c u)) (fun i _ => l.length - (intOf i).toNat)
  case atStart => exact ⟨0, t, Nat.zero_le _, rfl, X0, B1, B2, hide ⟨Ht.out.ext X0.out, rfl, HA0.out⟩⟩
  case round =>
    obtain ⟨k, u, hk, rfl, HX, HB, HZ, HU⟩ := hrel
    have hz2 := lt_of_obj HZ.out
    have hbl := HB.out.lt
    by_cases hlt : k < l.length
    · have hlt' : (k : Int) < (l.length : Int) := by omega
      have hk0 : (0 : Int) ≤ (k : Int) := by omega
      obtain ⟨b, o, hA, hb, r0, r1, r2, r3, r4, r5⟩ := (H.out.ext HX.out).at_ hlt
      have Htk := hide (appsP_take t.pure l hlt)
      have Hm := hide (List.getElem_mem hlt)
      have Hx := hide (H.out.kids _ (List.getElem_mem hlt))
      rw [hA]
      generalize l[k]'hlt = x at *
      have HAx : Hid (∀ c, c < w.heap.size + 2 → (c < w.heap.size → AwayM c t ∧ ∀ x ∈ l, AwayM c x) → AwayM c x) := hide (fun c _ h => (Nat.lt_or_ge c w.heap.size).elim (fun h1 => (h h1).2 _ Hm.out) (fun h1 => awayM_new Hx.out h1))
      have HAu : Hid (∀ g, wr.heap.size ≤ g → ∀ c, c < w.heap.size + 2 → (c < w.heap.size → AwayM c t ∧ ∀ x ∈ l, AwayM c x) → AwayM c (appT u x g)) := hide (fun g hg c hc h2 => appT_away (by omega) (HU.out.2.2 c hc h2) (HAx.out c hc h2))
      have HP : Hid (∀ g, (appT u x g).pure = appsP t.pure (l.take (k + 1))) := hide (fun g => by rw [appT_pure, HU.out.2.1, Htk.out])
      clear hA
      obtain ⟨c0, c1, c2, c3, c4, c5⟩ := HB.out.cells
      obtain ⟨f0, f1, f2, f3, f4, f5⟩ := HB.out.frees
      have HL := hide (app_stepB HX.out HB.out HZ.out HU.out.1 (HU.out.2.2 _ (by omega) (fun h => by omega)) (Hx.out.ext HX.out) (HAx.out _ (by omega) (fun h => by omega)) (Nat.le_refl _))
      go_wp2
      go_region
      all_goals (go_wp2; go_roundw)
      case measure => simp [intOf]; omega
      case rel => exact ⟨k + 1, appT u x _, hlt, by go_num, hide HL.out.1.drew, hide (HL.out.2.1.ext (Ext.refl _).drew), hide HL.out.2.2.1, hide ⟨HL.out.2.2.2.ext (Ext.refl _).drew, HP.out _, HAu.out _ (by omega)⟩⟩
    · have hge : ¬ (k : Int) < (l.length : Int) := by omega
      obtain ⟨c0, c1, c2, c3, c4, c5⟩ := HB.out.cells
      obtain ⟨hu, hp, ha⟩ := HU.out
      rw [List.take_of_length_le (by omega)] at hp
      obtain ⟨WF, hWF⟩ : ∃ WF, WF = putTm wr (w.heap.size + 1) u := ⟨_, rfl⟩
      have hgr := putTm_grown wr (w.heap.size + 1) u
      have hbx := putTm_box u HZ.out
      rw [← hWF] at hgr hbx
      have XF := hide (HX.out.grown hgr (fun c e => by injection e with e; omega))
      have HUF := hide (hu.grown hgr (fun c e => by injection e with e; subst e; exact ha _ (by omega) (fun h => by omega)))
      have HP := hide hp
      have HA := hide ha
      have g0 := free_block HZ.out 0
      have g1 := free_block HZ.out 1
      have g2 := free_block HZ.out 2
      have g3 := free_block HZ.out 3
      have g4 := free_block HZ.out 4
      have g5 := free_block HZ.out 5
      have z0 := bytes_block HZ.out 0
      have z1 := bytes_block HZ.out 1
      have z2 := bytes_block HZ.out 2
      have z3 := bytes_block HZ.out 3
      have z4 := bytes_block HZ.out 4
      have z5 := bytes_block HZ.out 5
      simp only [List.getElem?_toArray, List.getElem?_cons_zero, List.getElem?_cons_succ] at z0 z1 z2 z3 z4 z5
      obtain ⟨m0, m1, m2, m3, m4, m5⟩ := hbx.cells
      clear hu hp ha hgr hbx
      unfold putTm at hWF
      go_wp2
      rw [← hWF]
      refine bodyPost_ret (v := .agg #[.int .i64 u.kind, .int .i64 u.n, .string ⟨u.name.toArray⟩, .slice u.V u.vars.length u.vc, .slice u.T u.types.length u.tc, .slice u.A u.kids.length u.cap]) ?_ rfl ⟨⟨u, rfl, HUF.out, HP.out, fun c hc h1 h2 => HA.out c (by omega) (fun _ => ⟨h1, h2⟩)⟩, XF.out⟩
      simp [results, Tryz.f16, go_sem, m0, m1, m2, m3, m4, m5]

end Go.Proofs.YtjacjpeeinnkcaaGreat
