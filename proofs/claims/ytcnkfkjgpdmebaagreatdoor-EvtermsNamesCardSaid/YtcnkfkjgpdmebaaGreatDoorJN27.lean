/- Contracts: a term of others, of the program. -/
import Derived.Test.YtcnkfkjgpdmebaaGreatDoorJN26
import Derived.RegionTactic
import Derived.Deep.DeepCutAuto
/- Contracts: a term of others, of the program. -/
namespace Go.Proofs.YtcnkfkjgpdmebaaGreatDoor
open Go.RowKit

theorem app_form (wr : World) (B : Nat) (a b : Tm) (g : Nat) : ((((((wr.setCell ⟨B, 0, none⟩ (.int .i64 4)).setCell ⟨B, 1, none⟩ (.int .i64 0)).setCell ⟨B, 2, none⟩ (.string ⟨#[]⟩)).setCell ⟨B, 3, none⟩ (.slice none 0 0)).setCell ⟨B, 4, none⟩ (.slice none 0 0)).setCell ⟨B, 5, none⟩ (.slice (some ⟨g, 0, none⟩) 2 2)) = putTm wr B (appT a b g) := by
  unfold putTm appT Tm.kind Tm.n Tm.name Tm.V Tm.vars Tm.vc Tm.T Tm.types Tm.tc Tm.A Tm.kids Tm.cap
  rfl
/-- An application is written into a box, its parts into a new block. -/
theorem app_step {W wr : World} {B : Nat} {a b : Tm} {v0 v1 v2 v3 v4 v5 : Value} (hX : Ext W wr) (hB : TmBox wr B a) (hZ : wr.heap[B + 1]? = some (.cells #[v0, v1, v2, v3, v4, v5] 40 (0, 0))) (ha : TmIn wr a) (haa : AwayM B a) (hb : TmIn wr b) (hab : AwayM B b) (hWB : W.heap.size ≤ B) {V V2 : World} {g : Nat} (hV : V = putTm wr B (appT a b g)) (hE : Ext V V2) (hg : g = V2.heap.size) :
    Ext W (V2.alloc (.cells #[.int .i64 a.kind, .int .i64 a.n, .string ⟨a.name.toArray⟩, .slice a.V a.vars.length a.vc, .slice a.T a.types.length a.tc, .slice a.A a.kids.length a.cap, .int .i64 b.kind, .int .i64 b.n, .string ⟨b.name.toArray⟩, .slice b.V b.vars.length b.vc, .slice b.T b.types.length b.tc, .slice b.A b.kids.length b.cap] 40)) ∧ TmBox (V2.alloc (.cells #[.int .i64 a.kind, .int .i64 a.n, .string ⟨a.name.toArray⟩, .slice a.V a.vars.length a.vc, .slice a.T a.types.length a.tc, .slice a.A a.kids.length a.cap, .int .i64 b.kind, .int .i64 b.n, .string ⟨b.name.toArray⟩, .slice b.V b.vars.length b.vc, .slice b.T b.types.length b.tc, .slice b.A b.kids.length b.cap] 40)) B (appT a b (g)) ∧ (V2.alloc (.cells #[.int .i64 a.kind, .int .i64 a.n, .string ⟨a.name.toArray⟩, .slice a.V a.vars.length a.vc, .slice a.T a.types.length a.tc, .slice a.A a.kids.length a.cap, .int .i64 b.kind, .int .i64 b.n, .string ⟨b.name.toArray⟩, .slice b.V b.vars.length b.vc, .slice b.T b.types.length b.tc, .slice b.A b.kids.length b.cap] 40)).heap[B + 1]? = some (.cells #[v0, v1, v2, v3, v4, v5] 40 (0, 0)) ∧ TmIn (V2.alloc (.cells #[.int .i64 a.kind, .int .i64 a.n, .string ⟨a.name.toArray⟩, .slice a.V a.vars.length a.vc, .slice a.T a.types.length a.tc, .slice a.A a.kids.length a.cap, .int .i64 b.kind, .int .i64 b.n, .string ⟨b.name.toArray⟩, .slice b.V b.vars.length b.vc, .slice b.T b.types.length b.tc, .slice b.A b.kids.length b.cap] 40)) (appT a b (g)) := by
  have gr := putTm_grown wr B (appT a b g)
  rw [← hV] at gr
  have hbx : TmBox V B (appT a b g) := by rw [hV]; exact putTm_box _ hB
  have hz : V.heap[B + 1]? = _ := (gr.block (B + 1) (lt_of_obj hZ) (fun e => by injection e with e; omega)).trans hZ
  have hE : Ext V (V2.alloc (.cells #[.int .i64 a.kind, .int .i64 a.n, .string ⟨a.name.toArray⟩, .slice a.V a.vars.length a.vc, .slice a.T a.types.length a.tc, .slice a.A a.kids.length a.cap, .int .i64 b.kind, .int .i64 b.n, .string ⟨b.name.toArray⟩, .slice b.V b.vars.length b.vc, .slice b.T b.types.length b.tc, .slice b.A b.kids.length b.cap] 40)) := hE.alloc _
  exact ⟨(hX.grown gr (fun c e => by injection e with e; omega)).trans hE, hbx.ext hE, (hE.heap (lt_of_obj hz)).trans hz,
    appT_in ((ha.grown gr (fun c e => by injection e with e; subst e; exact haa)).ext hE) ((hb.grown gr (fun c e => by injection e with e; subst e; exact hab)).ext hE) (at_newB V2 _ _ hg)⟩
theorem app_stepA {W wr : World} {B : Nat} {a b : Tm} {v0 v1 v2 v3 v4 v5 : Value} (hX : Ext W wr) (hB : TmBox wr B a) (hZ : wr.heap[B + 1]? = some (.cells #[v0, v1, v2, v3, v4, v5] 40 (0, 0))) (ha : TmIn wr a) (haa : AwayM B a) (hb : TmIn wr b) (hab : AwayM B b) (hWB : W.heap.size ≤ B) :
    Ext W (((((((((wr.setCell ⟨B, 0, none⟩ (.int .i64 4)).setCell ⟨B, 1, none⟩ (.int .i64 0)).setCell ⟨B, 2, none⟩ (.string ⟨#[]⟩)).setCell ⟨B, 3, none⟩ (.slice none 0 0)).setCell ⟨B, 4, none⟩ (.slice none 0 0)).setCell ⟨B, 5, none⟩ (.slice (some ⟨wr.heap.size + 1, 0, none⟩) 2 2))).alloc (.cells #[.int .i64 b.kind, .int .i64 b.n, .string ⟨b.name.toArray⟩, .slice b.V b.vars.length b.vc, .slice b.T b.types.length b.tc, .slice b.A b.kids.length b.cap] 40)).alloc (.cells #[.int .i64 a.kind, .int .i64 a.n, .string ⟨a.name.toArray⟩, .slice a.V a.vars.length a.vc, .slice a.T a.types.length a.tc, .slice a.A a.kids.length a.cap, .int .i64 b.kind, .int .i64 b.n, .string ⟨b.name.toArray⟩, .slice b.V b.vars.length b.vc, .slice b.T b.types.length b.tc, .slice b.A b.kids.length b.cap] 40)) ∧ TmBox (((((((((wr.setCell ⟨B, 0, none⟩ (.int .i64 4)).setCell ⟨B, 1, none⟩ (.int .i64 0)).setCell ⟨B, 2, none⟩ (.string ⟨#[]⟩)).setCell ⟨B, 3, none⟩ (.slice none 0 0)).setCell ⟨B, 4, none⟩ (.slice none 0 0)).setCell ⟨B, 5, none⟩ (.slice (some ⟨wr.heap.size + 1, 0, none⟩) 2 2))).alloc (.cells #[.int .i64 b.kind, .int .i64 b.n, .string ⟨b.name.toArray⟩, .slice b.V b.vars.length b.vc, .slice b.T b.types.length b.tc, .slice b.A b.kids.length b.cap] 40)).alloc (.cells #[.int .i64 a.kind, .int .i64 a.n, .string ⟨a.name.toArray⟩, .slice a.V a.vars.length a.vc, .slice a.T a.types.length a.tc, .slice a.A a.kids.length a.cap, .int .i64 b.kind, .int .i64 b.n, .string ⟨b.name.toArray⟩, .slice b.V b.vars.length b.vc, .slice b.T b.types.length b.tc, .slice b.A b.kids.length b.cap] 40)) B (appT a b (wr.heap.size + 1)) ∧ (((((((((wr.setCell ⟨B, 0, none⟩ (.int .i64 4)).setCell ⟨B, 1, none⟩ (.int .i64 0)).setCell ⟨B, 2, none⟩ (.string ⟨#[]⟩)).setCell ⟨B, 3, none⟩ (.slice none 0 0)).setCell ⟨B, 4, none⟩ (.slice none 0 0)).setCell ⟨B, 5, none⟩ (.slice (some ⟨wr.heap.size + 1, 0, none⟩) 2 2))).alloc (.cells #[.int .i64 b.kind, .int .i64 b.n, .string ⟨b.name.toArray⟩, .slice b.V b.vars.length b.vc, .slice b.T b.types.length b.tc, .slice b.A b.kids.length b.cap] 40)).alloc (.cells #[.int .i64 a.kind, .int .i64 a.n, .string ⟨a.name.toArray⟩, .slice a.V a.vars.length a.vc, .slice a.T a.types.length a.tc, .slice a.A a.kids.length a.cap, .int .i64 b.kind, .int .i64 b.n, .string ⟨b.name.toArray⟩, .slice b.V b.vars.length b.vc, .slice b.T b.types.length b.tc, .slice b.A b.kids.length b.cap] 40)).heap[B + 1]? = some (.cells #[v0, v1, v2, v3, v4, v5] 40 (0, 0)) ∧ TmIn (((((((((wr.setCell ⟨B, 0, none⟩ (.int .i64 4)).setCell ⟨B, 1, none⟩ (.int .i64 0)).setCell ⟨B, 2, none⟩ (.string ⟨#[]⟩)).setCell ⟨B, 3, none⟩ (.slice none 0 0)).setCell ⟨B, 4, none⟩ (.slice none 0 0)).setCell ⟨B, 5, none⟩ (.slice (some ⟨wr.heap.size + 1, 0, none⟩) 2 2))).alloc (.cells #[.int .i64 b.kind, .int .i64 b.n, .string ⟨b.name.toArray⟩, .slice b.V b.vars.length b.vc, .slice b.T b.types.length b.tc, .slice b.A b.kids.length b.cap] 40)).alloc (.cells #[.int .i64 a.kind, .int .i64 a.n, .string ⟨a.name.toArray⟩, .slice a.V a.vars.length a.vc, .slice a.T a.types.length a.tc, .slice a.A a.kids.length a.cap, .int .i64 b.kind, .int .i64 b.n, .string ⟨b.name.toArray⟩, .slice b.V b.vars.length b.vc, .slice b.T b.types.length b.tc, .slice b.A b.kids.length b.cap] 40)) (appT a b (wr.heap.size + 1)) := by
  have hV := app_form wr B a b (wr.heap.size + 1)
  generalize ((((((wr.setCell ⟨B, 0, none⟩ (.int .i64 4)).setCell ⟨B, 1, none⟩ (.int .i64 0)).setCell ⟨B, 2, none⟩ (.string ⟨#[]⟩)).setCell ⟨B, 3, none⟩ (.slice none 0 0)).setCell ⟨B, 4, none⟩ (.slice none 0 0)).setCell ⟨B, 5, none⟩ (.slice (some ⟨wr.heap.size + 1, 0, none⟩) 2 2)) = V at *
  have hsz : V.heap.size = wr.heap.size := by rw [hV, putTm_size]
  exact app_step hX hB hZ ha haa hb hab hWB hV ((Ext.refl V).alloc _) (by simp [hsz])
set_option maxRecDepth 10000 in
set_option maxHeartbeats 4000000 in
theorem m_apps (A : Option Addr) (cap : Nat) (l : List Tm) (t : Tm) (w : World) (h : TmsIn w A l) (ht : TmIn w t) (hl : l.length ≤ 1000000) :
    Calls Tryz.prog 84 #[tmV t, .slice A l.length cap] w fun e w' => (∃ u, e = .returned (tmV u) ∧ TmIn w' u ∧ u.pure = appsP t.pure l ∧ ∀ c, c < w.heap.size → AwayM c t → (∀ x ∈ l, AwayM c x) → AwayM c u) ∧ Ext w w' := by
  obtain ⟨W, hW⟩ : ∃ W, W = (w.alloc (.cells #[.int .i64 t.kind, .int .i64 t.n, encStr t.name, .slice t.V t.vars.length t.vc, .slice t.T t.types.length t.tc, .slice t.A t.kids.length t.cap] 40)).alloc (.cells #[.int .i64 0, .int .i64 0, .string ⟨#[]⟩, .slice none 0 0, .slice none 0 0, .slice none 0 0] 40) := ⟨_, rfl⟩
  have HW := hide hW.symm
  have X0 : Hid (Ext w W) := hide (by rw [hW]; exact ((Ext.refl _).alloc _).alloc _)
  have hWs : W.heap.size = w.heap.size + 2 := by rw [hW]; simp
  have B1 : Hid (TmBox W w.heap.size t) := hide (by rw [hW]; exact (TmBox.new w t).ext ((Ext.refl _).alloc _))
  have B2 : Hid (W.heap[w.heap.size + 1]? = some (.cells #[.int .i64 0, .int .i64 0, .string ⟨#[]⟩, .slice none 0 0, .slice none 0 0, .slice none 0 0] 40 (0, 0))) := hide (by rw [hW]; exact at_newB _ _ _ (by simp))
  have H := hide h
  have Ht := hide ht
  have HA0 : Hid (∀ c, c < w.heap.size + 2 → (c < w.heap.size → AwayM c t ∧ ∀ x ∈ l, AwayM c x) → AwayM c t) := hide (fun c _ h => (Nat.lt_or_ge c w.heap.size).elim (fun h1 => (h h1).1) (fun h1 => awayM_new ht h1))
  clear h ht hW
  unfold tmV at *
  go_enter Tryz.func84, Tryz.ntmps84
  go_upto_region 1 with fail
  rw [HW.out]
  go_wp2
  go_loopw [9] (fun i wr => ∃ (k : Nat) (u : Tm), k ≤ l.length ∧ i = .int .i64 k ∧ Hid (Ext w wr) ∧ Hid (TmBox wr w.heap.size u) ∧ Hid (wr.heap[w.heap.size + 1]? = some (.cells #[.int .i64 0, .int .i64 0, .string ⟨#[]⟩, .slice none 0 0, .slice none 0 0, .slice none 0 0] 40 (0, 0))) ∧ Hid (TmIn wr u ∧ u.pure = appsP t.pure (l.take k) ∧ ∀ c, c < w.heap.size + 2 → (c < w.heap.size → AwayM c t ∧ ∀ x ∈ l, AwayM c x) → AwayM c u)) (fun i _ => l.length - (intOf i).toNat)
  case atStart => exact ⟨0, t, Nat.zero_le _, rfl, X0, B1, B2, hide ⟨Ht.out.ext X0.out, rfl, HA0.out⟩⟩
  case round =>
    obtain ⟨k, u, hk, rfl, HX, HB, HZ, HU⟩ := hrel
    have hz2 := lt_of_obj HZ.out
    have hbl := HB.out.lt
    by_cases hlt : k < l.length
    · have hlt' : (k : Int) < (l.length : Int) := by omega
      have hk0 : (0 : Int) ≤ (k : Int) := by omega
      obtain ⟨b, o, hA, hb, r0, r1, r2, r3, r4, r5⟩ := (H.out.ext HX.out).at_ hlt
      have Htk := hide (appsP_take t.pure l hlt)
      have Hm := hide (List.getElem_mem hlt)
      have Hx := hide (H.out.kids _ (List.getElem_mem hlt))
      rw [hA]
      generalize l[k]'hlt = x at *
      have HAx : Hid (∀ c, c < w.heap.size + 2 → (c < w.heap.size → AwayM c t ∧ ∀ x ∈ l, AwayM c x) → AwayM c x) := hide (fun c _ h => (Nat.lt_or_ge c w.heap.size).elim (fun h1 => (h h1).2 _ Hm.out) (fun h1 => awayM_new Hx.out h1))
      have HAu : Hid (∀ g, wr.heap.size ≤ g → ∀ c, c < w.heap.size + 2 → (c < w.heap.size → AwayM c t ∧ ∀ x ∈ l, AwayM c x) → AwayM c (appT u x g)) := hide (fun g hg c hc h2 => appT_away (by omega) (HU.out.2.2 c hc h2) (HAx.out c hc h2))
      have HP : Hid (∀ g, (appT u x g).pure = appsP t.pure (l.take (k + 1))) := hide (fun g => by rw [appT_pure, HU.out.2.1, Htk.out])
      clear hA
      obtain ⟨c0, c1, c2, c3, c4, c5⟩ := HB.out.cells
      obtain ⟨f0, f1, f2, f3, f4, f5⟩ := HB.out.frees
      have HL := hide (app_stepA HX.out HB.out HZ.out HU.out.1 (HU.out.2.2 _ (by omega) (fun h => by omega)) (Hx.out.ext HX.out) (HAx.out _ (by omega) (fun h => by omega)) (Nat.le_refl _))
      go_wp2
      go_roundw
      case rel => exact ⟨k + 1, appT u x _, hlt, by go_num, hide HL.out.1, hide HL.out.2.1, hide HL.out.2.2.1, hide ⟨HL.out.2.2.2, HP.out _, HAu.out _ (by omega)⟩⟩
      case measure => simp [intOf]; omega
    · have hge : ¬ (k : Int) < (l.length : Int) := by omega
      obtain ⟨c0, c1, c2, c3, c4, c5⟩ := HB.out.cells
      obtain ⟨hu, hp, ha⟩ := HU.out
      rw [List.take_of_length_le (by omega)] at hp
      obtain ⟨WF, hWF⟩ : ∃ WF, WF = putTm wr (w.heap.size + 1) u := ⟨_, rfl⟩
      have hgr := putTm_grown wr (w.heap.size + 1) u
      have hbx := putTm_box u HZ.out
      rw [← hWF] at hgr hbx
      have XF := hide (HX.out.grown hgr (fun c e => by injection e with e; omega))
      have HUF := hide (hu.grown hgr (fun c e => by injection e with e; subst e; exact ha _ (by omega) (fun h => by omega)))
      have HP := hide hp
      have HA := hide ha
      have g0 := free_block HZ.out 0
      have g1 := free_block HZ.out 1
      have g2 := free_block HZ.out 2
      have g3 := free_block HZ.out 3
      have g4 := free_block HZ.out 4
      have g5 := free_block HZ.out 5
      have z0 := bytes_block HZ.out 0
      have z1 := bytes_block HZ.out 1
      have z2 := bytes_block HZ.out 2
      have z3 := bytes_block HZ.out 3
      have z4 := bytes_block HZ.out 4
      have z5 := bytes_block HZ.out 5
      simp only [List.getElem?_toArray, List.getElem?_cons_zero, List.getElem?_cons_succ] at z0 z1 z2 z3 z4 z5
      obtain ⟨m0, m1, m2, m3, m4, m5⟩ := hbx.cells
      clear hu hp ha hgr hbx
      unfold putTm at hWF
      go_wp2
      rw [← hWF]
      refine bodyPost_ret (v := .agg #[.int .i64 u.kind, .int .i64 u.n, .string ⟨u.name.toArray⟩, .slice u.V u.vars.length u.vc, .slice u.T u.types.length u.tc, .slice u.A u.kids.length u.cap]) ?_ rfl ⟨⟨u, rfl, HUF.out, HP.out, fun c hc h1 h2 => HA.out c (by omega) (fun _ => ⟨h1, h2⟩)⟩, XF.out⟩
      simp [results, Tryz.f84, go_sem, m0, m1, m2, m3, m4, m5]

end Go.Proofs.YtcnkfkjgpdmebaaGreatDoor

/- What the term of a proof is told under; plain facts. -/
namespace Go.Proofs.YtcnkfkjgpdmebaaGreatDoor
open Go.RowKit

/-- The package variable of package errors. -/
def HGe (w : World) : Prop := w.cell? ⟨2, 0, none⟩ = some (.iface 203 (.agg #[.pointer (some ⟨4, 78, none⟩)]))
theorem HGe.ext {w w' : World} (h : HGe w) (e : Ext w w') : HGe w' := e.cell h
theorem m0_cells {w : World} {b : Nat} (h : w.heap[b]? = some (.cells #[.int .i64 0, .int .i64 0, .string ⟨#[]⟩, .slice none 0 0, .slice none 0 0, .slice none 0 0] 40)) : w.cell? ⟨b, 0, none⟩ = some (.int .i64 0) ∧ w.cell? ⟨b, 1, none⟩ = some (.int .i64 0) ∧ w.cell? ⟨b, 2, none⟩ = some (.string ⟨#[]⟩) ∧ w.cell? ⟨b, 3, none⟩ = some (.slice none 0 0) ∧ w.cell? ⟨b, 4, none⟩ = some (.slice none 0 0) ∧ w.cell? ⟨b, 5, none⟩ = some (.slice none 0 0) ∧
    w.frozen? ⟨b, 0, none⟩ = false ∧ w.frozen? ⟨b, 1, none⟩ = false ∧ w.frozen? ⟨b, 2, none⟩ = false ∧ w.frozen? ⟨b, 3, none⟩ = false ∧ w.frozen? ⟨b, 4, none⟩ = false ∧ w.frozen? ⟨b, 5, none⟩ = false := by
  refine ⟨?_, ?_, ?_, ?_, ?_, ?_, ?_, ?_, ?_, ?_, ?_, ?_⟩ <;> simp [World.cell?, World.frozen?, h]
theorem Row.tm6e {w : World} {b : Nat} {t : TypeId} {fr : Nat × Nat} (x0 x1 x2 x3 x4 x5 : Value) (h : w.heap[b]? = some (.cells #[x0, x1, x2, x3, x4, x5] t fr)) : Row w (some ⟨b, 0, none⟩) 6 1 [x0, x1, x2, x3, x4, x5] := by
  refine ⟨rfl, fun _ => ⟨b, 0, rfl, lt_of_obj h, fun j u hu => ?_⟩⟩
  rw [Nat.zero_add]
  simp only [World.cell?, h]
  simpa using hu
theorem flatMe_snoc (us : List Tm) (y : Tm) : (us ++ [y]).flatMap tmC.f = us.flatMap tmC.f ++ [.int .i64 y.kind, .int .i64 y.n, encStr y.name, .slice y.V y.vars.length y.vc, .slice y.T y.types.length y.tc, .slice y.A y.kids.length y.cap] := by
  rw [List.flatMap_append, List.flatMap_cons, List.flatMap_nil, List.append_nil]
  rfl
/-- A maker's box. -/
def MkBox (w : World) (b : Nat) (x : EnD) (P : Option Addr) (pc : Nat) (preds : List Pd) (L : Option Addr) (lc : Nat) (given : List Tm) : Prop := w.heap[b]? = some (.cells #[.slice x.D x.datas.length x.dc, .slice x.C x.classes.length x.cc, .slice x.I x.insts.length x.ic, .slice P preds.length pc, .slice L given.length lc] 81 (0, 0))
section
variable {w w' : World} {b : Nat} {x : EnD} {P : Option Addr} {pc : Nat} {preds : List Pd} {L : Option Addr} {lc : Nat} {given : List Tm}
theorem MkBox.lt (h : MkBox w b x P pc preds L lc given) : b < w.heap.size := lt_of_obj h
theorem MkBox.ext (h : MkBox w b x P pc preds L lc given) (e : Ext w w') : MkBox w' b x P pc preds L lc given := (e.heap h.lt).trans h
theorem MkBox.new (w : World) : MkBox (w.alloc (.cells #[.slice x.D x.datas.length x.dc, .slice x.C x.classes.length x.cc, .slice x.I x.insts.length x.ic, .slice P preds.length pc, .slice L given.length lc] 81)) w.heap.size x P pc preds L lc given := at_newB _ _ _ rfl
theorem MkBox.cells (h : MkBox w b x P pc preds L lc given) : w.cell? ⟨b, 0, none⟩ = some (.slice x.D x.datas.length x.dc) ∧ w.cell? ⟨b, 1, none⟩ = some (.slice x.C x.classes.length x.cc) ∧ w.cell? ⟨b, 2, none⟩ = some (.slice x.I x.insts.length x.ic) ∧ w.cell? ⟨b, 3, none⟩ = some (.slice P preds.length pc) ∧ w.cell? ⟨b, 4, none⟩ = some (.slice L given.length lc) :=
  ⟨bytes_block h 0, bytes_block h 1, bytes_block h 2, bytes_block h 3, bytes_block h 4⟩
end
/-- What the term of a proof tells. -/
structure EvOk (w w' : World) (given : List Tm) (p : Pf) (Q : Tm.Pure) (t : Tm) : Prop where
  inn : TmIn w' t
  is : t.pure = Q
  away : ∀ c, c < w.heap.size → (∀ g ∈ given, AwayM c g) → AwayF c p → AwayM c t
theorem EvOk.ext {w w' w2 : World} {given : List Tm} {p : Pf} {Q : Tm.Pure} {t : Tm} (h : EvOk w w' given p Q t) (e : Ext w' w2) : EvOk w w2 given p Q t := ⟨h.inn.ext e, h.is, h.away⟩
/-- The contract of the term of a proof that is one. -/
def EvC (x : EnD) (P : Option Addr) (pc : Nat) (preds : List Pd) (L : Option Addr) (lc : Nat) (given : List Tm) (p : Pf) : Prop :=
  ∀ (w : World), EnIn w x → PdsIn w P preds → TmsIn w L given → PfIn w p → (prv x.classes x.insts preds p).isSome = true → given.length = preds.length → HGe w →
    Calls Tryz.prog 50 #[.agg #[.slice x.D x.datas.length x.dc, .slice x.C x.classes.length x.cc, .slice x.I x.insts.length x.ic, .slice P preds.length pc, .slice L given.length lc], pfV p] w fun e w' => (∃ t, e = .returned (tmV t) ∧ EvOk w w' given p (evP x.classes x.insts preds (given.map Tm.pure) p) t) ∧ Ext w w'
theorem ev_given {cs : List KlD} {ins : List InD} {preds : List Pd} {given : List Tm} {p : Pf} (hk : p.kind = 1) {n : Nat} (hn : p.n = (n : Int)) (hl : n < given.length) : evP cs ins preds (given.map Tm.pure) p = (given[n]'hl).pure := by
  rw [evP_eq]
  unfold ev0 atZ
  rw [if_pos hk, hn, if_pos (by omega)]
  simp [hl]
theorem ev_super {cs : List KlD} {ins : List InD} {preds : List Pd} {given : List Tm.Pure} {p k : Pf} {b : Pd} (hk : p.kind = 2) (hks : p.kids = [k]) (hb : prv cs ins preds k = some b) : evP cs ins preds given p = .mk 13 p.n b.cls [] [] [evP cs ins preds given k] := by
  rw [evP_eq]
  unfold ev0
  rw [if_neg (by omega), if_pos hk, hks]
  show Tm.Pure.mk 13 p.n (((prv cs ins preds k).map Pd.cls).getD []) [] [] [evP cs ins preds given k] = _
  rw [hb]
  rfl
theorem ev_inst {cs : List KlD} {ins : List InD} {preds : List Pd} {given : List Tm.Pure} {p : Pf} {x : InD} (hk : p.kind = 3) (hx : atZ ins p.n = some x) : evP cs ins preds given p =
    (p.kids.map (evP cs ins preds given)).foldl appP (if p.types.map Ty.pure = [] then .mk 1 0 (nameS x.cls x.con) [] [] [] else .mk 6 0 [] [] (p.types.map Ty.pure) [.mk 1 0 (nameS x.cls x.con) [] [] []]) := by
  rw [evP_eq]
  unfold ev0
  rw [if_neg (by omega), if_neg (by omega), hx]
  rfl

end Go.Proofs.YtcnkfkjgpdmebaaGreatDoor

/- Contract: the term of a proof by what is given, and by a class above. -/
namespace Go.Proofs.YtcnkfkjgpdmebaaGreatDoor
open Go.RowKit

theorem cell6e {y : World} {B b i : Nat} (h : b ≠ B) (v0 v1 v2 v3 v4 v5 : Value) {u : Value} (k : y.cell? ⟨b, i, none⟩ = some u) : ((((((y.setCell ⟨B, 0, none⟩ v0).setCell ⟨B, 1, none⟩ v1).setCell ⟨B, 2, none⟩ v2).setCell ⟨B, 3, none⟩ v3).setCell ⟨B, 4, none⟩ v4).setCell ⟨B, 5, none⟩ v5).cell? ⟨b, i, none⟩ = some u := by
  refine (World.cell?_of_block (a := ⟨b, i, none⟩) ?_).trans k
  show ((((((y.setCell ⟨B, 0, none⟩ v0).setCell ⟨B, 1, none⟩ v1).setCell ⟨B, 2, none⟩ v2).setCell ⟨B, 3, none⟩ v3).setCell ⟨B, 4, none⟩ v4).setCell ⟨B, 5, none⟩ v5).heap[b]? = y.heap[b]?
  rw [Below.heap_setCell _ _ _ _ h, Below.heap_setCell _ _ _ _ h, Below.heap_setCell _ _ _ _ h, Below.heap_setCell _ _ _ _ h, Below.heap_setCell _ _ _ _ h, Below.heap_setCell _ _ _ _ h]
theorem cell6a {y : World} {B b i : Nat} (h : b ≠ B) (v0 v1 v2 v3 v4 v5 : Value) (o : Obj) {u : Value} (k : y.cell? ⟨b, i, none⟩ = some u) : (((((((y.setCell ⟨B, 0, none⟩ v0).setCell ⟨B, 1, none⟩ v1).setCell ⟨B, 2, none⟩ v2).setCell ⟨B, 3, none⟩ v3).setCell ⟨B, 4, none⟩ v4).setCell ⟨B, 5, none⟩ v5).alloc o).cell? ⟨b, i, none⟩ = some u :=
  ((Ext.refl _).alloc o).cell (cell6e h v0 v1 v2 v3 v4 v5 k)
/-- A predicate's class, in a box that is new. -/
structure ClsAt (W wx : World) (b : Nat) (s : Str) : Prop where
  x : Ext W wx
  lt : b < wx.heap.size
  ge : W.heap.size ≤ b
  c0 : wx.cell? ⟨b, 0, none⟩ = some (encStr s)
theorem ClsAt.behind {W y : World} {a : Pd} (e : Ext W y) : ClsAt W (y.alloc (.cells #[encStr a.cls, encStr a.ty.con, .int .i64 a.ty.var, .slice a.ty.A a.ty.args.length a.ty.cap] 55)) y.heap.size a.cls := ⟨e.alloc _, by simp, e.size, (PdBox.new y a).cells.1⟩
theorem ClsAt.ahead {W y : World} {a : Pd} {B : Nat} {v0 v1 v2 v3 : Value} (e : Ext W y) (hB : W.heap.size ≤ B) (h : y.heap[B]? = some (.cells #[v0, v1, v2, v3] 55 (0, 0))) : ClsAt W ((((y.setCell ⟨B, 0, none⟩ (encStr a.cls)).setCell ⟨B, 1, none⟩ (encStr a.ty.con)).setCell ⟨B, 2, none⟩ (.int .i64 a.ty.var)).setCell ⟨B, 3, none⟩ (.slice a.ty.A a.ty.args.length a.ty.cap)) B a.cls := by
  have h1 := blk_setCell (blk_setCell (blk_setCell (blk_setCell h 0 (encStr a.cls)) 1 (encStr a.ty.con)) 2 (.int .i64 a.ty.var)) 3 (.slice a.ty.A a.ty.args.length a.ty.cap)
  refine ⟨(((e.setCell hB _).setCell hB _).setCell hB _).setCell hB _, lt_of_obj h1, hB, (bytes_block h1 0).trans ?_⟩
  simp
/-- A projection, made of a class, a number and a term. -/
def prjT (s : Str) (n : Int) (g : Nat) (t : Tm) : Tm := .mk 13 n s none 0 [] none 0 [] (some ⟨g, 0, none⟩) 1 [t]
theorem prjT_in {w : World} {s : Str} {n : Int} {g : Nat} {t : Tm} (hs : s.length ≤ 9223372036854775807) (ht : TmIn w t) (hg : TmBox w g t) : TmIn w (prjT s n g t) :=
  .mk ⟨Nat.zero_le _, by show 0 ≤ 9223372036854775807; omega, Nat.zero_le _, by show 0 ≤ 9223372036854775807; omega, Nat.le_refl _, by show 1 ≤ 9223372036854775807; omega, hs, RowOf.nil _ _ _, TysIn.nil _ _, RowOf.block tmC [t] hg⟩ (fun k hk => by
    have hk : k ∈ [t] := hk
    rw [List.mem_singleton] at hk; subst hk; exact ht)
theorem prjT_away {c : Nat} {s : Str} {n : Int} {g : Nat} {t : Tm} (hg : g ≠ c) (ht : AwayM c t) : AwayM c (prjT s n g t) :=
  .mk (fun h => absurd rfl h) (fun h => absurd rfl h) (by intro x hx; cases hx) (fun _ a e => by injection e with e; subst e; exact hg) (fun k hk => by
    have hk : k ∈ [t] := hk
    rw [List.mem_singleton] at hk; subst hk; exact ht)

set_option maxRecDepth 10000 in
set_option maxHeartbeats 4000000 in
theorem e_mterm_given (x : EnD) (P : Option Addr) (pc : Nat) (preds : List Pd) (L : Option Addr) (lc : Nat) (given : List Tm) (p : Pf) (hk : p.kind = 1) : EvC x P pc preds L lc given p := by
  intro w he hP hL hp hq hlen hgl
  obtain ⟨q, hq⟩ := Option.isSome_iff_exists.1 hq
  rcases prv_parts hq with ⟨-, -, -, h0, h1⟩ | ⟨h, -⟩ | ⟨h, -⟩
  rotate_left
  · omega
  · omega
  obtain ⟨n, hn⟩ : ∃ n : Nat, p.n = (n : Int) := ⟨p.n.toNat, by omega⟩
  have hlt : n < given.length := by omega
  rw [ev_given hk hn hlt]
  obtain ⟨W, hW⟩ : ∃ W, W = ((w.alloc (.cells #[.slice x.D x.datas.length x.dc, .slice x.C x.classes.length x.cc, .slice x.I x.insts.length x.ic, .slice P preds.length pc, .slice L given.length lc] 81)).alloc (.cells #[.int .i64 p.kind, .int .i64 p.n, .slice p.T p.types.length p.tc, .slice p.A p.kids.length p.cap] 34)).alloc (.cells #[.int .i64 0, .int .i64 0, .string ⟨#[]⟩, .slice none 0 0, .slice none 0 0, .slice none 0 0] 40) := ⟨_, rfl⟩
  have HW := hide hW.symm
  have X0 : Hid (Ext w W) := hide (by rw [hW]; exact (((Ext.refl _).alloc _).alloc _).alloc _)
  have B1 : Hid (MkBox W w.heap.size x P pc preds L lc given) := hide (by rw [hW]; exact (MkBox.new w).ext (((Ext.refl _).alloc _).alloc _))
  have B2 : Hid (FBox W (w.heap.size + 1) p) := hide (by rw [hW]; exact FBox.ext (at_newB _ _ _ (by simp)) ((Ext.refl _).alloc _))
  have B3 : Hid (W.heap[w.heap.size + 1 + 1]? = some (.cells #[.int .i64 0, .int .i64 0, .string ⟨#[]⟩, .slice none 0 0, .slice none 0 0, .slice none 0 0] 40)) := hide (by rw [hW]; exact at_newB _ _ _ (by simp))
  obtain ⟨b, o, rfl, hb, q0, q1, q2, q3, q4, q5⟩ := (hL.ext X0.out).at_ hlt
  have hin := hL.kids _ (List.getElem_mem hlt)
  have HA : Hid (AwayM (w.heap.size + 1 + 1) (given[n]'hlt)) := hide (awayM_new hin (by omega))
  have HI := hide (hin.ext X0.out)
  have Hm := hide (List.getElem_mem hlt)
  generalize given[n]'hlt = g at *
  have HF : Hid (EvOk w (putTm W (w.heap.size + 1 + 1) g) given p g.pure g) := hide ⟨HI.out.grown (putTm_grown _ _ _) (fun c e => by injection e with e; subst e; exact HA.out), rfl, fun c _ h _ => h g Hm.out⟩
  have XF := hide (putTm_ext X0.out (by omega : w.heap.size ≤ w.heap.size + 1 + 1) g)
  obtain ⟨c0, c1, c2, c3⟩ := B2.out.cells
  obtain ⟨e0, e1, e2, e3, e4⟩ := B1.out.cells
  obtain ⟨z0, z1, z2, z3, z4, z5, zf0, zf1, zf2, zf3, zf4, zf5⟩ := m0_cells B3.out
  have n1 := B1.out.lt
  have n2 := B2.out.lt
  have n3 := lt_of_obj B3.out
  have hn0 : (0 : Int) ≤ (n : Int) := by omega
  have hn1 : (n : Int) < (given.length : Int) := by omega
  rw [hk] at c0
  rw [hn] at c1
  unfold pfV
  clear hW he hP hL hp hq hgl hin h0 h1 hlen hk hn
  go_enter Tryz.func50, Tryz.ntmps50
  go_upto_region 1 with fail
  rw [HW.out]
  clear HW
  go_wp2
  refine bodyPost_ret (v := tmV g) ?_ rfl ⟨⟨g, rfl, HF.out⟩, XF.out⟩
  simp [results, Tryz.f50, go_sem, z0, z1, z2, z3, z4, z5]

set_option maxRecDepth 10000 in
set_option maxHeartbeats 8000000 in
theorem e_mterm_super (x : EnD) (P : Option Addr) (pc : Nat) (preds : List Pd) (L : Option Addr) (lc : Nat) (given : List Tm) (p : Pf) (hk : p.kind = 2) (ih : ∀ k ∈ p.kids, EvC x P pc preds L lc given k) : EvC x P pc preds L lc given p := by
  intro w he hP hL hp hq hlen hgl
  obtain ⟨q, hq⟩ := Option.isSome_iff_exists.1 hq
  rcases prv_parts hq with ⟨h, -⟩ | ⟨-, -, k, b, hks, hkb⟩ | ⟨h, -⟩
  · omega
  rotate_left
  · omega
  rw [ev_super hk hks hkb]
  obtain ⟨W, hW⟩ : ∃ W, W = ((w.alloc (.cells #[.slice x.D x.datas.length x.dc, .slice x.C x.classes.length x.cc, .slice x.I x.insts.length x.ic, .slice P preds.length pc, .slice L given.length lc] 81)).alloc (.cells #[.int .i64 p.kind, .int .i64 p.n, .slice p.T p.types.length p.tc, .slice p.A p.kids.length p.cap] 34)).alloc (.cells #[.int .i64 0, .int .i64 0, .string ⟨#[]⟩, .slice none 0 0, .slice none 0 0, .slice none 0 0] 40) := ⟨_, rfl⟩
  have HW := hide hW.symm
  have X0 : Hid (Ext w W) := hide (by rw [hW]; exact (((Ext.refl _).alloc _).alloc _).alloc _)
  have B1 : Hid (MkBox W w.heap.size x P pc preds L lc given) := hide (by rw [hW]; exact (MkBox.new w).ext (((Ext.refl _).alloc _).alloc _))
  have B2 : Hid (FBox W (w.heap.size + 1) p) := hide (by rw [hW]; exact FBox.ext (at_newB _ _ _ (by simp)) ((Ext.refl _).alloc _))
  have B3 : Hid (W.heap[w.heap.size + 1 + 1]? = some (.cells #[.int .i64 0, .int .i64 0, .string ⟨#[]⟩, .slice none 0 0, .slice none 0 0, .slice none 0 0] 40)) := hide (by rw [hW]; exact at_newB _ _ _ (by simp))
  have HsW : Hid (W.heap.size = w.heap.size + 3) := hide (by rw [hW]; simp)
  have hkm : k ∈ p.kids := by rw [hks]; simp
  have hall := hp.all
  have hkin := hall.kids k hkm
  obtain ⟨b0, o0, hA, hb00, q0, q1, q2, q3⟩ := hall.at_ (i := 0) (by rw [hks]; simp)
  have hb0 : b0 < W.heap.size := Nat.lt_of_lt_of_le hb00 X0.out.size
  have hk0 : p.kids[0]'(by rw [hks]; simp) = k := by simp [hks]
  rw [hk0] at q0 q1 q2 q3
  simp only [Nat.zero_mul, Nat.add_zero] at q0 q1 q2 q3
  have HPv := hide (fun w' (e : Ext W w') => hide (p_proves x P pc preds k w' (he.ext (X0.out.trans e)) (hP.ext (X0.out.trans e)) (hkin.ext (X0.out.trans e)) (HGe.ext hgl (X0.out.trans e))))
  have HT := hide (fun w' (e : Ext W w') => hide (ih k hkm w' (he.ext (X0.out.trans e)) (hP.ext (X0.out.trans e)) (hL.ext (X0.out.trans e)) (hkin.ext (X0.out.trans e)) (by rw [hkb]; rfl) hlen (HGe.ext hgl (X0.out.trans e))))
  rw [hkb] at HPv
  have HAg : Hid (∀ c, w.heap.size ≤ c → (∀ g ∈ given, AwayM c g) ∧ AwayF c k) := hide (fun c hc => ⟨fun g hg => awayM_new (hL.kids g hg) hc, awayF_new hkin hc⟩)
  have HAk : Hid (∀ c, AwayF c p → AwayF c k) := hide (fun c h => h.kids k hkm)
  obtain ⟨c0, c1, c2, c3⟩ := B2.out.cells
  obtain ⟨e0, e1, e2, e3, e4⟩ := B1.out.cells
  rw [hk] at c0
  rw [hA, hks] at c3
  have n1 := B1.out.lt
  have n2 := B2.out.lt
  have n3 := lt_of_obj B3.out
  have HcW := hide (And.intro c0 (And.intro c1 c3))
  replace q0 := X0.out.cell q0
  replace q1 := X0.out.cell q1
  replace q2 := X0.out.cell q2
  replace q3 := X0.out.cell q3
  have HqW := hide (And.intro q0 (And.intro q1 (And.intro q2 q3)))
  generalize hev : evP x.classes x.insts preds (given.map Tm.pure) k = Q at *
  have HV : Hid (pfV p = .agg #[.int .i64 2, .int .i64 p.n, .slice p.T p.types.length p.tc, .slice (some ⟨b0, o0, none⟩) 1 p.cap]) := hide (by unfold pfV; rw [hk, hA, hks]; rfl)
  rw [HV.out]
  have HW : Hid (((w.alloc (.cells #[.slice x.D x.datas.length x.dc, .slice x.C x.classes.length x.cc, .slice x.I x.insts.length x.ic, .slice P preds.length pc, .slice L given.length lc] 81)).alloc (.cells #[.int .i64 2, .int .i64 p.n, .slice p.T p.types.length p.tc, .slice (some ⟨b0, o0, none⟩) 1 p.cap] 34)).alloc (.cells #[.int .i64 0, .int .i64 0, .string ⟨#[]⟩, .slice none 0 0, .slice none 0 0, .slice none 0 0] 40) = W) := hide (by have h := HW.out; rw [hk, hA, hks] at h; exact h)
  unfold enV pfV at *
  have hpC : Hid (b.cls.length ≤ 1000000000000000000) := hide (prv_in he hP k hkin b hkb).cls
  clear hW he hP hL hp hq hgl hlen hk hks hkb hkm hall hkin hA hk0 ih hev HV
  have l1 : ((([k] : List Pf).length : Nat) : Int) = 1 := rfl
  go_enter Tryz.func50, Tryz.ntmps50
  go_upto_region 1 with fail
  rw [HW.out]
  clear HW
  go_upto_region 5 with fail
  refine wp_name ?_
  intro W5 hW5
  have X5 : Hid (Ext W W5) := hide (by rw [hW5]; exact Ext.refl _)
  clear hW5 c0 c1 c2 c3 e0 e1 e2 e3 e4 q0 q1 q2 q3 n1 n2 n3
  have HMk := hide (fun w' (e : Ext W w') => (B1.out.ext e).cells)
  have HSS : Hid (∀ w', Ext W w' → w'.cell? ⟨w.heap.size + 1, 3, none⟩ = some (.slice (some ⟨b0, o0, none⟩) 1 p.cap) ∧ w'.cell? ⟨b0, o0, none⟩ = some (.int .i64 k.kind) ∧ w'.cell? ⟨b0, o0 + 1, none⟩ = some (.int .i64 k.n) ∧ w'.cell? ⟨b0, o0 + 2, none⟩ = some (.slice k.T k.types.length k.tc) ∧ w'.cell? ⟨b0, o0 + 3, none⟩ = some (.slice k.A k.kids.length k.cap) ∧
      w'.cell? ⟨w.heap.size, 0, none⟩ = some (.slice x.D x.datas.length x.dc) ∧ w'.cell? ⟨w.heap.size, 1, none⟩ = some (.slice x.C x.classes.length x.cc) ∧ w'.cell? ⟨w.heap.size, 2, none⟩ = some (.slice x.I x.insts.length x.ic) ∧ w'.cell? ⟨w.heap.size, 3, none⟩ = some (.slice P preds.length pc)) := hide (fun w' e =>
    ⟨e.cell HcW.out.2.2, e.cell HqW.out.1, e.cell HqW.out.2.1, e.cell HqW.out.2.2.1, e.cell HqW.out.2.2.2, (HMk.out w' e).1, (HMk.out w' e).2.1, (HMk.out w' e).2.2.1, (HMk.out w' e).2.2.2.1⟩)
  obtain ⟨s0, s1, s2, s3, s4, s5, s6, s7, s8⟩ := HSS.out W5 X5.out
  have n1 := (B1.out.ext X5.out).lt
  have n2 := (B2.out.ext X5.out).lt
  have n0 : b0 < W5.heap.size := by have := X5.out.size; omega
  have k0 : b0 ≠ W5.heap.size := by omega
  have k1 : w.heap.size ≠ W5.heap.size := by omega
  have k2 : w.heap.size + 1 ≠ W5.heap.size := by omega
  go_cut [5, 6] (fun s5 s6 wx => ∃ (b5 : Nat), s5 = .pointer (some ⟨b5, 0, none⟩) ∧ Hid (ClsAt W5 wx b5 b.cls))
  case first =>
    go_region_held3 (fun w' => w'.cell? ⟨w.heap.size + 1, 3, none⟩ = some (.slice (some ⟨b0, o0, none⟩) 1 p.cap) ∧ w'.cell? ⟨b0, o0, none⟩ = some (.int .i64 k.kind) ∧ w'.cell? ⟨b0, o0 + 1, none⟩ = some (.int .i64 k.n) ∧ w'.cell? ⟨b0, o0 + 2, none⟩ = some (.slice k.T k.types.length k.tc) ∧ w'.cell? ⟨b0, o0 + 3, none⟩ = some (.slice k.A k.kids.length k.cap) ∧
      w'.cell? ⟨w.heap.size, 0, none⟩ = some (.slice x.D x.datas.length x.dc) ∧ w'.cell? ⟨w.heap.size, 1, none⟩ = some (.slice x.C x.classes.length x.cc) ∧ w'.cell? ⟨w.heap.size, 2, none⟩ = some (.slice x.I x.insts.length x.ic) ∧ w'.cell? ⟨w.heap.size, 3, none⟩ = some (.slice P preds.length pc)) (first | with_reducible assumption | (obtain ⟨g0, g1, g2, g3, g4, g5, g6, g7, g8⟩ := kS; with_reducible exact ⟨cell4 k2 _ _ _ _ g0, cell4 k0 _ _ _ _ g1, cell4 k0 _ _ _ _ g2, cell4 k0 _ _ _ _ g3, cell4 k0 _ _ _ _ g4, cell4 k1 _ _ _ _ g5, cell4 k1 _ _ _ _ g6, cell4 k1 _ _ _ _ g7, cell4 k1 _ _ _ _ g8⟩) | go_keep) (
      (go_at_call 49
       refine Calls.mono (HPv.out _ (X5.out.trans (by repeat (first | exact Ext.refl _ | exact Ext.pre (by simp) | exact Ext.alloc (by assumption) _ | refine Ext.alloc ?_ _ |  refine Ext.more ?_ _ _ | refine Ext.drew ?_ | refine Ext.drewN ?_ _)))).out ?_
       rintro e y ⟨⟨a, n, rfl, hpv⟩, hx⟩
       have EA : Hid (Ext W5 y) := hide (by refine Ext.trans ?_ hx; exact (by repeat (first | exact Ext.refl _ | exact Ext.pre (by simp) | exact Ext.alloc (by assumption) _ | refine Ext.alloc ?_ _ |  refine Ext.more ?_ _ _ | refine Ext.drew ?_ | refine Ext.drewN ?_ _)))
       have kS := HSS.out y (X5.out.trans EA.out)
       try (have hz := hide ((hx.heap (lt_of_obj (at_newD W5 _))).trans (at_newD W5 _)); have z0 := bytes_block hz.out 0; have z1 := bytes_block hz.out 1; have z2 := bytes_block hz.out 2; have z3 := bytes_block hz.out 3; have z4 := free_block hz.out 0; have z5 := free_block hz.out 1; have z6 := free_block hz.out 2; have z7 := free_block hz.out 3; simp only [List.getElem?_toArray, List.getElem?_cons_zero, List.getElem?_cons_succ] at z0 z1 z2 z3)))
    all_goals (have hac := (hpv.yes b rfl).2.1; go_wp2_with fail; go_meet; first
      | exact ⟨y.heap.size, rfl, hide (by rw [← hac]; exact ClsAt.behind EA.out)⟩
      | exact ⟨W5.heap.size, rfl, hide (by rw [← hac]; exact ClsAt.ahead EA.out (Nat.le_refl _) hz.out)⟩)
  case rest =>
    obtain ⟨b5, rfl, HC⟩ := hcut
    have X6 := hide (X5.out.trans HC.out.x)
    have HpC : Hid (b.cls.length ≤ 1000000000000000000) := hpC
    clear s0 s1 s2 s3 s4 s5 s6 s7 s8 n1 n2 n0 k0 k1 k2
    obtain ⟨s0, s1, s2, s3, s4, s5, s6, s7, s8⟩ := HSS.out wc X6.out
    obtain ⟨m0, m1, m2, m3, m4⟩ := HMk.out wc X6.out
    have c1 := X6.out.cell HcW.out.2.1
    have d0 := HC.out.c0
    have dl := HC.out.lt
    have n1 := (B1.out.ext X6.out).lt
    have n2 := (B2.out.ext X6.out).lt
    have n0 : b0 < wc.heap.size := by have := X6.out.size; omega
    have HS2 : Hid (∀ w', Ext wc w' → w'.cell? ⟨w.heap.size + 1, 1, none⟩ = some (.int .i64 p.n) ∧ w'.cell? ⟨b5, 0, none⟩ = some (encStr b.cls) ∧ w'.cell? ⟨w.heap.size, 4, none⟩ = some (.slice L given.length lc)) := hide (fun w' e => ⟨e.cell c1, e.cell d0, e.cell m4⟩)
    have B4 : Hid (wc.heap[w.heap.size + 1 + 1]? = some (.cells #[.int .i64 0, .int .i64 0, .string ⟨#[]⟩, .slice none 0 0, .slice none 0 0, .slice none 0 0] 40)) := hide ((X6.out.heap (lt_of_obj B3.out)).trans B3.out)
    obtain ⟨z0, z1, z2, z3, z4, z5, zf0, zf1, zf2, zf3, zf4, zf5⟩ := m0_cells B4.out
    have n3 := lt_of_obj B4.out
    have HSa : Hid (∀ w', Ext wc w' → w'.cell? ⟨w.heap.size + 1, 3, none⟩ = some (.slice (some ⟨b0, o0, none⟩) 1 p.cap) ∧ w'.cell? ⟨b0, o0, none⟩ = some (.int .i64 k.kind) ∧ w'.cell? ⟨b0, o0 + 1, none⟩ = some (.int .i64 k.n) ∧ w'.cell? ⟨b0, o0 + 2, none⟩ = some (.slice k.T k.types.length k.tc) ∧ w'.cell? ⟨b0, o0 + 3, none⟩ = some (.slice k.A k.kids.length k.cap) ∧
      w'.cell? ⟨w.heap.size, 0, none⟩ = some (.slice x.D x.datas.length x.dc) ∧ w'.cell? ⟨w.heap.size, 1, none⟩ = some (.slice x.C x.classes.length x.cc) ∧ w'.cell? ⟨w.heap.size, 2, none⟩ = some (.slice x.I x.insts.length x.ic) ∧ w'.cell? ⟨w.heap.size, 3, none⟩ = some (.slice P preds.length pc) ∧
      w'.cell? ⟨w.heap.size + 1, 1, none⟩ = some (.int .i64 p.n) ∧ w'.cell? ⟨b5, 0, none⟩ = some (encStr b.cls) ∧ w'.cell? ⟨w.heap.size, 4, none⟩ = some (.slice L given.length lc)) := hide (fun w' e => by
      obtain ⟨a0, a1, a2, a3, a4, a5, a6, a7, a8⟩ := HSS.out w' (X6.out.trans e)
      exact ⟨a0, a1, a2, a3, a4, a5, a6, a7, a8, HS2.out w' e⟩)
    have hge := HC.out.ge
    have hx5 := X5.out.size
    have j0 : b0 ≠ w.heap.size + 1 + 1 := by omega
    have j1 : w.heap.size ≠ w.heap.size + 1 + 1 := by omega
    have j2 : w.heap.size + 1 ≠ w.heap.size + 1 + 1 := by omega
    have hws : W.heap.size = w.heap.size + 3 := HsW.out
    have j5 : b5 ≠ w.heap.size + 1 + 1 := by omega
    clear HC
    go_wp2
    go_region_held3 (fun w' => w'.cell? ⟨w.heap.size + 1, 3, none⟩ = some (.slice (some ⟨b0, o0, none⟩) 1 p.cap) ∧ w'.cell? ⟨b0, o0, none⟩ = some (.int .i64 k.kind) ∧ w'.cell? ⟨b0, o0 + 1, none⟩ = some (.int .i64 k.n) ∧ w'.cell? ⟨b0, o0 + 2, none⟩ = some (.slice k.T k.types.length k.tc) ∧ w'.cell? ⟨b0, o0 + 3, none⟩ = some (.slice k.A k.kids.length k.cap) ∧
      w'.cell? ⟨w.heap.size, 0, none⟩ = some (.slice x.D x.datas.length x.dc) ∧ w'.cell? ⟨w.heap.size, 1, none⟩ = some (.slice x.C x.classes.length x.cc) ∧ w'.cell? ⟨w.heap.size, 2, none⟩ = some (.slice x.I x.insts.length x.ic) ∧ w'.cell? ⟨w.heap.size, 3, none⟩ = some (.slice P preds.length pc) ∧
      w'.cell? ⟨w.heap.size + 1, 1, none⟩ = some (.int .i64 p.n) ∧ w'.cell? ⟨b5, 0, none⟩ = some (encStr b.cls) ∧ w'.cell? ⟨w.heap.size, 4, none⟩ = some (.slice L given.length lc)) (first | with_reducible assumption | (obtain ⟨g0, g1, g2, g3, g4, g5, g6, g7, g8, g9, g10, g11⟩ := kS; with_reducible exact ⟨cell6a j2 _ _ _ _ _ _ _ g0, cell6a j0 _ _ _ _ _ _ _ g1, cell6a j0 _ _ _ _ _ _ _ g2, cell6a j0 _ _ _ _ _ _ _ g3, cell6a j0 _ _ _ _ _ _ _ g4, cell6a j1 _ _ _ _ _ _ _ g5, cell6a j1 _ _ _ _ _ _ _ g6, cell6a j1 _ _ _ _ _ _ _ g7, cell6a j1 _ _ _ _ _ _ _ g8, cell6a j2 _ _ _ _ _ _ _ g9, cell6a j5 _ _ _ _ _ _ _ g10, cell6a j1 _ _ _ _ _ _ _ g11⟩) | go_keep) (
      (go_at_call 50
       refine Calls.mono (HT.out _ (X6.out.trans (by repeat (first | exact Ext.refl _ | exact Ext.pre (by simp) | exact Ext.alloc (by assumption) _ | refine Ext.alloc ?_ _ |  refine Ext.more ?_ _ _ | refine Ext.drew ?_ | refine Ext.drewN ?_ _)))).out ?_
       rintro e y ⟨⟨t, rfl, ht⟩, hx⟩
       have EA : Hid (Ext wc y) := hide (by refine Ext.trans ?_ hx; exact (by repeat (first | exact Ext.refl _ | exact Ext.pre (by simp) | exact Ext.alloc (by assumption) _ | refine Ext.alloc ?_ _ |  refine Ext.more ?_ _ _ | refine Ext.drew ?_ | refine Ext.drewN ?_ _)))
       have kS := HSa.out y EA.out
       have B5 := hide ((EA.out.heap (lt_of_obj B4.out)).trans B4.out)
       obtain ⟨a0, a1, a2, a3, a4, a5, af0, af1, af2, af3, af4, af5⟩ := m0_cells B5.out
       have haz := lt_of_obj B5.out))
    have ht : EvOk wc y given k Q t := ⟨ht.inn, ht.is, ht.away⟩
    have HAg2 := hide (HAg.out (w.heap.size + 1 + 1) (by omega))
    have HAt := hide (ht.away (w.heap.size + 1 + 1) (by omega) HAg2.out.1 HAg2.out.2)
    obtain ⟨U, hU⟩ : ∃ U, U = prjT b.cls p.n y.heap.size t := ⟨_, rfl⟩
    have HX : Hid (((((((y.setCell ⟨w.heap.size + 1 + 1, 0, none⟩ (.int .i64 13)).setCell ⟨w.heap.size + 1 + 1, 1, none⟩ (.int .i64 p.n)).setCell ⟨w.heap.size + 1 + 1, 2, none⟩ (.string ⟨b.cls.toArray⟩)).setCell ⟨w.heap.size + 1 + 1, 3, none⟩ (.slice none 0 0)).setCell ⟨w.heap.size + 1 + 1, 4, none⟩ (.slice none 0 0)).setCell ⟨w.heap.size + 1 + 1, 5, none⟩ (.slice (some ⟨y.heap.size, 0, none⟩) 1 1)).alloc (.cells #[.int .i64 t.kind, .int .i64 t.n, encStr t.name, .slice t.V t.vars.length t.vc, .slice t.T t.types.length t.tc, .slice t.A t.kids.length t.cap] 40) = (putTm y (w.heap.size + 1 + 1) U).alloc (.cells #[.int .i64 t.kind, .int .i64 t.n, encStr t.name, .slice t.V t.vars.length t.vc, .slice t.T t.types.length t.tc, .slice t.A t.kids.length t.cap] 40)) := hide (by rw [hU]; rfl)
    have hpz := putTm_size y (w.heap.size + 1 + 1) U
    have XF := hide (((putTm_ext (X0.out.trans (X6.out.trans EA.out)) (by omega : w.heap.size ≤ w.heap.size + 1 + 1) U).alloc (.cells #[.int .i64 t.kind, .int .i64 t.n, encStr t.name, .slice t.V t.vars.length t.vc, .slice t.T t.types.length t.tc, .slice t.A t.kids.length t.cap] 40)))
    have HI : Hid (TmIn ((putTm y (w.heap.size + 1 + 1) U).alloc (.cells #[.int .i64 t.kind, .int .i64 t.n, encStr t.name, .slice t.V t.vars.length t.vc, .slice t.T t.types.length t.tc, .slice t.A t.kids.length t.cap] 40)) U) := hide (by
      rw [hU]
      refine prjT_in (by have := HpC.out; omega) ((ht.inn.grown (putTm_grown _ _ _) (fun c e => by injection e with e; subst e; exact HAt.out)).ext ((Ext.refl _).alloc _)) ?_
      have := TmBox.new (putTm y (w.heap.size + 1 + 1) U) t
      rw [hpz] at this
      rw [← hU]
      exact this)
    have HU : Hid (U.pure = .mk 13 p.n b.cls [] [] [Q] ∧ ∀ c, c < w.heap.size → (∀ g ∈ given, AwayM c g) → AwayF c p → AwayM c U) := hide ⟨by rw [hU, Tm.pure_eq]; show Tm.Pure.mk 13 p.n b.cls [] [] [t.pure] = _; rw [ht.is], fun c hc h1 h2 => by
      rw [hU]
      exact prjT_away (by have := EA.out.size; have := X6.out.size; omega) (ht.away c (by have := X6.out.size; have := EA.out.size; omega) h1 (HAk.out c h2))⟩
    have HVu : Hid (tmV U = .agg #[.int .i64 13, .int .i64 p.n, .string ⟨b.cls.toArray⟩, .slice none 0 0, .slice none 0 0, .slice (some ⟨y.heap.size, 0, none⟩) 1 1]) := hide (by rw [hU]; rfl)
    rw [← HX.out] at XF HI
    clear hU hpz HX ht
    go_wp2
    refine bodyPost_ret (v := tmV U) ?_ rfl ⟨⟨U, rfl, ?_, HU.out.1, HU.out.2⟩, ?_⟩
    · rw [HVu.out]
      simp [results, Tryz.f50, go_sem, a0, a1, a2, a3, a4, a5, haz]
    · exact HI.out.ext (by repeat (first | exact Ext.refl _ | exact Ext.pre (by simp) | exact Ext.alloc (by assumption) _ | refine Ext.alloc ?_ _ |  refine Ext.more ?_ _ _ | refine Ext.drew ?_ | refine Ext.drewN ?_ _))
    · exact XF.out.trans (by repeat (first | exact Ext.refl _ | exact Ext.pre (by simp) | exact Ext.alloc (by assumption) _ | refine Ext.alloc ?_ _ |  refine Ext.more ?_ _ _ | refine Ext.drew ?_ | refine Ext.drewN ?_ _))

end Go.Proofs.YtcnkfkjgpdmebaaGreatDoor
