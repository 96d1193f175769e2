/- Contracts of the reference of chapter 17: a type, and predicates, with all replaced; and of chapter 21: renamed. -/
import Derived.Test.YtpdcjjgkpbpleaaGreatDoorJP29
import Derived.RegionTactic
import Derived.Deep.DeepCutAuto
import Derived.Deep.RegionHeld3
/- Contracts of the reference of chapter 17: a type, and predicates, with all replaced; and of chapter 21: renamed. -/
namespace Go.Proofs.YtpdcjjgkpbpleaaGreatDoor
open Go.RowKit

/-- What the reference's Apply tells. -/
structure AppR (w w' : World) (s : List Pr) (t u : Ty) : Prop where
  ty : TyIn w' u
  is : u.pure = putP (vsP s) (tsP s) t
  away : ∀ c, c < w.heap.size → awayB c t = true → (∀ k ∈ tsP s, awayB c k = true) → awayB c u = true

set_option maxRecDepth 10000 in
set_option maxHeartbeats 4000000 in
theorem r_apply17 (S : Option Addr) (sc : Nat) (s : List Pr) (t : Ty) (w : World) (h : PrsIn w S s) (hn : s.length ≤ 9223372036854775807) (hsm : ∀ p ∈ s, legalT p.ty = true) (ht : TyIn w t) (hl : legalT t = true) (h1 : szS (vsP s) (tsP s) t ≤ 4096) (h2 : dpS (vsP s) (tsP s) t ≤ 100) :
    Calls Tryz.prog 129 #[.slice S s.length sc, tyV t] w fun e w' => (∃ u, e = .returned (.tuple #[tyV u, .int .i64 0]) ∧ AppR w w' s t u) ∧ Ext w w' := by
  obtain ⟨W, hW⟩ : ∃ W, W = (w.alloc (.cells #[encStr t.con, .int .i64 t.var, .slice t.A t.args.length t.cap] 37)).alloc (.cells #[.string ⟨#[]⟩, .int .i64 0, .slice none 0 0] 37) := ⟨_, rfl⟩
  have HW := hide hW.symm
  have X0 : Hid (Ext w W) := hide (by rw [hW]; exact ((Ext.refl _).alloc _).alloc _)
  have B1 : Hid (TBox W w.heap.size t) := hide (by rw [hW]; exact (TBox.new w t).ext ((Ext.refl _).alloc _))
  have B2 : Hid (W.heap[w.heap.size + 1]? = some (.cells #[.string ⟨#[]⟩, .int .i64 0, .slice none 0 0] 37 (0, 0))) := hide (by rw [hW]; exact at_newB _ _ _ (by simp))
  have hts : t.size ≤ 4096 := (legal_parts hl).1
  have hps : ∀ p ∈ s, p.ty.size ≤ 1000000 := fun p hp => by have := (legal_parts (hsm p hp)).1; omega
  have HL1 := hide (r_legal16 t W (ht.ext X0.out) (by omega))
  rw [hl] at HL1
  have HSz := hide (fun w' (e : Ext w w') => hide (r_size17 S sc s hn hps t w' (ht.ext e) (h.ext e) (by omega)))
  have HPt := hide (fun w' (e : Ext w w') => hide (r_put17 S sc s hn t w' (ht.ext e) (h.ext e) (by omega)))
  have HLu := hide (fun (u : Ty) (e : u.pure = putP (vsP s) (tsP s) t) => show legalT u = true ∧ u.size ≤ 900000 by
    have h3 := legal_put (vars := vsP s) (types := tsP s) (fun k hk => by obtain ⟨p, hp, rfl⟩ := List.mem_map.1 hk; exact hsm p hp) hl e
    rw [decide_eq_true h1, decide_eq_true h2] at h3
    exact ⟨h3, by have := (legal_parts h3).1; omega⟩)
  have HAt := hide (fun c (hc : w.heap.size ≤ c) => And.intro (away_new ht hc) (fun k (hk : k ∈ tsP s) => away_new (h.tys k hk) hc))
  have hz : ¬ (4096 : Int) < (szS (vsP s) (tsP s) t : Int) := by omega
  have hz2 : (szS (vsP s) (tsP s) t : Int) ≤ 4096 := by omega
  generalize szS (vsP s) (tsP s) t = Z at *
  have c0 := B1.out.c0
  have c1 := B1.out.c1
  have c2 := B1.out.c2
  have hbl := B1.out.lt
  clear hW h ht hl hsm hts hps h1 h2
  unfold tyV at *
  go_enter Tryz.func129, Tryz.ntmps129
  go_upto_region 1 with fail
  rw [HW.out]
  clear HW
  go_wp2_with fail
  refine HL1.out.mono ?_
  rintro e w2 ⟨rfl, hx⟩
  have X2 := hide (X0.out.trans hx)
  have C1 := hide (B1.out.ext hx)
  have C2 := hide ((hx.heap (lt_of_obj B2.out)).trans B2.out)
  clear hx HL1 c0 c1 c2 hbl
  have c0 := C1.out.c0
  have c1 := C1.out.c1
  have c2 := C1.out.c2
  have hbl := C1.out.lt
  go_wp2_with fail
  refine (HSz.out w2 X2.out).out.mono ?_
  rintro e w3 ⟨rfl, hx⟩
  have X3 := hide (X2.out.trans hx)
  have D1 := hide (C1.out.ext hx)
  have D2 := hide ((hx.heap (lt_of_obj C2.out)).trans C2.out)
  clear hx HSz c0 c1 c2 hbl C1 C2
  have c0 := D1.out.c0
  have c1 := D1.out.c1
  have c2 := D1.out.c2
  have hbl := D1.out.lt
  go_wp2_with fail
  refine (HPt.out w3 X3.out).out.mono ?_
  rintro e w4 ⟨⟨u, rfl, hu⟩, hx⟩
  obtain ⟨W5, hW5⟩ : ∃ W5, W5 = w4.alloc (.cells #[encStr u.con, .int .i64 u.var, .slice u.A u.args.length u.cap] 37) := ⟨_, rfl⟩
  have X45 : Hid (Ext w4 W5) := hide (by rw [hW5]; exact (Ext.refl _).alloc _)
  have X5 := hide (X3.out.trans (hx.trans X45.out))
  have E2 := hide (((hx.trans X45.out).heap (lt_of_obj D2.out)).trans D2.out)
  have U5 : Hid (TBox W5 w4.heap.size u) := hide (by rw [hW5]; exact TBox.new w4 u)
  have Hu := hide (hu.ext X45.out)
  have HL2 := hide (r_legal16 u W5 Hu.out.ty (HLu.out u hu.is).2)
  rw [(HLu.out u hu.is).1] at HL2
  have hs3 := X3.out.size
  have hs0 : w.heap.size + 2 ≤ w3.heap.size := by
    have h1 := lt_of_obj D2.out
    omega
  clear hx hu HPt c0 c1 c2 hbl D1 D2 HLu
  unfold tyV at HL2
  go_upto_region 6 with fail
  rw [← hW5]
  clear hW5
  have c0 := U5.out.c0
  have c1 := U5.out.c1
  have c2 := U5.out.c2
  have hbl := U5.out.lt
  go_wp2_with fail
  refine HL2.out.mono ?_
  rintro e w6 ⟨rfl, hx⟩
  have X6 := hide (X5.out.trans hx)
  have U6 := hide (U5.out.ext hx)
  have F2 := hide ((hx.heap (lt_of_obj E2.out)).trans E2.out)
  have HuT := hide (Hu.out.ty.ext hx)
  clear hx HL2 c0 c1 c2 hbl
  have c0 := U6.out.c0
  have c1 := U6.out.c1
  have c2 := U6.out.c2
  have hbl := U6.out.lt
  have f0 := free_block F2.out 0
  have f1 := free_block F2.out 1
  have f2 := free_block F2.out 2
  have k0 := bytes_block F2.out 0
  have k1 := bytes_block F2.out 1
  have k2 := bytes_block F2.out 2
  have hrl := lt_of_obj F2.out
  simp only [List.getElem?_toArray, List.getElem?_cons_zero, List.getElem?_cons_succ] at k0 k1 k2
  have HEnd : Hid (AppR w (((w6.setCell ⟨w.heap.size + 1, 0, none⟩ (encStr u.con)).setCell ⟨w.heap.size + 1, 1, none⟩ (.int .i64 u.var)).setCell ⟨w.heap.size + 1, 2, none⟩ (.slice u.A u.args.length u.cap)) s t u ∧ Ext w (((w6.setCell ⟨w.heap.size + 1, 0, none⟩ (encStr u.con)).setCell ⟨w.heap.size + 1, 1, none⟩ (.int .i64 u.var)).setCell ⟨w.heap.size + 1, 2, none⟩ (.slice u.A u.args.length u.cap))) := hide (by
    have g := put3_grown w6 (w.heap.size + 1) 0 1 2 (encStr u.con) (.int .i64 u.var) (.slice u.A u.args.length u.cap)
    have ha : awayB (w.heap.size + 1) u = true := Hu.out.away _ (by omega) (HAt.out _ (by omega)).1 (HAt.out _ (by omega)).2
    refine ⟨⟨HuT.out.grown g (fun c e => by injection e with e; subst e; exact ha), Hu.out.is, fun c hc h1 h2 => Hu.out.away c (by omega) h1 h2⟩, ?_⟩
    exact (((X6.out.setCell (by simp) _).setCell (by simp) _).setCell (by simp) _))
  go_wp2
  refine bodyPost_ret (v := .tuple #[.agg #[encStr u.con, .int .i64 u.var, .slice u.A u.args.length u.cap], .int .i64 0]) ?_ rfl ⟨⟨u, rfl, HEnd.out.1⟩, HEnd.out.2⟩
  simp [results, Tryz.f129, go_sem, k0, k1, k2]

/-- What the reference's Preds tells. -/
structure DpsR (N : Nat) (w' : World) (row : Option Nat) (s : List Pr) (l ds : List Pd) : Prop where
  away : ∀ d ∈ ds, ∀ c, c < N → (∀ x ∈ l, awayB c x.ty = true) → (∀ k ∈ tsP s, awayB c k = true) → awayB c d.ty = true
  ty : ∀ d ∈ ds, TyIn w' d.ty
  off : ∀ d ∈ ds, ∀ c, row = some c → awayB c d.ty = true
  is : ds.map (fun d => (d.cls, d.ty.pure)) = l.map fun x => (x.cls, putP (vsP s) (tsP s) x.ty)
theorem DpsR.len {N : Nat} {w' : World} {row : Option Nat} {s : List Pr} {l ds : List Pd} (h : DpsR N w' row s l ds) : ds.length = l.length := by simpa using congrArg List.length h.is
theorem DpsR.step {w wr w3 w5 : World} {row row' : Option Nat} {s : List Pr} {l ds : List Pd} {x : Pd} {u : Ty} {S : Option Addr} {N : Nat} (h : DpsR N wr row s l ds) (hN : N ≤ wr.heap.size) (hS : PrsIn w S s) (hx : TyIn w x.ty) (hu : AppR wr w3 s x.ty u)
    (hlo : ∀ c, row = some c → w.heap.size ≤ c ∧ c < wr.heap.size) (e : Ext wr w3) {w4 : World} (e4 : Ext w3 w4) (hg : w4.grownBy w5 row) (ho : row' = row ∨ row' = some w4.heap.size) : DpsR N w5 row' s (l ++ [x]) (ds ++ [⟨x.cls, u⟩]) := by
  have hau : ∀ c, row = some c → awayB c u = true := fun c hc => hu.away c (hlo c hc).2 (away_new hx (hlo c hc).1) (fun k hk => away_new (hS.tys k hk) (hlo c hc).1)
  have hty : ∀ d ∈ ds ++ [(⟨x.cls, u⟩ : Pd)], TyIn w4 d.ty ∧ ∀ c, row = some c → awayB c d.ty = true := by
    intro d hd
    rcases List.mem_append.1 hd with hd | hd
    · exact ⟨(h.ty d hd).ext (e.trans e4), fun c hc => h.off d hd c hc⟩
    · rw [List.mem_singleton] at hd
      subst hd
      exact ⟨hu.ty.ext e4, hau⟩
  refine ⟨fun d hd c hc h1 h2 => ?_, fun d hd => (hty d hd).1.grown hg (hty d hd).2, fun d hd c hc => ?_, ?_⟩
  · rcases List.mem_append.1 hd with hd | hd
    · exact h.away d hd c hc (fun y hy => h1 y (List.mem_append.2 (.inl hy))) h2
    · rw [List.mem_singleton] at hd
      subst hd
      exact hu.away c (by omega) (h1 x (by simp)) h2
  · rcases ho with h1 | h1
    · exact (hty d hd).2 c (h1 ▸ hc)
    · rw [h1] at hc; injection hc with hc; exact away_new (hty d hd).1 (by omega)
  · rw [List.map_append, List.map_append, h.is]
    simp [hu.is]

set_option maxRecDepth 10000 in
set_option maxHeartbeats 4000000 in
theorem r_preds17 (S : Option Addr) (sc : Nat) (s : List Pr) (B : Option Addr) (bc : Nat) (l : List Pd) (w : World) (h : PrsIn w S s) (hn : s.length ≤ 9223372036854775807) (hsm : ∀ p ∈ s, legalT p.ty = true) (hl : PdsIn w B l) (hlen : l.length ≤ 40000) (hok : putsOk s l) :
    Calls Tryz.prog 112 #[.slice S s.length sc, .slice B l.length bc] w fun e w' => (∃ v ds, e = .returned (.tuple #[v, .int .i64 0]) ∧ w'.ownsRow w.heap.size 39 4 v ds.length (ds.flatMap pdC.f) ∧ DpsR w.heap.size w' v.ownBlock s l ds) ∧ Ext w w' := by
  obtain ⟨i0, hi, hz0, hz1, hz2⟩ := info_parts pred_info
  have HS := hide h
  have HL := hide hl
  have HApp := hide (fun (x : Pd) (hx : x ∈ l) w' (e : Ext w w') => hide (r_apply17 S sc s x.ty w' (h.ext e) hn hsm ((hl.all x hx).ty.ext e) (hok x hx).1 (hok x hx).2.1 (hok x hx).2.2))
  clear h hsm hl hok
  go_enter Tryz.func112, Tryz.ntmps112
  go_wp2
  go_loopw [6, 7] (fun v i wr => ∃ (k : Nat) (ds : List Pd), k ≤ l.length ∧ i = .int .i64 k ∧ Hid (Ext w wr) ∧ Hid (wr.ownsRow w.heap.size 39 4 v ds.length (ds.flatMap pdC.f)) ∧ Hid (DpsR w.heap.size wr v.ownBlock s (l.take k) ds)) (fun _ i _ => l.length - (intOf i).toNat)
  case atStart => exact ⟨0, [], Nat.zero_le _, rfl, hide (Ext.refl _), hide (World.ownsRow_nil _ _ _ _), hide ⟨by simp, by simp, by simp, rfl⟩⟩
  case round =>
    obtain ⟨k, ds, hk, rfl, HX, HO, HD⟩ := hrel
    by_cases hlt : k < l.length
    · have hlt' : (k : Int) < (l.length : Int) := by omega
      have hk0 : (0 : Int) ≤ (k : Int) := by omega
      obtain ⟨b, o, rfl, hb0, p0, p1, p2, p3⟩ := HL.out.at_ hlt
      have q0 := HX.out.cell p0
      have q1 := HX.out.cell p1
      have q2 := HX.out.cell p2
      have q3 := HX.out.cell p3
      have hb : b < wr.heap.size := by have := HX.out.size; omega
      have hm := List.getElem_mem hlt
      have HAx := hide (HApp.out _ hm wr HX.out)
      have Hx := hide (HL.out.all _ hm)
      have Htk : Hid (l.take (k + 1) = l.take k ++ [l[k]'hlt]) := hide (List.take_succ_eq_append_getElem hlt)
      have hdl : ds.length ≤ 40000 := by have := HD.out.len; rw [List.length_take] at this; omega
      generalize l[k]'hlt = x at *
      clear hm
      unfold tyV at HAx
      obtain ⟨A6, c6, rfl, -, -, -, -⟩ := RowOf.own pdC (l := ds) HO.out
      go_wp2_with fail
      refine HAx.out.out.mono ?_
      rintro e w3 ⟨⟨u, rfl, hu⟩, hx3⟩
      obtain ⟨W4, hW4⟩ : ∃ W4, W4 = w3.alloc (.cells #[encStr u.con, .int .i64 u.var, .slice u.A u.args.length u.cap] 37) := ⟨_, rfl⟩
      have X34 : Hid (Ext w3 W4) := hide (by rw [hW4]; exact (Ext.refl _).alloc _)
      have U4 : Hid (TBox W4 w3.heap.size u) := hide (by rw [hW4]; exact TBox.new w3 u)
      have Xr4 := hide (hx3.trans X34.out)
      have X4 := hide (HX.out.trans Xr4.out)
      have HStep := hide (fun w5 v' (w4 : World) (e4 : Ext W4 w4) (hg : w4.grownBy w5 (Value.slice A6 ds.length c6).ownBlock) (ho : (v' : Value).ownBlock = (Value.slice A6 ds.length c6).ownBlock ∨ v'.ownBlock = some w4.heap.size) =>
        DpsR.step HD.out HX.out.size HS.out Hx.out.ty hu (fun c hc => HO.out.lt c hc) hx3 (X34.out.trans e4) hg ho)
      have HSb : Hid (∀ w', Ext W4 w' → w'.cell? ⟨b, o + k * 4, none⟩ = some (.string ⟨x.cls.toArray⟩) ∧ w'.cell? ⟨w3.heap.size, 0, none⟩ = some (encStr u.con) ∧ w'.cell? ⟨w3.heap.size, 1, none⟩ = some (.int .i64 u.var) ∧ w'.cell? ⟨w3.heap.size, 2, none⟩ = some (.slice u.A u.args.length u.cap)) := hide (fun w' e => by
        have := U4.out.ext e
        exact ⟨(Xr4.out.trans e).cell q0, this.c0, this.c1, this.c2⟩)
      have HSc : Hid (∀ w4 w5, Ext W4 w4 → w4.grownBy w5 (Value.slice A6 ds.length c6).ownBlock → Ext w w5 → w5.cell? ⟨b, o + k * 4, none⟩ = some (.string ⟨x.cls.toArray⟩) ∧ w5.cell? ⟨w3.heap.size, 0, none⟩ = some (encStr u.con) ∧ w5.cell? ⟨w3.heap.size, 1, none⟩ = some (.int .i64 u.var) ∧ w5.cell? ⟨w3.heap.size, 2, none⟩ = some (.slice u.A u.args.length u.cap)) := hide (fun w4 w5 e4 hg e => by
        have h4 := U4.out.ext e4
        have h5 : TBox w5 w3.heap.size u := (hg.block _ h4.lt (fun e => by have h6 := (HO.out.lt _ e.symm).2; have h7 := hx3.size; omega)).trans h4
        exact ⟨e.cell p0, h5.c0, h5.c1, h5.c2⟩)
      clear hu hx3 q0 q1 q2 q3 p0 p1 p2 p3
      go_upto_region 8 with fail
      rw [← hW4]
      clear hW4
      obtain ⟨s0, s1, s2, s3⟩ := HSb.out W4 (Ext.refl _)
      have hbl := U4.out.lt
      have hb4 : b < W4.heap.size := by have := Xr4.out.size; omega
      go_wp2
      go_region_held3 (fun w' => w'.cell? ⟨b, o + k * 4, none⟩ = some (.string ⟨x.cls.toArray⟩) ∧ w'.cell? ⟨w3.heap.size, 0, none⟩ = some (encStr u.con) ∧ w'.cell? ⟨w3.heap.size, 1, none⟩ = some (.int .i64 u.var) ∧ w'.cell? ⟨w3.heap.size, 2, none⟩ = some (.slice u.A u.args.length u.cap)) (first | assumption | go_keep) (first
      | (refine step_append_rowB _ rfl (.tmp 29) (.tmp 37) 27 rfl w.heap.size 39 i0 _ 4 64 Tryz.underlying27 hi hz0 hz1 hz2 rfl (by decide) (.slice A6 ds.length c6) ds.length (ds.flatMap pdC.f) rfl (own_extB HO.out (Xr4.out.trans (by repeat (first | exact Ext.refl _ | exact Ext.pre (by simp) | exact Ext.alloc (by assumption) _ | refine Ext.alloc ?_ _ |  refine Ext.more ?_ _ _ | refine Ext.drew ?_ | refine Ext.drewN ?_ _)))) (some ⟨_, 0, none⟩) 1 1 (pdC.f (Pd.mk x.cls u)) rfl (by first | exact pd_row1 (heap_alloc_new _ _) | exact pd_row1 (at_newB _ _ _ (by simp))) (fun y hy => one_pds [Pd.mk x.cls u] y (by rw [List.flatMap_cons, List.flatMap_nil, List.append_nil]; exact hy)) (by unfold maxLen; omega) (by omega) (Nat.le_trans X4.out.size (Ext.size (by repeat (first | exact Ext.refl _ | exact Ext.pre (by simp) | exact Ext.alloc (by assumption) _ | refine Ext.alloc ?_ _ |  refine Ext.more ?_ _ _ | refine Ext.drew ?_ | refine Ext.drewN ?_ _)))) ?_
         intro v5 w5 hown5 hg5 hor5
         have Y5 : Hid (Ext w w5) := hide (Ext.app (X4.out.trans (by repeat (first | exact Ext.refl _ | exact Ext.pre (by simp) | exact Ext.alloc (by assumption) _ | refine Ext.alloc ?_ _ |  refine Ext.more ?_ _ _ | refine Ext.drew ?_ | refine Ext.drewN ?_ _))) hg5 (own_extB HO.out (Xr4.out.trans (by repeat (first | exact Ext.refl _ | exact Ext.pre (by simp) | exact Ext.alloc (by assumption) _ | refine Ext.alloc ?_ _ |  refine Ext.more ?_ _ _ | refine Ext.drew ?_ | refine Ext.drewN ?_ _)))) (Nat.le_refl _))
         have O5 : Hid (w5.ownsRow w.heap.size 39 4 v5 (ds ++ [Pd.mk x.cls u]).length ((ds ++ [Pd.mk x.cls u]).flatMap pdC.f)) := hide (by rw [List.length_append, List.flatMap_append]; simpa using hown5)
         have D5 : Hid (DpsR w.heap.size w5 v5.ownBlock s (l.take (k + 1)) (ds ++ [Pd.mk x.cls u])) := hide (by rw [Htk.out]; exact HStep.out w5 v5 _ (by repeat (first | exact Ext.refl _ | exact Ext.pre (by simp) | exact Ext.alloc (by assumption) _ | refine Ext.alloc ?_ _ |  refine Ext.more ?_ _ _ | refine Ext.drew ?_ | refine Ext.drewN ?_ _)) hg5 hor5)
         have t0 := HSc.out _ w5 (by repeat (first | exact Ext.refl _ | exact Ext.pre (by simp) | exact Ext.alloc (by assumption) _ | refine Ext.alloc ?_ _ |  refine Ext.more ?_ _ _ | refine Ext.drew ?_ | refine Ext.drewN ?_ _)) hg5 Y5.out
         clear hown5 hg5 hor5))
      go_wp2
      go_roundw
      case rel => exact ⟨k + 1, _, hlt, by go_num, Y5, O5, D5⟩
      case measure => simp [intOf]; omega
    · have hge : ¬ (k : Int) < (l.length : Int) := by omega
      have HDd : Hid (DpsR w.heap.size wr u6.ownBlock s l ds) := hide (by have := HD.out; rwa [List.take_of_length_le (by omega)] at this)
      go_wp2
      go_ret2
      exact ⟨⟨_, rfl, ds, HO.out, HDd.out⟩, HX.out⟩

end Go.Proofs.YtpdcjjgkpbpleaaGreatDoor

/- Contract of the reference of chapter 23: may an instance be? -/
namespace Go.Proofs.YtpdcjjgkpbpleaaGreatDoor
open Go.RowKit

theorem all_no {α : Type} {p : α → Bool} {l : List α} {k : Nat} (h : k < l.length) (hp : p (l[k]'h) = false) : l.all p = false := by
  rw [Bool.eq_false_iff]
  intro ha
  rw [List.all_eq_true] at ha
  have := ha _ (List.getElem_mem h)
  rw [hp] at this
  cases this

set_option maxRecDepth 10000 in
set_option maxHeartbeats 4000000 in
theorem r_check23 (x : InD) (w : World) (h : InIn w x) : Calls Tryz.prog 79 #[inV x] w fun e w' => e = .returned (.int .i64 (if instB x then 0 else 10)) ∧ Ext w w' := by
  obtain ⟨cls, con, n, A, cap, preds⟩ := x
  obtain ⟨W, hW⟩ : ∃ W, W = w.alloc (.cells #[encStr cls, encStr con, .int .i64 n, .slice A preds.length cap] 56) := ⟨_, rfl⟩
  have HW := hide hW.symm
  have X0 : Hid (Ext w W) := hide (by rw [hW]; exact (Ext.refl _).alloc _)
  have HB : Hid (InBox W w.heap.size ⟨cls, con, n, A, cap, preds⟩) := hide (by rw [hW]; exact InBox.new w ⟨cls, con, n, A, cap, preds⟩)
  obtain ⟨c0, c1, c2, c3⟩ := HB.out.cells
  have hbl := HB.out.lt
  have hcl : cls.length ≤ 1000000000000000000 := h.txt
  have hco : con.length ≤ 1000000000000000000 := h.ctxt
  have hle := h.le
  have hmx := h.max
  have HPs := hide (h.row.ext X0.out)
  have HN1 := hide (r_con03 cls W (by omega))
  have HN2 := hide (r_con03 con W (by omega))
  have HI : Hid (instB ⟨cls, con, n, A, cap, preds⟩ = (instHd ⟨cls, con, n, A, cap, preds⟩ && preds.all (headPlB n))) := hide rfl
  have HH : Hid (instHd ⟨cls, con, n, A, cap, preds⟩ = (conB cls && (conB con || (con == [45, 62] && n == 2)) && decide (0 ≤ n) && decide (n ≤ 100))) := hide rfl
  generalize instB ⟨cls, con, n, A, cap, preds⟩ = R at *
  generalize instHd ⟨cls, con, n, A, cap, preds⟩ = H at *
  simp only [] at *
  clear hW h
  unfold inV at *
  go_enter Tryz.func79, Tryz.ntmps79
  go_upto_region 1 with fail
  rw [HW.out]
  clear HW
  go_cut [34] (fun s34 wx => s34 = .bool (!H) ∧ W = wx)
  case first =>
    clear HI HPs
    go_wp2_with fail
    refine HN1.out.mono ?_
    rintro e w2 ⟨rfl, rfl⟩
    cases h1 : conB cls
    · have hH : H = false := by rw [HH.out]; simp [h1]
      clear HH
      subst hH
      go_wp2_with fail
      go_meet
      exact ⟨by first | rfl | (simp; done) | (simp; omega), rfl⟩
    · go_wp2_with fail
      refine HN2.out.mono ?_
      rintro e w3 ⟨rfl, rfl⟩
      have HD : Hid ((conB con || (con == [45, 62] && n == 2)) = true → H = (decide (0 ≤ n) && decide (n ≤ 100))) := hide (fun hd => by rw [HH.out, h1, hd]; simp)
      cases h2 : conB con
      · cases h3 : (con == ([45, 62] : Str))
        · have hH : H = false := by rw [HH.out]; simp [h1, h2, h3]
          clear HH
          subst hH
          go_wp2_with fail
          go_meet
          exact ⟨by first | rfl | (simp; done) | (simp; omega), rfl⟩
        · cases h4 : (n == 2)
          · have hH : H = false := by rw [HH.out]; simp [h1, h2, h4]
            clear HH
            subst hH
            go_wp2_with fail
            go_meet
            exact ⟨by first | rfl | (simp; done) | (simp; omega), rfl⟩
          · have hn : n = 2 := by simpa using h4
            have hH : H = true := by rw [HD.out (by rw [h2, h3, h4]; rfl), hn]; rfl
            have h5 : (0 : Int) ≤ n := by omega
            have h6 : n ≤ 100 := by omega
            clear HH HD hn
            subst hH
            go_wp2_with fail
            go_meet
            exact ⟨by first | rfl | (simp; done) | (simp; omega), rfl⟩
      · have hH := HD.out (by rw [h2]; rfl)
        clear HH HD
        by_cases h5 : n < 0
        · have hH2 : H = false := by rw [hH]; simp; omega
          clear hH
          subst hH2
          go_wp2_with fail
          go_meet
          exact ⟨by first | rfl | (simp; done) | (simp; omega), rfl⟩
        · have h5' : (0 : Int) ≤ n := by omega
          by_cases h6 : (100 : Int) < n
          · have hH2 : H = false := by rw [hH]; simp; omega
            clear hH
            subst hH2
            go_wp2_with fail
            go_meet
            exact ⟨by first | rfl | (simp; done) | (simp; omega), rfl⟩
          · have h6' : n ≤ 100 := by omega
            have hH2 : H = true := by rw [hH]; simp; omega
            clear hH
            subst hH2
            go_wp2_with fail
            go_meet
            exact ⟨by first | rfl | (simp; done) | (simp; omega), rfl⟩
  case rest =>
    obtain ⟨rfl, rfl⟩ := hcut
    clear HH HN1 HN2 c0 c1
    cases H
    · have hR : R = false := by rw [HI.out]; rfl
      clear HI
      subst hR
      go_wp2
      go_ret
      exact ⟨rfl, X0.out⟩
    · have HI2 : Hid (R = preds.all (headPlB n)) := hide (by rw [HI.out]; rfl)
      clear HI c2 c3 hbl
      simp only [Bool.not_true]
      go_wp2
      go_loopw [3] (fun i wr => ∃ k : Nat, k ≤ preds.length ∧ i = .int .i64 k ∧ Hid (Ext W wr) ∧ Hid (∀ j (h : j < preds.length), j < k → headPlB n (preds[j]'h) = true)) (fun i _ => preds.length - (intOf i).toNat)
      case atStart => exact ⟨0, Nat.zero_le _, rfl, hide (Ext.refl _), hide (fun j _ hj => absurd hj (by omega))⟩
      case round =>
        obtain ⟨k, hk, rfl, HX, HJ⟩ := hrel
        have XR := hide (X0.out.trans HX.out)
        obtain ⟨-, -, c2, c3⟩ := (HB.out.ext HX.out).cells
        have hbl := (HB.out.ext HX.out).lt
        simp only [] at c2 c3
        by_cases hlt : k < preds.length
        · have hlt' : (k : Int) < (preds.length : Int) := by omega
          have hk0 : (0 : Int) ≤ (k : Int) := by omega
          obtain ⟨b, o, rfl, hb, q0, q1, q2, q3⟩ := (HPs.out.ext HX.out).at_ hlt
          have HJ2 : Hid (headPlB n (preds[k]'hlt) = true → ∀ j (h : j < preds.length), j < k + 1 → headPlB n (preds[j]'h) = true) := hide (fun h1 j hj hjk => by
            by_cases e : j = k
            · subst e; exact h1
            · exact HJ.out j hj (by omega))
          have HNo : Hid (headPlB n (preds[k]'hlt) = false → R = false) := hide (fun h1 => by rw [HI2.out]; exact all_no hlt h1)
          have HPl : Hid (headPlB n (preds[k]'hlt) = (conB (preds[k]'hlt).cls && (preds[k]'hlt).ty.con == [] && (preds[k]'hlt).ty.args.isEmpty && decide (0 ≤ (preds[k]'hlt).ty.var) && decide ((preds[k]'hlt).ty.var < n))) := hide rfl
          have hpc : (preds[k]'hlt).cls.length ≤ 1000000000000000000 := (HPs.out.all _ (List.getElem_mem hlt)).cls
          generalize preds[k]'hlt = p at *
          generalize headPlB n p = D at *
          have HN := hide (fun w' => r_con03 p.cls w' (by omega))
          obtain ⟨WB, hWB⟩ : ∃ WB, WB = wr.alloc (.cells #[.string ⟨p.ty.con.toArray⟩, .int .i64 p.ty.var, .slice p.ty.A p.ty.args.length p.ty.cap] 37) := ⟨_, rfl⟩
          have XB : Hid (Ext wr WB) := hide (by rw [hWB]; exact (Ext.refl _).alloc _)
          have BT : Hid (TBox WB wr.heap.size p.ty) := hide (by rw [hWB]; exact TBox.new wr p.ty)
          have YB := hide (XR.out.trans XB.out)
          have YB2 := hide (HX.out.trans XB.out)
          have g2 := XB.out.cell c2
          have g3 := XB.out.cell c3
          have r0 := XB.out.cell q0
          have hgl : w.heap.size < WB.heap.size := by have := XB.out.size; omega
          have hgb : b < WB.heap.size := by have := XB.out.size; omega
          go_upto_region 7 with fail
          rw [← hWB]
          clear hWB c2 c3 q0 q1 q2 q3 hbl hb
          have t0 := BT.out.c0
          have t1 := BT.out.c1
          have t2 := BT.out.c2
          have hbt := BT.out.lt
          have HPl0 : Hid (D = (conB p.cls && p.ty.con == [] && decide (p.ty.args.length = 0) && decide (0 ≤ p.ty.var) && decide (p.ty.var < n))) := hide (by
            rw [HPl.out]
            congr 3
            cases p.ty.args <;> simp)
          clear HPl BT
          have HPl := HPl0
          clear HPl0
          generalize p.ty.args.length = L at *
          go_wp2_with fail
          refine (HN.out WB).mono ?_
          rintro e w2 ⟨rfl, rfl⟩
          cases h1 : conB p.cls
          · have hD : D = false := by rw [HPl.out]; simp [h1]
            have hR := HNo.out hD
            clear HNo HI2 HJ2 HPl
            subst hR
            go_wp2
            go_ret
            exact ⟨rfl, YB.out⟩
          · cases h2 : (p.ty.con == ([] : Str))
            · have h2' : (p.ty.con != ([] : Str)) = true := by rw [bne, h2]; rfl
              have hD : D = false := by rw [HPl.out]; simp [h2]
              have hR := HNo.out hD
              clear HNo HI2 HJ2 HPl
              subst hR
              go_wp2
              go_ret
              exact ⟨rfl, YB.out⟩
            · have h2' : (p.ty.con != ([] : Str)) = false := by rw [bne, h2]; rfl
              by_cases h3 : (0 : Int) < (L : Int)
              · have hD : D = false := by
                  rw [HPl.out]
                  have : ¬ L = 0 := by omega
                  simp [this]
                have hR := HNo.out hD
                clear HNo HI2 HJ2 HPl
                subst hR
                go_wp2
                go_ret
                exact ⟨rfl, YB.out⟩
              · have h3' : (L : Int) ≤ 0 := by omega
                have h3e : L = 0 := by omega
                have HPl2 : Hid (D = (decide (0 ≤ p.ty.var) && decide (p.ty.var < n))) := hide (by rw [HPl.out, h1, h2, decide_eq_true h3e]; simp)
                clear HPl h3e
                by_cases h4 : p.ty.var < 0
                · have hD : D = false := by rw [HPl2.out]; simp; omega
                  have hR := HNo.out hD
                  clear HNo HI2 HJ2 HPl2
                  subst hR
                  go_wp2
                  go_ret
                  exact ⟨rfl, YB.out⟩
                · have h4' : (0 : Int) ≤ p.ty.var := by omega
                  by_cases h5 : n ≤ p.ty.var
                  · have hD : D = false := by rw [HPl2.out]; simp; omega
                    have hR := HNo.out hD
                    clear HNo HI2 HJ2 HPl2
                    subst hR
                    go_wp2
                    go_ret
                    exact ⟨rfl, YB.out⟩
                  · have h5' : p.ty.var < n := by omega
                    have hD : D = true := by rw [HPl2.out]; simp; omega
                    have HJ3 := hide (HJ2.out hD)
                    clear HNo HJ2 HPl2
                    go_wp2
                    go_roundw
                    case rel => exact ⟨k + 1, hlt, by go_num, YB2, HJ3⟩
                    case measure => simp [intOf]; omega
        · have hge : ¬ (k : Int) < (preds.length : Int) := by omega
          have hR : R = true := by
            rw [HI2.out, List.all_eq_true]
            intro y hy
            obtain ⟨i, hi, rfl⟩ := List.getElem_of_mem hy
            exact HJ.out i hi (by omega)
          clear HI2
          subst hR
          go_wp2
          go_ret
          exact ⟨rfl, XR.out⟩

end Go.Proofs.YtpdcjjgkpbpleaaGreatDoor

/- Contracts of the reference: where a class stands; an instance's predicates with types put in. -/
namespace Go.Proofs.YtpdcjjgkpbpleaaGreatDoor
open Go.RowKit

set_option maxHeartbeats 1000000 in
theorem r_atK (A : Option Addr) (cap : Nat) (l : List KlD) (name : Str) (w : World) (h : KlsIn w A l) (hle : l.length ≤ 9223372036854775807) :
    Calls Tryz.prog 49 #[.slice A l.length cap, encStr name] w fun e w' => (∃ n : Int, e = .returned (.int .i64 n) ∧ (clF l name = none → n = -1) ∧ ∀ c, clF l name = some c → ∃ (i : Nat) (hi : i < l.length), n = (i : Int) ∧ l[i]'hi = c) ∧ w' = w := by
  have Hr := hide h
  obtain ⟨F, hF⟩ : ∃ F, F = clF l name := ⟨_, rfl⟩
  rw [← hF]
  have HF : Hid (F = (l.drop 0).find? fun c => c.name == name) := hide (by rw [hF, List.drop_zero]; rfl)
  clear hF h
  go_enter Tryz.func49, Tryz.ntmps49
  go_wp2
  go_loop [5] (fun i => ∃ j : Nat, j ≤ l.length ∧ i = .int .i64 j ∧ Hid (F = (l.drop j).find? fun c => c.name == name)) (fun i => l.length - (intOf i).toNat)
  case atStart => exact ⟨0, Nat.zero_le _, rfl, HF⟩
  case round =>
    obtain ⟨j, hj, rfl, HR⟩ := hrel
    by_cases hlt : j < l.length
    · obtain ⟨b, o, rfl, hb, hc, hc1, hc2⟩ := Hr.out.at_ hlt
      have hlt' : (j : Int) < (l.length : Int) := by omega
      have HR2 : Hid (F = if ((l[j]'hlt).name == name) = true then some (l[j]'hlt) else (l.drop (j + 1)).find? fun c => c.name == name) := hide (by
        rw [HR.out, List.drop_eq_getElem_cons hlt, List.find?_cons]
        cases ((l[j]'hlt).name == name) <;> rfl)
      have Hj : Hid (∃ (hi : j < l.length), l[j]'hi = l[j]'hlt) := hide ⟨hlt, rfl⟩
      generalize l[j]'hlt = c at *
      clear hc1 hc2
      cases hs : (c.name == name)
      · rw [hs] at HR2
        go_wp2
        go_round
        case rel => exact ⟨j + 1, hlt, by go_num, hide (by have := HR2.out; simpa using this)⟩
        case measure => simp [intOf]; omega
      · rw [hs] at HR2
        have hF : F = some c := by have := HR2.out; simpa using this
        clear HR HR2 HF
        subst hF
        go_wp2
        go_ret
        refine ⟨⟨_, rfl, ?_⟩, rfl⟩
        first
          | exact ⟨fun h => by cases h, fun c' h => by injection h with h; subst h; exact ⟨j, Hj.out.1, rfl, Hj.out.2⟩⟩
          | exact ⟨j, rfl, Hj.out.1, Hj.out.2⟩
    · have hge : (l.length : Int) ≤ (j : Int) := by omega
      have hF : F = none := by have := HR.out; rw [List.drop_eq_nil_of_le (by omega)] at this; simpa using this
      clear HR HF
      subst hF
      go_wp2
      go_ret
      first
        | exact ⟨⟨_, rfl, fun _ => rfl, fun c h => by cases h⟩, rfl⟩
        | exact ⟨⟨_, rfl, rfl⟩, rfl⟩
        | exact ⟨rfl, rfl⟩

/-! ### Types in order -/
structure SetN (types : List Ty) (k : Nat) (s : List Pr) : Prop where
  rise : RiseP s
  len : s.length = k
  mem : ∀ p ∈ s, ∃ (i : Nat) (h : i < types.length), i < k ∧ p = ⟨(i : Int), types[i]'h⟩
  has : ∀ (i : Nat) (h : i < types.length), i < k → (⟨(i : Int), types[i]'h⟩ : Pr) ∈ s
theorem SetN.zero (types : List Ty) : SetN types 0 [] := ⟨List.Pairwise.nil, rfl, by simp, fun i _ h => absurd h (by omega)⟩
theorem SetN.nope {types : List Ty} {k : Nat} {s : List Pr} (h : SetN types k s) : putAt (vsP s) (tsP s) (k : Int) = none := by
  rw [putAt_no h.rise]
  intro p hp e
  obtain ⟨i, hi, hik, rfl⟩ := h.mem p hp
  have : (i : Int) = (k : Int) := e
  omega
theorem SetN.at_ {types : List Ty} {k : Nat} {s : List Pr} (h : SetN types k s) (i : Nat) (hi : i < types.length) (hik : i < k) : putAt (vsP s) (tsP s) (i : Int) = some (types[i]'hi) :=
  (putAt_some h.rise).2 ⟨_, h.has i hi hik, rfl, rfl⟩
theorem SetN.step {types : List Ty} {k : Nat} {s : List Pr} (h : SetN types k s) (hk : k < types.length) {i : Nat} (hl : LbP s (k : Int) i) : SetN types (k + 1) (insP s i (k : Int) (types[k]'hk)) := by
  have hn : hasAt s (k : Int) i = false := by
    have h1 := hasAt_iff h.rise hl
    rw [h.nope] at h1
    cases e : hasAt s (k : Int) i
    · rfl
    · exact absurd (h1.1 e) (by simp)
  refine ⟨insP_rise h.rise hl hn, by rw [insP_len hl.le, h.len], fun p hp => ?_, fun j hj hjk => ?_⟩
  · rcases insP_mem.1 hp with rfl | hp
    · exact ⟨k, hk, by omega, rfl⟩
    · obtain ⟨j, hj, hjk, e⟩ := h.mem p hp
      exact ⟨j, hj, by omega, e⟩
  · rw [insP_mem]
    by_cases e : j = k
    · subst e; exact .inl rfl
    · exact .inr (h.has j hj (by omega))
theorem SetN.legal {types : List Ty} {k : Nat} {s : List Pr} (h : SetN types k s) (ht : ∀ t ∈ types, legalT t = true) : ∀ p ∈ s, legalT p.ty = true := by
  intro p hp
  obtain ⟨i, hi, -, rfl⟩ := h.mem p hp
  exact ht _ (List.getElem_mem hi)
theorem head_parts {n : Int} {p : Pd} (h : headPlB n p = true) : ∃ (v : Nat) (A : Option Addr) (c : Nat), p.ty = .mk [] v A c [] ∧ (v : Int) < n := by
  unfold headPlB at h
  simp only [Bool.and_eq_true, decide_eq_true_eq] at h
  obtain ⟨⟨⟨⟨-, h1⟩, h2⟩, h3⟩, h4⟩ := h
  obtain ⟨cls, s, v, A, c, l⟩ := p
  have h1 : (s == ([] : Str)) = true := h1
  have h2 : l.isEmpty = true := h2
  have e1 : s = [] := by simpa using h1
  have e2 : l = [] := by simpa using h2
  subst e1 e2
  have h3 : 0 ≤ v := h3
  have h4 : v < n := h4
  exact ⟨v.toNat, A, c, by rw [Int.toNat_of_nonneg h3], by omega⟩
/-- What an instance wants of the types that are put in. -/
def WithOk (types : List Ty) (preds ds : List Pd) : Prop := ds.length = preds.length ∧ ∀ i (h1 : i < ds.length) (h2 : i < preds.length), (ds[i]'h1).cls = (preds[i]'h2).cls ∧ ∃ h : (preds[i]'h2).ty.var.toNat < types.length, (ds[i]'h1).ty.pure = (types[(preds[i]'h2).ty.var.toNat]'h).pure
theorem SetN.puts {types : List Ty} {n : Int} {s : List Pr} (h : SetN types types.length s) (hn : n ≤ types.length) (ht : ∀ t ∈ types, legalT t = true) {preds : List Pd} (hp : ∀ p ∈ preds, headPlB n p = true) : putsOk s preds := by
  intro p hpm
  obtain ⟨v, A, c, e, hv⟩ := head_parts (hp p hpm)
  have hvl : v < types.length := by omega
  have hat := h.at_ v hvl hvl
  obtain ⟨l1, l2, -⟩ := legal_parts (ht _ (List.getElem_mem hvl))
  rw [e]
  refine ⟨legal_var _ _ _, ?_, ?_⟩
  · rw [szS_eq, if_pos (show (Ty.mk [] (v : Int) A c []).con = [] from rfl)]
    show (match putAt (vsP s) (tsP s) (v : Int) with | some u => u.size | none => 1) ≤ 4096
    rw [hat]
    exact l1
  · rw [dpS_eq, if_pos (show (Ty.mk [] (v : Int) A c []).con = [] from rfl)]
    show (match putAt (vsP s) (tsP s) (v : Int) with | some u => u.depth | none => 1) ≤ 100
    rw [hat]
    exact l2
theorem SetN.with_ {types : List Ty} {n : Int} {s : List Pr} (h : SetN types types.length s) (hn : n ≤ types.length) {preds ds : List Pd} (hp : ∀ p ∈ preds, headPlB n p = true) (hd : ds.map (fun d => (d.cls, d.ty.pure)) = preds.map fun x => (x.cls, putP (vsP s) (tsP s) x.ty)) : WithOk types preds ds := by
  have hl : ds.length = preds.length := by simpa using congrArg List.length hd
  refine ⟨hl, fun i h1 h2 => ?_⟩
  have e : (ds.map (fun d => (d.cls, d.ty.pure)))[i]? = (preds.map fun x => (x.cls, putP (vsP s) (tsP s) x.ty))[i]? := by rw [hd]
  rw [List.getElem?_map, List.getElem?_map, List.getElem?_eq_getElem h1, List.getElem?_eq_getElem h2] at e
  simp only [Option.map_some, Option.some.injEq, Prod.mk.injEq] at e
  obtain ⟨v, A, c, et, hv⟩ := head_parts (hp _ (List.getElem_mem h2))
  have hvl : v < types.length := by omega
  refine ⟨e.1, ?_⟩
  rw [e.2, et]
  refine ⟨hvl, ?_⟩
  rw [putP_eq, if_pos (show (Ty.mk [] (v : Int) A c []).con = [] from rfl)]
  show ((putAt (vsP s) (tsP s) (v : Int)).getD _).pure = _
  rw [h.at_ v hvl hvl]
  rfl

set_option maxRecDepth 10000 in
set_option maxHeartbeats 4000000 in
theorem r_with23 (x : InD) (T : Option Addr) (tc : Nat) (types : List Ty) (w : World) (hx : InIn w x) (hi : instB x = true) (hT : TysIn w T types) (hn : x.n = types.length) (ht : ∀ t ∈ types, legalT t = true ∧ t.size ≤ 900000) (hpl : x.preds.length ≤ 40000) :
    Calls Tryz.prog 81 #[inV x, .slice T types.length tc] w fun e w' => (∃ A cap ds, e = .returned (.slice A ds.length cap) ∧ PdsIn w' A ds ∧ WithOk types x.preds ds) ∧ Ext w w' := by
  have hn100 : types.length ≤ 100 := by
    unfold instB instHd at hi
    simp only [Bool.and_eq_true, decide_eq_true_eq] at hi
    have := hi.1.2
    omega
  have hheads : ∀ p ∈ x.preds, headPlB x.n p = true := by
    unfold instB at hi
    rw [Bool.and_eq_true, List.all_eq_true] at hi
    exact hi.2
  have Hh := hide hheads
  obtain ⟨W, hW⟩ : ∃ W, W = w.alloc (.cells #[encStr x.cls, encStr x.con, .int .i64 x.n, .slice x.A x.preds.length x.cap] 56) := ⟨_, rfl⟩
  have HW := hide hW.symm
  have X0 : Hid (Ext w W) := hide (by rw [hW]; exact (Ext.refl _).alloc _)
  have B1 : Hid (InBox W w.heap.size x) := hide (by rw [hW]; exact InBox.new w x)
  have HT := hide hT
  have Ht := hide ht
  have HP := hide hx.row
  have Hn := hide hn
  clear hW hx hi hT ht hheads hn
  unfold inV
  go_enter Tryz.func81, Tryz.ntmps81
  go_upto_region 1 with fail
  rw [HW.out]
  clear HW
  go_wp2
  go_loopw [5, 6] (fun v i wr => ∃ (k : Nat) (s : List Pr) (A : Option Addr) (cap : Nat), k ≤ types.length ∧ i = .int .i64 k ∧ v = .slice A s.length cap ∧ s.length ≤ cap ∧ cap ≤ 9223372036854775807 ∧ Hid (Ext W wr) ∧ Hid (PrsIn wr A s) ∧ Hid (SetN types k s)) (fun _ i _ => types.length - (intOf i).toNat)
  case atStart => exact ⟨0, [], none, 0, Nat.zero_le _, rfl, rfl, Nat.le_refl _, by omega, hide (Ext.refl _), hide ⟨RowOf.nil _ _ _, by simp⟩, hide (SetN.zero _)⟩
  case round =>
    obtain ⟨k, s, A, cap, hk, rfl, rfl, h1, h2, HX, HS, HN⟩ := hrel
    have XR := hide (X0.out.trans HX.out)
    by_cases hlt : k < types.length
    · have hlt' : (k : Int) < (types.length : Int) := by omega
      have hk0 : (0 : Int) ≤ (k : Int) := by omega
      obtain ⟨b, o, rfl, hb, q0, q1, q2⟩ := (HT.out.ext XR.out).at_ hlt
      have htk := Ht.out _ (List.getElem_mem hlt)
      have HC := hide (r_set17 A cap s (k : Int) (types[k]'hlt) wr HS.out h1 h2 HN.out.rise ((HT.out.args _ (List.getElem_mem hlt)).ext XR.out) htk.2 htk.1 (by have := HN.out.len; omega) HN.out.nope)
      have HNs := hide (fun i (hl : LbP s (k : Int) i) => HN.out.step hlt hl)
      generalize types[k]'hlt = t at *
      unfold tyV at HC
      go_wp2_with fail
      refine HC.out.mono ?_
      rintro e w5 ⟨⟨i, A5, c5, rfl, hlb, hps, h3, h4⟩, hx⟩
      have X5 := hide (HX.out.trans hx)
      have HS5 := hide hps
      have HN5 := hide (HNs.out i hlb)
      clear hlb hps hx HC q0 q1 q2 htk
      go_wp2
      go_roundw
      case rel => exact ⟨k + 1, _, A5, c5, hlt, by go_num, rfl, h3, h4, X5, HS5, HN5⟩
      case measure => simp [intOf]; omega
    · have hge : ¬ (k : Int) < (types.length : Int) := by omega
      obtain ⟨d0, d1, d2, d3⟩ := (B1.out.ext HX.out).cells
      have ld := (B1.out.ext HX.out).lt
      have HNf : Hid (SetN types types.length s) := hide (by have := HN.out; rwa [show k = types.length by omega] at this)
      have hnl : x.n ≤ (types.length : Int) := by have := Hn.out; omega
      have HC := hide (r_preds17 A cap s x.A x.cap x.preds wr HS.out (by omega) (HNf.out.legal (fun t h => (Ht.out t h).1)) (HP.out.ext XR.out) hpl (HNf.out.puts hnl (fun t h => (Ht.out t h).1) Hh.out))
      go_wp2_with fail
      refine HC.out.mono ?_
      rintro e w5 ⟨⟨v, ds, rfl, hown, hds⟩, hx⟩
      obtain ⟨A9, c9, rfl, -, -, hrow, -⟩ := RowOf.own pdC hown
      have HWo := hide (HNf.out.with_ hnl Hh.out hds.is)
      have HR : Hid (PdsIn w5 A9 ds) := hide ⟨hrow, fun d hd => ⟨by
        obtain ⟨i, hi, rfl⟩ := List.mem_iff_getElem.1 hd
        have h2 : i < x.preds.length := by rw [← HWo.out.1]; exact hi
        rw [(HWo.out.2 i hi h2).1]
        exact (HP.out.all _ (List.getElem_mem h2)).cls, hds.ty d hd⟩⟩
      have X5 := hide (XR.out.trans hx)
      clear hown hds hrow hx HC d0 d1 d2 d3 ld
      go_wp2
      go_ret
      exact ⟨⟨A9, c9, ds, rfl, HR.out, HWo.out⟩, X5.out⟩

end Go.Proofs.YtpdcjjgkpbpleaaGreatDoor

/- Contracts of the reference: predicates that are the same; what a proof by an instance is of. -/
namespace Go.Proofs.YtpdcjjgkpbpleaaGreatDoor
open Go.RowKit

set_option maxRecDepth 10000 in
set_option maxHeartbeats 1000000 in
theorem r_same20F (a b : Pd) (w : World) (ha : TyIn w a.ty) (hb : TyIn w b.ty) :
    Calls Tryz.prog 10 #[pdV a, pdV b] w fun e w' => e = .returned (.bool (a.cls == b.cls && sameB a.ty b.ty)) ∧ Ext w w' := by
  obtain ⟨W, hW⟩ : ∃ W, W = (w.alloc (.cells #[encStr a.cls, encStr a.ty.con, .int .i64 a.ty.var, .slice a.ty.A a.ty.args.length a.ty.cap] 39)).alloc (.cells #[encStr b.cls, encStr b.ty.con, .int .i64 b.ty.var, .slice b.ty.A b.ty.args.length b.ty.cap] 39) := ⟨_, rfl⟩
  have HW := hide hW.symm
  have X0 : Hid (Ext w W) := hide (by rw [hW]; exact ((Ext.refl _).alloc _).alloc _)
  have B1 : Hid (PdBox W w.heap.size a) := hide (by rw [hW]; exact (PdBox.new w a).ext ((Ext.refl _).alloc _))
  have B2 : Hid (PdBox W (w.heap.size + 1) b) := hide (by rw [hW]; exact at_newB _ _ _ (by simp))
  have HS := hide (r_same16 a.ty b.ty W (ha.ext X0.out) (hb.ext X0.out))
  obtain ⟨c0, c1, c2, c3⟩ := B1.out.cells
  obtain ⟨d0, d1, d2, d3⟩ := B2.out.cells
  have hb1 := B1.out.lt
  have hb2 := B2.out.lt
  clear hW ha hb
  unfold tyV at HS
  unfold pdV
  generalize sameB a.ty b.ty = R at *
  cases hq : (a.cls == b.cls)
  · go_enter Tryz.func10, Tryz.ntmps10
    go_upto_region 1 with fail
    rw [HW.out]
    go_wp2
    go_ret
    exact ⟨rfl, X0.out⟩
  · go_enter Tryz.func10, Tryz.ntmps10
    go_upto_region 1 with fail
    rw [HW.out]
    go_wp2_with fail
    refine HS.out.mono ?_
    rintro e w2 ⟨rfl, hx⟩
    go_wp2
    go_ret
    exact ⟨rfl, X0.out.trans hx⟩

theorem same_want {types : List Ty} {preds ds : List Pd} (h : WithOk types preds ds) {k : Nat} (h1 : k < ds.length) (h2 : k < preds.length) (a : Pd) : (a.cls == (ds[k]'h1).cls && sameB a.ty (ds[k]'h1).ty) = wantB types (preds[k]'h2) (some a) := by
  obtain ⟨e1, hv, e2⟩ := h.2 k h1 h2
  show _ = ((a.cls == (preds[k]'h2).cls) && sameB a.ty (types.getD (preds[k]'h2).ty.var.toNat Ty.zero))
  rw [e1, show types.getD (preds[k]'h2).ty.var.toNat Ty.zero = types[(preds[k]'h2).ty.var.toNat]'hv by simp [List.getD, hv]]
  congr 1
  rw [Bool.eq_iff_iff, sameB_iff, sameB_iff, e2]
/-- What the reference tells. -/
structure RvOk (O : Option Pd) (a : Pd) : Prop where
  eq : ∀ q, O = some q → a = q
/-- No type of a proof is too great. -/
noncomputable def smallF : Pf → Bool := Pf.fold fun t l => t.types.all (fun x => decide (x.size ≤ 900000)) && l.all id
theorem smallF_eq (t : Pf) : smallF t = (t.types.all (fun x => decide (x.size ≤ 900000)) && t.kids.all smallF) := by
  unfold smallF
  rw [Pf.fold_eq, List.all_map]
  rfl
theorem smallF_parts {t : Pf} (h : smallF t = true) : (∀ x ∈ t.types, x.size ≤ 900000) ∧ ∀ k ∈ t.kids, smallF k = true := by
  rw [smallF_eq, Bool.and_eq_true, List.all_eq_true, List.all_eq_true] at h
  exact ⟨fun x hx => of_decide_eq_true (h.1 x hx), h.2⟩
def RvC (x : EnD) (G : Option Addr) (gc : Nat) (given : List Pd) (f : FuncId) (O : Option Pd) (p : Pf) : Prop :=
  ∀ (w : World), EnIn w x → PdsIn w G given → PfIn w p → smallF p = true → Calls Tryz.prog f #[enV x, .slice G given.length gc, pfV p] w fun e w' => (∃ a, e = .returned (.tuple #[pdV a, .bool O.isSome]) ∧ RvOk O a) ∧ Ext w w'
theorem RvOk.no {a : Pd} : RvOk none a := ⟨fun q h => by cases h⟩
theorem RvOk.yes (a : Pd) : RvOk (some a) a := ⟨fun q h => by injection h⟩

end Go.Proofs.YtpdcjjgkpbpleaaGreatDoor
