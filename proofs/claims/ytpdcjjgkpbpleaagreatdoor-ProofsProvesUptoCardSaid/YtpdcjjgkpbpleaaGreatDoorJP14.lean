/- Contracts of proofs: a class; what is proved, and where it lies. (A program of ours has printed a part.) -/
import Derived.Test.YtpdcjjgkpbpleaaGreatDoorJP13
import Derived.RegionTactic
import Derived.Deep.DeepCutAuto
import Derived.Deep.RegionHeld3
/- Contracts of proofs: a class; what is proved, and where it lies. (A program of ours has printed a part.) -/
namespace Go.Proofs.YtpdcjjgkpbpleaaGreatDoor
open Go.RowKit

set_option maxRecDepth 10000 in
set_option maxHeartbeats 2000000 in
theorem f_class (x : EnD) (name : Str) (w : World) (h : EnIn w x) :
    Calls Tryz.prog 65 #[enV x, encStr name] w fun e w' => e = .returned (.tuple #[klV ((clF x.classes name).getD KlD.zero), .bool (clF x.classes name).isSome]) ∧ Ext w w' := by
  obtain ⟨D, dc, datas, C, cc, cls, I, ic, insts⟩ := x
  obtain ⟨W, hW⟩ : ∃ W, W = (w.alloc (.cells #[.slice D datas.length dc, .slice C cls.length cc, .slice I insts.length ic] 26)).alloc (.cells #[.string ⟨#[]⟩, .slice none 0 0, .slice none 0 0] 54) := ⟨_, rfl⟩
  have HW := hide hW.symm
  have X0 : Hid (Ext w W) := hide (by rw [hW]; exact ((Ext.refl _).alloc _).alloc _)
  have B1 : Hid (EnBox W w.heap.size ⟨D, dc, datas, C, cc, cls, I, ic, insts⟩) := hide (by rw [hW]; exact (EnBox.new w _).ext ((Ext.refl _).alloc _))
  have B2 : Hid (W.heap[w.heap.size + 1]? = some (.cells #[.string ⟨#[]⟩, .slice none 0 0, .slice none 0 0] 54 (0, 0))) := hide (by rw [hW]; exact at_newB _ _ _ (by simp))
  have HC := hide (h.classes.ext X0.out)
  have hle := h.cle
  have hmx := h.cmax
  obtain ⟨c0, c1, c2⟩ := B1.out.cells
  have hbl := B1.out.lt
  clear hW h
  simp only [] at *
  obtain ⟨F, hF⟩ : ∃ F, F = clF cls name := ⟨_, rfl⟩
  rw [← hF]
  have HF : Hid (F = (cls.drop 0).find? fun c => c.name == name) := hide (by rw [hF, List.drop_zero]; rfl)
  clear hF
  unfold enV klV
  go_enter Tryz.func65, Tryz.ntmps65
  go_upto_region 1 with fail
  rw [HW.out]
  clear HW
  go_wp2
  go_loopw [7, 11] (fun t7 i wr => ∃ k : Nat, k ≤ cls.length ∧ i = .int .i64 k ∧ Hid (Ext W wr) ∧ Hid (F = (cls.drop k).find? fun c => c.name == name)) (fun _ i _ => cls.length - (intOf i).toNat)
  case atStart => exact ⟨0, Nat.zero_le _, rfl, hide (Ext.refl _), HF⟩
  case round =>
    obtain ⟨k, hk, rfl, HX, HR⟩ := hrel
    have B3 := hide ((HX.out.heap (lt_of_obj B2.out)).trans B2.out)
    have hb3 := lt_of_obj B3.out
    have f0 := free_block B3.out 0
    have f1 := free_block B3.out 1
    have f2 := free_block B3.out 2
    have k0 := bytes_block B3.out 0
    have k1 := bytes_block B3.out 1
    have k2 := bytes_block B3.out 2
    simp only [List.getElem?_toArray, List.getElem?_cons_zero, List.getElem?_cons_succ] at k0 k1 k2
    by_cases hlt : k < cls.length
    · have hlt' : (k : Int) < (cls.length : Int) := by omega
      have hk0 : (0 : Int) ≤ (k : Int) := by omega
      obtain ⟨b, o, rfl, hb, q0, q1, q2⟩ := (HC.out.ext HX.out).at_ hlt
      have HR2 : Hid (F = if ((cls[k]'hlt).name == name) = true then some (cls[k]'hlt) else (cls.drop (k + 1)).find? fun c => c.name == name) := hide (by
        rw [HR.out, List.drop_eq_getElem_cons hlt, List.find?_cons]
        cases ((cls[k]'hlt).name == name) <;> rfl)
      generalize cls[k]'hlt = c at *
      cases hc : (c.name == name)
      · rw [hc] at HR2
        go_wp2
        go_roundw
        case rel => exact ⟨k + 1, hlt, by go_num, hide (HX.out.trans (by repeat (first | exact Ext.refl _ | exact Ext.pre (by simp) | exact Ext.alloc (by assumption) _ | refine Ext.alloc ?_ _ |  refine Ext.more ?_ _ _ | refine Ext.drew ?_ | refine Ext.drewN ?_ _))), hide (by have := HR2.out; simpa using this)⟩
        case measure => simp [intOf]; omega
      · rw [hc] at HR2
        have hF : F = some c := by have := HR2.out; simpa using this
        clear HR2 HR HF
        subst hF
        go_wp2
        refine bodyPost_ret (v := .tuple #[.agg #[encStr c.name, .slice c.S c.sups.length c.sc, .slice c.A c.meths.length c.cap], .bool true]) ?_ rfl ⟨rfl, ?_⟩
        · simp [results, Tryz.f65, go_sem, k0, k1, k2, hb3]
        · exact (((((X0.out.trans HX.out)).setCell (by simp) _).setCell (by simp) _).setCell (by simp) _).alloc _
    · have hge : ¬ (k : Int) < (cls.length : Int) := by omega
      have hF : F = none := by rw [HR.out, List.drop_eq_nil_of_le (by omega)]; rfl
      clear HR HF
      subst hF
      go_wp2
      refine bodyPost_ret (v := .tuple #[.agg #[.string ⟨#[]⟩, .slice none 0 0, .slice none 0 0], .bool false]) ?_ rfl ⟨rfl, ?_⟩
      · simp [results, Tryz.f65, go_sem, k0, k1, k2]
      · exact ((((X0.out.trans HX.out)).setCell (by simp) _).setCell (by simp) _).setCell (by simp) _

/-- What prove tells: what a proof is of, or the refusal. -/
def PrvOk (o : Option Pd) (q : Pd) (er : Value) : Prop := match o with
  | some a => q = a ∧ er = .nilIface
  | none => er = (.iface 71 (.agg #[.int .i64 1]))
theorem PrvOk.some {a q : Pd} {er : Value} (h : PrvOk (some a) q er) : q = a ∧ er = .nilIface := h
theorem PrvOk.none {q : Pd} {er : Value} (h : PrvOk none q er) : er = (.iface 71 (.agg #[.int .i64 1])) := h
/-- What is proved lies where all else lies. -/
theorem prv_in {w : World} {x : EnD} {G : Option Addr} {given : List Pd} (he : EnIn w x) (hg : PdsIn w G given) (p : Pf) : PfIn w p → ∀ a, prv x.classes x.insts given p = some a → PdIn w a := by
  induction p using Pf.ind with
  | h p ih =>
  intro hp a ha
  rw [prv_eq] at ha
  obtain ⟨ha, -⟩ := Option.filter_eq_some_iff.1 ha
  unfold prv0 at ha
  split at ha
  · unfold givenR at ha
    split at ha
    · exact hg.all _ (atZ_mem ha)
    · cases ha
  · split at ha
    · unfold aboveR at ha
      split at ha
      · rename_i hc
        obtain ⟨q, hq, ha⟩ := Option.bind_eq_some_iff.1 ha
        obtain ⟨c, hcl, ha⟩ := Option.bind_eq_some_iff.1 ha
        obtain ⟨s, hs, rfl⟩ := Option.map_eq_some_iff.1 ha
        have h0 : 0 < p.kids.length := by omega
        have e : (p.kids.map (prv x.classes x.insts given)).getD 0 none = prv x.classes x.insts given (p.kids[0]'h0) := by simp [List.getD, h0]
        rw [e] at hq
        have h1 := ih _ (List.getElem_mem h0) (hp.all.kids _ (List.getElem_mem h0)) q hq
        exact ⟨(he.classes.all _ (clF_mem hcl)).stxt _ (atZ_mem hs), h1.ty⟩
      · cases ha
    · split at ha
      · unfold instR at ha
        obtain ⟨y, hy, ha⟩ := Option.bind_eq_some_iff.1 ha
        split at ha
        · injection ha with ha
          subst ha
          have hi := he.insts.all _ (atZ_mem hy)
          exact ⟨hi.txt, TyIn.of hp.hd.tle hp.hd.tmax (by have := hi.ctxt; omega) hp.hd.types.row hp.hd.types.args⟩
        · cases ha
      · cases ha
theorem above_in {w : World} {x : EnD} {G : Option Addr} {given : List Pd} (he : EnIn w x) (hg : PdsIn w G given) {p : Pf} (hp : PfIn w p) {a : Pd} (ha : aboveR x.classes p (p.kids.map (prv x.classes x.insts given)) = some a) : PdIn w a := by
  unfold aboveR at ha
  split at ha
  · rename_i hc
    obtain ⟨q, hq, ha⟩ := Option.bind_eq_some_iff.1 ha
    obtain ⟨c, hcl, ha⟩ := Option.bind_eq_some_iff.1 ha
    obtain ⟨s, hs, rfl⟩ := Option.map_eq_some_iff.1 ha
    have h0 : 0 < p.kids.length := by omega
    have e : (p.kids.map (prv x.classes x.insts given)).getD 0 none = prv x.classes x.insts given (p.kids[0]'h0) := by simp [List.getD, h0]
    rw [e] at hq
    have h1 := prv_in he hg _ (hp.all.kids _ (List.getElem_mem h0)) q hq
    exact ⟨(he.classes.all _ (clF_mem hcl)).stxt _ (atZ_mem hs), h1.ty⟩
  · cases ha
theorem inst_in {w : World} {x : EnD} (he : EnIn w x) {p : Pf} (hp : PfIn w p) {l : List (Option Pd)} {a : Pd} (ha : instR x.insts p l = some a) : PdIn w a := by
  unfold instR at ha
  obtain ⟨y, hy, ha⟩ := Option.bind_eq_some_iff.1 ha
  split at ha
  · injection ha with ha
    subst ha
    have hi := he.insts.all _ (atZ_mem hy)
    exact ⟨hi.txt, TyIn.of hp.hd.tle hp.hd.tmax (by have := hi.ctxt; omega) hp.hd.types.row hp.hd.types.args⟩
  · cases ha
/-- A box of a predicate that is nothing yet. -/
theorem p0_cells {w : World} {b : Nat} (h : w.heap[b]? = some (.cells #[.string ⟨#[]⟩, .string ⟨#[]⟩, .int .i64 0, .slice none 0 0] 39)) : w.cell? ⟨b, 0, none⟩ = some (.string ⟨#[]⟩) ∧ w.cell? ⟨b, 1, none⟩ = some (.string ⟨#[]⟩) ∧ w.cell? ⟨b, 2, none⟩ = some (.int .i64 0) ∧ w.cell? ⟨b, 3, none⟩ = some (.slice none 0 0) ∧ w.frozen? ⟨b, 0, none⟩ = false ∧ w.frozen? ⟨b, 1, none⟩ = false ∧ w.frozen? ⟨b, 2, none⟩ = false ∧ w.frozen? ⟨b, 3, none⟩ = false := by
  refine ⟨?_, ?_, ?_, ?_, ?_, ?_, ?_, ?_⟩ <;> simp [World.cell?, World.frozen?, h]
/-- A predicate is written into a box. -/
def setPd (w : World) (b : Nat) (a : Pd) : World := (((w.setCell ⟨b, 0, none⟩ (encStr a.cls)).setCell ⟨b, 1, none⟩ (encStr a.ty.con)).setCell ⟨b, 2, none⟩ (.int .i64 a.ty.var)).setCell ⟨b, 3, none⟩ (.slice a.ty.A a.ty.args.length a.ty.cap)
theorem ext_set4 {w W : World} {b : Nat} (x : Ext w W) (h : w.heap.size ≤ b) (v0 v1 v2 v3 : Value) : Ext w ((((W.setCell ⟨b, 0, none⟩ v0).setCell ⟨b, 1, none⟩ v1).setCell ⟨b, 2, none⟩ v2).setCell ⟨b, 3, none⟩ v3) :=
  (((x.setCell h _).setCell h _).setCell h _).setCell h _
theorem ext_setPd {w W : World} {b : Nat} (x : Ext w W) (h : w.heap.size ≤ b) (a : Pd) : Ext w (setPd W b a) := ext_set4 x h _ _ _ _
theorem setPd_other {W : World} {b k : Nat} (a : Pd) (h : k ≠ b) : (setPd W b a).heap[k]? = W.heap[k]? := by
  unfold setPd
  rw [Below.heap_setCell _ _ _ _ h, Below.heap_setCell _ _ _ _ h, Below.heap_setCell _ _ _ _ h, Below.heap_setCell _ _ _ _ h]
theorem setPd_size (W : World) (b : Nat) (a : Pd) : (setPd W b a).heap.size = W.heap.size := by unfold setPd; simp [World.setCell]
theorem setPd_box {W : World} {b : Nat} {v0 v1 v2 v3 : Value} (h : W.heap[b]? = some (.cells #[v0, v1, v2, v3] 39 (0, 0))) (a : Pd) : PdBox (setPd W b a) b a := by
  have h1 := blk_setCell h 0 (encStr a.cls)
  have h2 := blk_setCell h1 1 (encStr a.ty.con)
  have h3 := blk_setCell h2 2 (.int .i64 a.ty.var)
  have h4 := blk_setCell h3 3 (.slice a.ty.A a.ty.args.length a.ty.cap)
  unfold PdBox setPd
  simpa using h4
theorem PdBox.free {w : World} {b : Nat} {a : Pd} (h : PdBox w b a) (i : Nat) : w.frozen? ⟨b, i, none⟩ = false := by unfold PdBox at h; simp [World.frozen?, h]
def PrvC (x : EnD) (G : Option Addr) (gc : Nat) (given : List Pd) (fn : FuncId) (o : Option Pd) (p : Pf) : Prop := ∀ (w : World), EnIn w x → PdsIn w G given → PfIn w p →
  Calls Tryz.prog fn #[enV x, .slice G given.length gc, pfV p] w fun e w' => (∃ q er, e = .returned (.tuple #[pdV q, er]) ∧ PrvOk o q er) ∧ Ext w w'

end Go.Proofs.YtpdcjjgkpbpleaaGreatDoor

/- Contract: what a proof is of, if its kind is told of. (A program of ours has printed this.) -/
namespace Go.Proofs.YtpdcjjgkpbpleaaGreatDoor
open Go.RowKit

set_option maxRecDepth 10000 in
set_option maxHeartbeats 4000000 in
theorem p_given (x : EnD) (G : Option Addr) (gc : Nat) (given : List Pd) (p : Pf) (hk : (p.kind == 1) = true) : PrvC x G gc given 22 (prv x.classes x.insts given p) p := by
  intro w he hg hp
  obtain ⟨W, hW⟩ : ∃ W, W = (((w.alloc (.cells #[.slice x.D x.datas.length x.dc, .slice x.C x.classes.length x.cc, .slice x.I x.insts.length x.ic] 26)).alloc (.cells #[.int .i64 p.kind, .int .i64 p.n, .slice p.T p.types.length p.tc, .slice p.A p.kids.length p.cap] 31)).alloc (.cells #[.string ⟨#[]⟩, .string ⟨#[]⟩, .int .i64 0, .slice none 0 0] 39)).alloc (.cells #[.string ⟨#[]⟩, .string ⟨#[]⟩, .int .i64 0, .slice none 0 0] 39) := ⟨_, rfl⟩
  have HW := hide hW.symm
  have X0 : Hid (Ext w W) := hide (by rw [hW]; exact ((((Ext.refl _).alloc _).alloc _).alloc _).alloc _)
  have B1 : Hid (EnBox W w.heap.size x) := hide (by rw [hW]; exact (EnBox.new w x).ext ((((Ext.refl _).alloc _).alloc _).alloc _))
  have B2 : Hid (FBox W (w.heap.size + 1) p) := hide (by rw [hW]; exact FBox.ext (at_newB _ _ _ (by simp)) (((Ext.refl _).alloc _).alloc _))
  have B3 : Hid (W.heap[w.heap.size + 1 + 1]? = some (.cells #[.string ⟨#[]⟩, .string ⟨#[]⟩, .int .i64 0, .slice none 0 0] 39)) := hide (by rw [hW]; exact (((Ext.refl _).alloc _).heap (by simp)).trans (at_newB _ _ _ (by simp)))
  have B4 : Hid (W.heap[w.heap.size + 1 + 1 + 1]? = some (.cells #[.string ⟨#[]⟩, .string ⟨#[]⟩, .int .i64 0, .slice none 0 0] 39)) := hide (by rw [hW]; exact at_newB _ _ _ (by simp))
  have HP := hide (prv_eq x.classes x.insts given p)
  have HsW : Hid (W.heap.size = w.heap.size + 4) := hide (by rw [hW]; simp)
  obtain ⟨c0, c1, c2, c3⟩ := B2.out.cells
  obtain ⟨e0, e1, e2⟩ := B1.out.cells
  obtain ⟨y0, y1, y2, y3, yf0, yf1, yf2, yf3⟩ := p0_cells B3.out
  obtain ⟨z0, z1, z2, z3, zf0, zf1, zf2, zf3⟩ := p0_cells B4.out
  have HG := hide (hg.ext X0.out)
  have HLg := hide (fun (a : Pd) (ha : PdIn w a) w' (e : Ext w w') => hide (p_legalU a w' (ha.ext e)))
  clear hW
  unfold enV pfV
  have HK : Hid (p.kind = 1) := hide (by simpa using hk)
  by_cases h1 : 0 < p.kids.length
  · have HO : Hid (prv x.classes x.insts given p = none) := hide (by rw [HP.out]; unfold prv0; rw [if_pos HK.out]; unfold givenR; rw [if_neg (by omega)]; rfl)
    go_enter Tryz.func22, Tryz.ntmps22
    go_upto_region 3 with fail
    rw [HW.out]
    clear HW
    go_wp2
    refine bodyPost_ret (v := .tuple #[.agg #[.string ⟨#[]⟩, .string ⟨#[]⟩, .int .i64 0, .slice none 0 0], (.iface 71 (.agg #[.int .i64 1]))]) ?_ rfl ⟨⟨⟨[], Ty.zero⟩, _, rfl, by rw [HO.out]; rfl⟩, ?_⟩
    · simp [results, Tryz.f22, go_sem, y0, y1, y2, y3]
    · exact ext_set4 X0.out (by omega) _ _ _ _
  have hkl : p.kids.length = 0 := by omega
  have Hkl := hide hkl
  rw [hkl] at c3
  clear hkl
  by_cases h2 : 0 < p.types.length
  · have HO : Hid (prv x.classes x.insts given p = none) := hide (by rw [HP.out]; unfold prv0; rw [if_pos HK.out]; unfold givenR; rw [if_neg (by omega)]; rfl)
    go_enter Tryz.func22, Tryz.ntmps22
    go_upto_region 3 with fail
    rw [HW.out]
    clear HW
    go_wp2
    refine bodyPost_ret (v := .tuple #[.agg #[.string ⟨#[]⟩, .string ⟨#[]⟩, .int .i64 0, .slice none 0 0], (.iface 71 (.agg #[.int .i64 1]))]) ?_ rfl ⟨⟨⟨[], Ty.zero⟩, _, rfl, by rw [HO.out]; rfl⟩, ?_⟩
    · simp [results, Tryz.f22, go_sem, y0, y1, y2, y3]
    · exact ext_set4 X0.out (by omega) _ _ _ _
  have htl : p.types.length = 0 := by omega
  have Htl := hide htl
  rw [htl] at c2
  clear htl
  have Hn : Hid (prv0 x.classes x.insts given p (p.kids.map (prv x.classes x.insts given)) = atZ given p.n) := hide (by unfold prv0 givenR; rw [if_pos HK.out, if_pos ⟨Hkl.out, Htl.out⟩])
  by_cases h3 : p.n < 0
  · have HO : Hid (prv x.classes x.insts given p = none) := hide (by rw [HP.out]; unfold prv0; rw [if_pos HK.out]; unfold givenR; rw [if_pos ⟨Hkl.out, Htl.out⟩, atZ_none (by omega)]; rfl)
    go_enter Tryz.func22, Tryz.ntmps22
    go_upto_region 3 with fail
    rw [HW.out]
    clear HW
    go_wp2
    refine bodyPost_ret (v := .tuple #[.agg #[.string ⟨#[]⟩, .string ⟨#[]⟩, .int .i64 0, .slice none 0 0], (.iface 71 (.agg #[.int .i64 1]))]) ?_ rfl ⟨⟨⟨[], Ty.zero⟩, _, rfl, by rw [HO.out]; rfl⟩, ?_⟩
    · simp [results, Tryz.f22, go_sem, y0, y1, y2, y3]
    · exact ext_set4 X0.out (by omega) _ _ _ _
  by_cases h4 : p.n ≥ (given.length : Int)
  · have HO : Hid (prv x.classes x.insts given p = none) := hide (by rw [HP.out]; unfold prv0; rw [if_pos HK.out]; unfold givenR; rw [if_pos ⟨Hkl.out, Htl.out⟩, atZ_none (by omega)]; rfl)
    go_enter Tryz.func22, Tryz.ntmps22
    go_upto_region 3 with fail
    rw [HW.out]
    clear HW
    go_wp2
    refine bodyPost_ret (v := .tuple #[.agg #[.string ⟨#[]⟩, .string ⟨#[]⟩, .int .i64 0, .slice none 0 0], (.iface 71 (.agg #[.int .i64 1]))]) ?_ rfl ⟨⟨⟨[], Ty.zero⟩, _, rfl, by rw [HO.out]; rfl⟩, ?_⟩
    · simp [results, Tryz.f22, go_sem, y0, y1, y2, y3]
    · exact ext_set4 X0.out (by omega) _ _ _ _
  obtain ⟨m, hm⟩ : ∃ m : Nat, p.n = (m : Int) := ⟨p.n.toNat, by omega⟩
  have hml : m < given.length := by omega
  have hm1 : (m : Int) < (given.length : Int) := by omega
  have hm0 : (0 : Int) ≤ (m : Int) := by omega
  rw [hm] at c1 Hn
  clear hm h3 h4
  obtain ⟨b, o, eG, hbl, q0, q1, q2, q3⟩ := HG.out.at_ hml
  have Ha := hide (hg.all _ (List.getElem_mem hml))
  have HO0 : Hid (prv x.classes x.insts given p = (some (given[m]'hml)).filter pdB) := hide (by rw [HP.out, Hn.out, atZ_nat _ _ hml])
  clear Hn
  subst eG
  generalize given[m]'hml = a at *
  have X5 : Hid (Ext w (setPd W (w.heap.size + 1 + 1 + 1) a)) := hide (ext_setPd X0.out (by omega) a)
  have B5 : Hid (PdBox (setPd W (w.heap.size + 1 + 1 + 1) a) (w.heap.size + 1 + 1 + 1) a) := hide (setPd_box B4.out a)
  have B6 : Hid ((setPd W (w.heap.size + 1 + 1 + 1) a).heap[w.heap.size + 1 + 1]? = some (.cells #[.string ⟨#[]⟩, .string ⟨#[]⟩, .int .i64 0, .slice none 0 0] 39)) := hide ((setPd_other a (by omega)).trans B3.out)
  have HL := hide (HLg.out a Ha.out _ X5.out)
  go_enter Tryz.func22, Tryz.ntmps22
  go_upto_region 3 with fail
  rw [HW.out]
  clear HW
  cases hb : pdB a
  · rw [hb] at HL
    have HO : Hid (prv x.classes x.insts given p = none) := hide (by rw [HO0.out, Option.filter_some, if_neg (by rw [hb]; decide)])
    clear hb
    go_wp2_with fail
    refine HL.out.out.mono ?_
    rintro e w2 ⟨rfl, hx⟩
    have X6 := hide (X5.out.trans hx)
    have B7 := hide (B5.out.ext hx)
    have B8 := hide ((hx.heap (lt_of_obj B6.out)).trans B6.out)
    clear hx
    obtain ⟨a0, a1, a2, a3⟩ := B7.out.cells
    obtain ⟨y0, y1, y2, y3, yf0, yf1, yf2, yf3⟩ := p0_cells B8.out
    have hb7 := B7.out.lt
    go_wp2
    refine bodyPost_ret (v := .tuple #[.agg #[encStr a.cls, encStr a.ty.con, .int .i64 a.ty.var, .slice a.ty.A a.ty.args.length a.ty.cap], (.iface 71 (.agg #[.int .i64 1]))]) ?_ rfl ⟨⟨a, _, rfl, by rw [HO.out]; rfl⟩, ?_⟩
    · simp [results, Tryz.f22, go_sem, y0, y1, y2, y3]
    · exact ext_set4 X6.out (by omega) _ _ _ _
  · rw [hb] at HL
    have HO : Hid (prv x.classes x.insts given p = some a) := hide (by rw [HO0.out, Option.filter_some, if_pos hb])
    clear hb
    go_wp2_with fail
    refine HL.out.out.mono ?_
    rintro e w2 ⟨rfl, hx⟩
    have X6 := hide (X5.out.trans hx)
    have B7 := hide (B5.out.ext hx)
    have B8 := hide ((hx.heap (lt_of_obj B6.out)).trans B6.out)
    clear hx
    obtain ⟨a0, a1, a2, a3⟩ := B7.out.cells
    obtain ⟨y0, y1, y2, y3, yf0, yf1, yf2, yf3⟩ := p0_cells B8.out
    have hb7 := B7.out.lt
    go_wp2
    refine bodyPost_ret (v := .tuple #[.agg #[encStr a.cls, encStr a.ty.con, .int .i64 a.ty.var, .slice a.ty.A a.ty.args.length a.ty.cap], .nilIface]) ?_ rfl ⟨⟨a, _, rfl, by rw [HO.out]; exact ⟨rfl, rfl⟩⟩, ?_⟩
    · simp [results, Tryz.f22, go_sem, y0, y1, y2, y3]
    · exact ext_set4 X6.out (by omega) _ _ _ _


set_option maxRecDepth 10000 in
set_option maxHeartbeats 4000000 in
theorem p_super (x : EnD) (G : Option Addr) (gc : Nat) (given : List Pd) (p : Pf) (hk1 : (p.kind == 1) = false) (hk : (p.kind == 2) = true) (HC : PrvC x G gc given 40 (aboveR x.classes p (p.kids.map (prv x.classes x.insts given))) p) : PrvC x G gc given 22 (prv x.classes x.insts given p) p := by
  intro w he hg hp
  obtain ⟨W, hW⟩ : ∃ W, W = (((w.alloc (.cells #[.slice x.D x.datas.length x.dc, .slice x.C x.classes.length x.cc, .slice x.I x.insts.length x.ic] 26)).alloc (.cells #[.int .i64 p.kind, .int .i64 p.n, .slice p.T p.types.length p.tc, .slice p.A p.kids.length p.cap] 31)).alloc (.cells #[.string ⟨#[]⟩, .string ⟨#[]⟩, .int .i64 0, .slice none 0 0] 39)).alloc (.cells #[.string ⟨#[]⟩, .string ⟨#[]⟩, .int .i64 0, .slice none 0 0] 39) := ⟨_, rfl⟩
  have HW := hide hW.symm
  have X0 : Hid (Ext w W) := hide (by rw [hW]; exact ((((Ext.refl _).alloc _).alloc _).alloc _).alloc _)
  have B1 : Hid (EnBox W w.heap.size x) := hide (by rw [hW]; exact (EnBox.new w x).ext ((((Ext.refl _).alloc _).alloc _).alloc _))
  have B2 : Hid (FBox W (w.heap.size + 1) p) := hide (by rw [hW]; exact FBox.ext (at_newB _ _ _ (by simp)) (((Ext.refl _).alloc _).alloc _))
  have B3 : Hid (W.heap[w.heap.size + 1 + 1]? = some (.cells #[.string ⟨#[]⟩, .string ⟨#[]⟩, .int .i64 0, .slice none 0 0] 39)) := hide (by rw [hW]; exact (((Ext.refl _).alloc _).heap (by simp)).trans (at_newB _ _ _ (by simp)))
  have B4 : Hid (W.heap[w.heap.size + 1 + 1 + 1]? = some (.cells #[.string ⟨#[]⟩, .string ⟨#[]⟩, .int .i64 0, .slice none 0 0] 39)) := hide (by rw [hW]; exact at_newB _ _ _ (by simp))
  have HP := hide (prv_eq x.classes x.insts given p)
  have HsW : Hid (W.heap.size = w.heap.size + 4) := hide (by rw [hW]; simp)
  obtain ⟨c0, c1, c2, c3⟩ := B2.out.cells
  obtain ⟨e0, e1, e2⟩ := B1.out.cells
  obtain ⟨y0, y1, y2, y3, yf0, yf1, yf2, yf3⟩ := p0_cells B3.out
  obtain ⟨z0, z1, z2, z3, zf0, zf1, zf2, zf3⟩ := p0_cells B4.out
  have HG := hide (hg.ext X0.out)
  have HLg := hide (fun (a : Pd) (ha : PdIn w a) w' (e : Ext w w') => hide (p_legalU a w' (ha.ext e)))
  clear hW
  unfold enV pfV
  have HO0 : Hid (prv x.classes x.insts given p = (aboveR x.classes p (p.kids.map (prv x.classes x.insts given))).filter pdB) := hide (by rw [HP.out]; unfold prv0; rw [if_neg (by simpa using hk1), if_pos (by simpa using hk)])
  have HA := hide (HC W (he.ext X0.out) (hg.ext X0.out) (hp.ext X0.out))
  have Hin : Hid (∀ a, aboveR x.classes p (p.kids.map (prv x.classes x.insts given)) = some a → PdIn w a) := hide (fun a ha => above_in he hg hp ha)
  clear HC HG
  unfold enV pfV at HA
  generalize aboveR x.classes p (p.kids.map (prv x.classes x.insts given)) = O at *
  go_enter Tryz.func22, Tryz.ntmps22
  go_upto_region 3 with fail
  rw [HW.out]
  clear HW
  go_wp2_with fail
  refine HA.out.mono ?_
  rintro e w1 ⟨⟨q, er, rfl, hok⟩, hx1⟩
  have X1 := hide (X0.out.trans hx1)
  have B3 := hide ((hx1.heap (lt_of_obj B3.out)).trans B3.out)
  have B4 := hide ((hx1.heap (lt_of_obj B4.out)).trans B4.out)
  have hz4 := lt_of_obj B4.out
  clear hx1 y0 y1 y2 y3 yf0 yf1 yf2 yf3 z0 z1 z2 z3 zf0 zf1 zf2 zf3
  obtain ⟨y0, y1, y2, y3, yf0, yf1, yf2, yf3⟩ := p0_cells B3.out
  obtain ⟨z0, z1, z2, z3, zf0, zf1, zf2, zf3⟩ := p0_cells B4.out
  cases O with
  | none =>
    obtain rfl := hok.none
    have HO : Hid (prv x.classes x.insts given p = none) := hide (by rw [HO0.out]; rfl)
    clear hok
    go_wp2
    refine bodyPost_ret (v := .tuple #[.agg #[encStr q.cls, encStr q.ty.con, .int .i64 q.ty.var, .slice q.ty.A q.ty.args.length q.ty.cap], (.iface 71 (.agg #[.int .i64 1]))]) ?_ rfl ⟨⟨q, _, rfl, by rw [HO.out]; rfl⟩, ?_⟩
    · simp [results, Tryz.f22, go_sem, y0, y1, y2, y3]
    · exact ext_set4 (ext_set4 X1.out (by omega) _ _ _ _) (by omega) _ _ _ _
  | some a =>
    obtain ⟨rfl, rfl⟩ := hok.some
    have Ha := hide (Hin.out _ rfl)
    rename Pd => a
    have X5 : Hid (Ext w (setPd w1 (w.heap.size + 1 + 1 + 1) a)) := hide (ext_setPd X1.out (by omega) a)
    have B5 : Hid (PdBox (setPd w1 (w.heap.size + 1 + 1 + 1) a) (w.heap.size + 1 + 1 + 1) a) := hide (setPd_box B4.out a)
    have B6 : Hid ((setPd w1 (w.heap.size + 1 + 1 + 1) a).heap[w.heap.size + 1 + 1]? = some (.cells #[.string ⟨#[]⟩, .string ⟨#[]⟩, .int .i64 0, .slice none 0 0] 39)) := hide ((setPd_other a (by omega)).trans B3.out)
    have HL := hide (HLg.out a Ha.out _ X5.out)
    cases hb : pdB a
    · rw [hb] at HL
      have HO : Hid (prv x.classes x.insts given p = none) := hide (by rw [HO0.out, Option.filter_some, if_neg (by rw [hb]; decide)])
      clear hb
      go_wp2_with fail
      refine HL.out.out.mono ?_
      rintro e w2 ⟨rfl, hx⟩
      have X6 := hide (X5.out.trans hx)
      have B7 := hide (B5.out.ext hx)
      have B8 := hide ((hx.heap (lt_of_obj B6.out)).trans B6.out)
      clear hx
      obtain ⟨a0, a1, a2, a3⟩ := B7.out.cells
      obtain ⟨y0, y1, y2, y3, yf0, yf1, yf2, yf3⟩ := p0_cells B8.out
      have hb7 := B7.out.lt
      go_wp2
      refine bodyPost_ret (v := .tuple #[.agg #[encStr a.cls, encStr a.ty.con, .int .i64 a.ty.var, .slice a.ty.A a.ty.args.length a.ty.cap], (.iface 71 (.agg #[.int .i64 1]))]) ?_ rfl ⟨⟨a, _, rfl, by rw [HO.out]; rfl⟩, ?_⟩
      · simp [results, Tryz.f22, go_sem, y0, y1, y2, y3]
      · exact ext_set4 X6.out (by omega) _ _ _ _
    · rw [hb] at HL
      have HO : Hid (prv x.classes x.insts given p = some a) := hide (by rw [HO0.out, Option.filter_some, if_pos hb])
      clear hb
      go_wp2_with fail
      refine HL.out.out.mono ?_
      rintro e w2 ⟨rfl, hx⟩
      have X6 := hide (X5.out.trans hx)
      have B7 := hide (B5.out.ext hx)
      have B8 := hide ((hx.heap (lt_of_obj B6.out)).trans B6.out)
      clear hx
      obtain ⟨a0, a1, a2, a3⟩ := B7.out.cells
      obtain ⟨y0, y1, y2, y3, yf0, yf1, yf2, yf3⟩ := p0_cells B8.out
      have hb7 := B7.out.lt
      go_wp2
      refine bodyPost_ret (v := .tuple #[.agg #[encStr a.cls, encStr a.ty.con, .int .i64 a.ty.var, .slice a.ty.A a.ty.args.length a.ty.cap], .nilIface]) ?_ rfl ⟨⟨a, _, rfl, by rw [HO.out]; exact ⟨rfl, rfl⟩⟩, ?_⟩
      · simp [results, Tryz.f22, go_sem, y0, y1, y2, y3]
      · exact ext_set4 X6.out (by omega) _ _ _ _

set_option maxRecDepth 10000 in
set_option maxHeartbeats 4000000 in
theorem p_instK (x : EnD) (G : Option Addr) (gc : Nat) (given : List Pd) (p : Pf) (hk1 : (p.kind == 1) = false) (hk2 : (p.kind == 2) = false) (hk : (p.kind == 3) = true) (HC : PrvC x G gc given 41 (instR x.insts p (p.kids.map (prv x.classes x.insts given))) p) : PrvC x G gc given 22 (prv x.classes x.insts given p) p := by
  intro w he hg hp
  obtain ⟨W, hW⟩ : ∃ W, W = (((w.alloc (.cells #[.slice x.D x.datas.length x.dc, .slice x.C x.classes.length x.cc, .slice x.I x.insts.length x.ic] 26)).alloc (.cells #[.int .i64 p.kind, .int .i64 p.n, .slice p.T p.types.length p.tc, .slice p.A p.kids.length p.cap] 31)).alloc (.cells #[.string ⟨#[]⟩, .string ⟨#[]⟩, .int .i64 0, .slice none 0 0] 39)).alloc (.cells #[.string ⟨#[]⟩, .string ⟨#[]⟩, .int .i64 0, .slice none 0 0] 39) := ⟨_, rfl⟩
  have HW := hide hW.symm
  have X0 : Hid (Ext w W) := hide (by rw [hW]; exact ((((Ext.refl _).alloc _).alloc _).alloc _).alloc _)
  have B1 : Hid (EnBox W w.heap.size x) := hide (by rw [hW]; exact (EnBox.new w x).ext ((((Ext.refl _).alloc _).alloc _).alloc _))
  have B2 : Hid (FBox W (w.heap.size + 1) p) := hide (by rw [hW]; exact FBox.ext (at_newB _ _ _ (by simp)) (((Ext.refl _).alloc _).alloc _))
  have B3 : Hid (W.heap[w.heap.size + 1 + 1]? = some (.cells #[.string ⟨#[]⟩, .string ⟨#[]⟩, .int .i64 0, .slice none 0 0] 39)) := hide (by rw [hW]; exact (((Ext.refl _).alloc _).heap (by simp)).trans (at_newB _ _ _ (by simp)))
  have B4 : Hid (W.heap[w.heap.size + 1 + 1 + 1]? = some (.cells #[.string ⟨#[]⟩, .string ⟨#[]⟩, .int .i64 0, .slice none 0 0] 39)) := hide (by rw [hW]; exact at_newB _ _ _ (by simp))
  have HP := hide (prv_eq x.classes x.insts given p)
  have HsW : Hid (W.heap.size = w.heap.size + 4) := hide (by rw [hW]; simp)
  obtain ⟨c0, c1, c2, c3⟩ := B2.out.cells
  obtain ⟨e0, e1, e2⟩ := B1.out.cells
  obtain ⟨y0, y1, y2, y3, yf0, yf1, yf2, yf3⟩ := p0_cells B3.out
  obtain ⟨z0, z1, z2, z3, zf0, zf1, zf2, zf3⟩ := p0_cells B4.out
  have HG := hide (hg.ext X0.out)
  have HLg := hide (fun (a : Pd) (ha : PdIn w a) w' (e : Ext w w') => hide (p_legalU a w' (ha.ext e)))
  clear hW
  unfold enV pfV
  have HO0 : Hid (prv x.classes x.insts given p = (instR x.insts p (p.kids.map (prv x.classes x.insts given))).filter pdB) := hide (by rw [HP.out]; unfold prv0; rw [if_neg (by simpa using hk1), if_neg (by simpa using hk2), if_pos (by simpa using hk)])
  have HA := hide (HC W (he.ext X0.out) (hg.ext X0.out) (hp.ext X0.out))
  have Hin : Hid (∀ a, instR x.insts p (p.kids.map (prv x.classes x.insts given)) = some a → PdIn w a) := hide (fun a ha => inst_in he hp ha)
  clear HC HG
  unfold enV pfV at HA
  generalize instR x.insts p (p.kids.map (prv x.classes x.insts given)) = O at *
  go_enter Tryz.func22, Tryz.ntmps22
  go_upto_region 3 with fail
  rw [HW.out]
  clear HW
  go_wp2_with fail
  refine HA.out.mono ?_
  rintro e w1 ⟨⟨q, er, rfl, hok⟩, hx1⟩
  have X1 := hide (X0.out.trans hx1)
  have B3 := hide ((hx1.heap (lt_of_obj B3.out)).trans B3.out)
  have B4 := hide ((hx1.heap (lt_of_obj B4.out)).trans B4.out)
  have hz4 := lt_of_obj B4.out
  clear hx1 y0 y1 y2 y3 yf0 yf1 yf2 yf3 z0 z1 z2 z3 zf0 zf1 zf2 zf3
  obtain ⟨y0, y1, y2, y3, yf0, yf1, yf2, yf3⟩ := p0_cells B3.out
  obtain ⟨z0, z1, z2, z3, zf0, zf1, zf2, zf3⟩ := p0_cells B4.out
  cases O with
  | none =>
    obtain rfl := hok.none
    have HO : Hid (prv x.classes x.insts given p = none) := hide (by rw [HO0.out]; rfl)
    clear hok
    go_wp2
    refine bodyPost_ret (v := .tuple #[.agg #[encStr q.cls, encStr q.ty.con, .int .i64 q.ty.var, .slice q.ty.A q.ty.args.length q.ty.cap], (.iface 71 (.agg #[.int .i64 1]))]) ?_ rfl ⟨⟨q, _, rfl, by rw [HO.out]; rfl⟩, ?_⟩
    · simp [results, Tryz.f22, go_sem, y0, y1, y2, y3]
    · exact ext_set4 (ext_set4 X1.out (by omega) _ _ _ _) (by omega) _ _ _ _
  | some a =>
    obtain ⟨rfl, rfl⟩ := hok.some
    have Ha := hide (Hin.out _ rfl)
    rename Pd => a
    have X5 : Hid (Ext w (setPd w1 (w.heap.size + 1 + 1 + 1) a)) := hide (ext_setPd X1.out (by omega) a)
    have B5 : Hid (PdBox (setPd w1 (w.heap.size + 1 + 1 + 1) a) (w.heap.size + 1 + 1 + 1) a) := hide (setPd_box B4.out a)
    have B6 : Hid ((setPd w1 (w.heap.size + 1 + 1 + 1) a).heap[w.heap.size + 1 + 1]? = some (.cells #[.string ⟨#[]⟩, .string ⟨#[]⟩, .int .i64 0, .slice none 0 0] 39)) := hide ((setPd_other a (by omega)).trans B3.out)
    have HL := hide (HLg.out a Ha.out _ X5.out)
    cases hb : pdB a
    · rw [hb] at HL
      have HO : Hid (prv x.classes x.insts given p = none) := hide (by rw [HO0.out, Option.filter_some, if_neg (by rw [hb]; decide)])
      clear hb
      go_wp2_with fail
      refine HL.out.out.mono ?_
      rintro e w2 ⟨rfl, hx⟩
      have X6 := hide (X5.out.trans hx)
      have B7 := hide (B5.out.ext hx)
      have B8 := hide ((hx.heap (lt_of_obj B6.out)).trans B6.out)
      clear hx
      obtain ⟨a0, a1, a2, a3⟩ := B7.out.cells
      obtain ⟨y0, y1, y2, y3, yf0, yf1, yf2, yf3⟩ := p0_cells B8.out
      have hb7 := B7.out.lt
      go_wp2
      refine bodyPost_ret (v := .tuple #[.agg #[encStr a.cls, encStr a.ty.con, .int .i64 a.ty.var, .slice a.ty.A a.ty.args.length a.ty.cap], (.iface 71 (.agg #[.int .i64 1]))]) ?_ rfl ⟨⟨a, _, rfl, by rw [HO.out]; rfl⟩, ?_⟩
      · simp [results, Tryz.f22, go_sem, y0, y1, y2, y3]
      · exact ext_set4 X6.out (by omega) _ _ _ _
    · rw [hb] at HL
      have HO : Hid (prv x.classes x.insts given p = some a) := hide (by rw [HO0.out, Option.filter_some, if_pos hb])
      clear hb
      go_wp2_with fail
      refine HL.out.out.mono ?_
      rintro e w2 ⟨rfl, hx⟩
      have X6 := hide (X5.out.trans hx)
      have B7 := hide (B5.out.ext hx)
      have B8 := hide ((hx.heap (lt_of_obj B6.out)).trans B6.out)
      clear hx
      obtain ⟨a0, a1, a2, a3⟩ := B7.out.cells
      obtain ⟨y0, y1, y2, y3, yf0, yf1, yf2, yf3⟩ := p0_cells B8.out
      have hb7 := B7.out.lt
      go_wp2
      refine bodyPost_ret (v := .tuple #[.agg #[encStr a.cls, encStr a.ty.con, .int .i64 a.ty.var, .slice a.ty.A a.ty.args.length a.ty.cap], .nilIface]) ?_ rfl ⟨⟨a, _, rfl, by rw [HO.out]; exact ⟨rfl, rfl⟩⟩, ?_⟩
      · simp [results, Tryz.f22, go_sem, y0, y1, y2, y3]
      · exact ext_set4 X6.out (by omega) _ _ _ _

set_option maxRecDepth 10000 in
set_option maxHeartbeats 4000000 in
theorem p_none (x : EnD) (G : Option Addr) (gc : Nat) (given : List Pd) (p : Pf) (hk1 : (p.kind == 1) = false) (hk2 : (p.kind == 2) = false) (hk3 : (p.kind == 3) = false) : PrvC x G gc given 22 (prv x.classes x.insts given p) p := by
  intro w he hg hp
  obtain ⟨W, hW⟩ : ∃ W, W = (((w.alloc (.cells #[.slice x.D x.datas.length x.dc, .slice x.C x.classes.length x.cc, .slice x.I x.insts.length x.ic] 26)).alloc (.cells #[.int .i64 p.kind, .int .i64 p.n, .slice p.T p.types.length p.tc, .slice p.A p.kids.length p.cap] 31)).alloc (.cells #[.string ⟨#[]⟩, .string ⟨#[]⟩, .int .i64 0, .slice none 0 0] 39)).alloc (.cells #[.string ⟨#[]⟩, .string ⟨#[]⟩, .int .i64 0, .slice none 0 0] 39) := ⟨_, rfl⟩
  have HW := hide hW.symm
  have X0 : Hid (Ext w W) := hide (by rw [hW]; exact ((((Ext.refl _).alloc _).alloc _).alloc _).alloc _)
  have B1 : Hid (EnBox W w.heap.size x) := hide (by rw [hW]; exact (EnBox.new w x).ext ((((Ext.refl _).alloc _).alloc _).alloc _))
  have B2 : Hid (FBox W (w.heap.size + 1) p) := hide (by rw [hW]; exact FBox.ext (at_newB _ _ _ (by simp)) (((Ext.refl _).alloc _).alloc _))
  have B3 : Hid (W.heap[w.heap.size + 1 + 1]? = some (.cells #[.string ⟨#[]⟩, .string ⟨#[]⟩, .int .i64 0, .slice none 0 0] 39)) := hide (by rw [hW]; exact (((Ext.refl _).alloc _).heap (by simp)).trans (at_newB _ _ _ (by simp)))
  have B4 : Hid (W.heap[w.heap.size + 1 + 1 + 1]? = some (.cells #[.string ⟨#[]⟩, .string ⟨#[]⟩, .int .i64 0, .slice none 0 0] 39)) := hide (by rw [hW]; exact at_newB _ _ _ (by simp))
  have HP := hide (prv_eq x.classes x.insts given p)
  have HsW : Hid (W.heap.size = w.heap.size + 4) := hide (by rw [hW]; simp)
  obtain ⟨c0, c1, c2, c3⟩ := B2.out.cells
  obtain ⟨e0, e1, e2⟩ := B1.out.cells
  obtain ⟨y0, y1, y2, y3, yf0, yf1, yf2, yf3⟩ := p0_cells B3.out
  obtain ⟨z0, z1, z2, z3, zf0, zf1, zf2, zf3⟩ := p0_cells B4.out
  have HG := hide (hg.ext X0.out)
  have HLg := hide (fun (a : Pd) (ha : PdIn w a) w' (e : Ext w w') => hide (p_legalU a w' (ha.ext e)))
  clear hW
  unfold enV pfV
  have HO : Hid (prv x.classes x.insts given p = none) := hide (by rw [HP.out]; unfold prv0; rw [if_neg (by simpa using hk1), if_neg (by simpa using hk2), if_neg (by simpa using hk3)]; rfl)
  clear HG HLg
  go_enter Tryz.func22, Tryz.ntmps22
  go_upto_region 3 with fail
  rw [HW.out]
  clear HW
  go_wp2
  refine bodyPost_ret (v := .tuple #[.agg #[.string ⟨#[]⟩, .string ⟨#[]⟩, .int .i64 0, .slice none 0 0], (.iface 71 (.agg #[.int .i64 1]))]) ?_ rfl ⟨⟨⟨[], Ty.zero⟩, _, rfl, by rw [HO.out]; rfl⟩, ?_⟩
  · simp [results, Tryz.f22, go_sem, y0, y1, y2, y3]
  · exact ext_set4 X0.out (by omega) _ _ _ _


end Go.Proofs.YtpdcjjgkpbpleaaGreatDoor

/- Contract: what a proof by a class above is of. -/
namespace Go.Proofs.YtpdcjjgkpbpleaaGreatDoor
open Go.RowKit

theorem zp {a y : World} {B : Nat} (e : Ext a y) (h : a.heap[B]? = some (.cells #[.string ⟨#[]⟩, .string ⟨#[]⟩, .int .i64 0, .slice none 0 0] 39)) :
    y.cell? ⟨B, 0, none⟩ = some (.string ⟨#[]⟩) ∧ y.cell? ⟨B, 1, none⟩ = some (.string ⟨#[]⟩) ∧ y.cell? ⟨B, 2, none⟩ = some (.int .i64 0) ∧ y.cell? ⟨B, 3, none⟩ = some (.slice none 0 0) ∧ y.frozen? ⟨B, 0, none⟩ = false ∧ y.frozen? ⟨B, 1, none⟩ = false ∧ y.frozen? ⟨B, 2, none⟩ = false ∧ y.frozen? ⟨B, 3, none⟩ = false ∧ B < y.heap.size := by
  have hb := (e.heap (lt_of_obj h)).trans h
  obtain ⟨h0, h1, h2, h3, h4, h5, h6, h7⟩ := p0_cells hb
  exact ⟨h0, h1, h2, h3, h4, h5, h6, h7, lt_of_obj hb⟩
theorem at_newD (w : World) (o : Obj) : (w.alloc o).drew.heap[w.heap.size]? = some o := at_newB w o w.heap.size rfl
theorem cell4 {y : World} {B b i : Nat} (h : b ≠ B) (v0 v1 v2 v3 : Value) {u : Value} (k : y.cell? ⟨b, i, none⟩ = some u) : ((((y.setCell ⟨B, 0, none⟩ v0).setCell ⟨B, 1, none⟩ v1).setCell ⟨B, 2, none⟩ v2).setCell ⟨B, 3, none⟩ v3).cell? ⟨b, i, none⟩ = some u := by
  refine (World.cell?_of_block (a := ⟨b, i, none⟩) ?_).trans k
  show ((((y.setCell ⟨B, 0, none⟩ v0).setCell ⟨B, 1, none⟩ v1).setCell ⟨B, 2, none⟩ v2).setCell ⟨B, 3, none⟩ v3).heap[b]? = y.heap[b]?
  rw [Below.heap_setCell _ _ _ _ h, Below.heap_setCell _ _ _ _ h, Below.heap_setCell _ _ _ _ h, Below.heap_setCell _ _ _ _ h]
theorem zp2 {W a y : World} {B : Nat} (h1 : Ext W a) (e : Ext a y) (hB : W.heap.size ≤ B) (h : a.heap[B]? = some (.cells #[.string ⟨#[]⟩, .string ⟨#[]⟩, .int .i64 0, .slice none 0 0] 39)) (q : Pd) : Ext W (setPd y B q) ∧ PdBox (setPd y B q) B q :=
  ⟨ext_setPd (h1.trans e) hB q, setPd_box ((e.heap (lt_of_obj h)).trans h) q⟩

set_option maxRecDepth 10000 in
set_option maxHeartbeats 8000000 in
theorem p_above (x : EnD) (G : Option Addr) (gc : Nat) (given : List Pd) (p : Pf) (ih : ∀ k ∈ p.kids, PrvC x G gc given 22 (prv x.classes x.insts given k) k) :
    PrvC x G gc given 40 (aboveR x.classes p (p.kids.map (prv x.classes x.insts given))) p := by
  intro w he hg hp
  obtain ⟨W, hW⟩ : ∃ W, W = ((w.alloc (.cells #[.slice x.D x.datas.length x.dc, .slice x.C x.classes.length x.cc, .slice x.I x.insts.length x.ic] 26)).alloc (.cells #[.int .i64 p.kind, .int .i64 p.n, .slice p.T p.types.length p.tc, .slice p.A p.kids.length p.cap] 31)).alloc (.cells #[.string ⟨#[]⟩, .string ⟨#[]⟩, .int .i64 0, .slice none 0 0] 39) := ⟨_, rfl⟩
  have HW := hide hW.symm
  have X0 : Hid (Ext w W) := hide (by rw [hW]; exact (((Ext.refl _).alloc _).alloc _).alloc _)
  have B1 : Hid (EnBox W w.heap.size x) := hide (by rw [hW]; exact (EnBox.new w x).ext (((Ext.refl _).alloc _).alloc _))
  have B2 : Hid (FBox W (w.heap.size + 1) p) := hide (by rw [hW]; exact FBox.ext (at_newB _ _ _ (by simp)) ((Ext.refl _).alloc _))
  have B3 : Hid (W.heap[w.heap.size + 1 + 1]? = some (.cells #[.string ⟨#[]⟩, .string ⟨#[]⟩, .int .i64 0, .slice none 0 0] 39)) := hide (by rw [hW]; exact at_newB _ _ _ (by simp))
  have HsW : Hid (W.heap.size = w.heap.size + 3) := hide (by rw [hW]; simp)
  obtain ⟨c0, c1, c2, c3⟩ := B2.out.cells
  obtain ⟨e0, e1, e2⟩ := B1.out.cells
  obtain ⟨y0, y1, y2, y3, yf0, yf1, yf2, yf3⟩ := p0_cells B3.out
  clear hW
  unfold enV pfV
  by_cases hk : (p.kids.length : Int) = 1
  · by_cases ht : 0 < p.types.length
    · have HO : Hid (aboveR x.classes p (p.kids.map (prv x.classes x.insts given)) = none) := hide (by unfold aboveR; rw [if_neg (by omega)])
      generalize p.kids.length = kl at *
      obtain rfl : kl = 1 := by omega
      go_enter Tryz.func40, Tryz.ntmps40
      go_upto_region 1 with fail
      rw [HW.out]
      clear HW
      go_wp2
      refine bodyPost_ret (v := .tuple #[.agg #[.string ⟨#[]⟩, .string ⟨#[]⟩, .int .i64 0, .slice none 0 0], (.iface 71 (.agg #[.int .i64 1]))]) ?_ rfl ⟨⟨⟨[], Ty.zero⟩, _, rfl, by rw [HO.out]; rfl⟩, ?_⟩
      · simp [results, Tryz.f40, go_sem, y0, y1, y2, y3]
      · exact ext_set4 X0.out (by omega) _ _ _ _
    have hk1 : p.kids.length = 1 := by omega
    have ht0 : p.types.length = 0 := by omega
    have h0 : 0 < p.kids.length := by omega
    have HA : Hid (aboveR x.classes p (p.kids.map (prv x.classes x.insts given)) = (prv x.classes x.insts given (p.kids[0]'h0)).bind fun q => (clF x.classes q.cls).bind fun c => (atZ c.sups p.n).map fun s => (⟨s, q.ty⟩ : Pd)) := hide (by
      unfold aboveR
      rw [if_pos ⟨hk1, ht0⟩]
      have e : (p.kids.map (prv x.classes x.insts given)).getD 0 none = prv x.classes x.insts given (p.kids[0]'h0) := by simp [List.getD, h0]
      rw [e])
    have HK := hide (fun w' (e : Ext W w') => hide (ih _ (List.getElem_mem h0) w' (he.ext (X0.out.trans e)) (hg.ext (X0.out.trans e)) ((hp.all.kids _ (List.getElem_mem h0)).ext (X0.out.trans e))))
    obtain ⟨b, o, hA, hb, q0, q1, q2, q3⟩ := (hp.all.ext X0.out).at_ h0
    have Hcl := hide he
    have HCl := hide (fun (c : KlD) (hc : c ∈ x.classes) => (he.classes.all c hc))
    rw [hk1, hA] at c3
    rw [ht0] at c2
    rw [hk1, ht0, hA] at HW ⊢
    clear hk1 ht0 hA ih hk ht hp hg
    generalize aboveR x.classes p (p.kids.map (prv x.classes x.insts given)) = R at *
    simp only [Nat.zero_mul, Nat.add_zero] at q0 q1 q2 q3
    generalize p.kids[0]'h0 = kid at *
    have HSS := hide (fun w' (e : Ext W w') => And.intro (e.cell e0) (And.intro (e.cell e1) (And.intro (e.cell e2) (And.intro (e.cell c3) (And.intro (e.cell q0) (And.intro (e.cell q1) (And.intro (e.cell q2) (e.cell q3))))))))
    generalize prv x.classes x.insts given kid = O at *
    clear h0
    unfold enV pfV pdV at HK
    have hlt0 : w.heap.size < W.heap.size := by rw [HsW.out]; omega
    have hlt1 : w.heap.size + 1 < W.heap.size := by rw [HsW.out]; omega
    have hne0 : w.heap.size ≠ W.heap.size := by omega
    have hne1 : w.heap.size + 1 ≠ W.heap.size := by omega
    have hne2 : b ≠ W.heap.size := by omega
    go_enter Tryz.func40, Tryz.ntmps40
    go_upto_region 1 with fail
    rw [HW.out]
    clear HW
    go_upto_region 3 with fail
    go_cut [8, 9] (fun s8 s9 wx => ∃ (b8 : Nat) (q : Pd), s8 = .pointer (some ⟨b8, 0, none⟩) ∧ PrvOk O q s9 ∧ W.heap.size ≤ b8 ∧ Hid (Ext W wx) ∧ Hid (PdBox wx b8 q))
    case first =>
      go_region_held3 (fun w' => w'.cell? ⟨w.heap.size, 0, none⟩ = some (.slice x.D x.datas.length x.dc) ∧ w'.cell? ⟨w.heap.size, 1, none⟩ = some (.slice x.C x.classes.length x.cc) ∧ w'.cell? ⟨w.heap.size, 2, none⟩ = some (.slice x.I x.insts.length x.ic) ∧ w'.cell? ⟨w.heap.size + 1, 3, none⟩ = some (.slice (some ⟨b, o, none⟩) 1 p.cap) ∧ w'.cell? ⟨b, o, none⟩ = some (.int .i64 kid.kind) ∧ w'.cell? ⟨b, o + 1, none⟩ = some (.int .i64 kid.n) ∧ w'.cell? ⟨b, o + 2, none⟩ = some (.slice kid.T kid.types.length kid.tc) ∧ w'.cell? ⟨b, o + 3, none⟩ = some (.slice kid.A kid.kids.length kid.cap)) (first | with_reducible assumption | (obtain ⟨g1, g2, g3, g4, g5, g6, g7, g8⟩ := kS; with_reducible exact ⟨cell4 hne0 _ _ _ _ g1, cell4 hne0 _ _ _ _ g2, cell4 hne0 _ _ _ _ g3, cell4 hne1 _ _ _ _ g4, cell4 hne2 _ _ _ _ g5, cell4 hne2 _ _ _ _ g6, cell4 hne2 _ _ _ _ g7, cell4 hne2 _ _ _ _ g8⟩) | go_keep) (first
        | (go_at_call 22
           refine Calls.mono (HK.out _ ?e).out ?_
           (case e => exact (by repeat (first | exact Ext.refl _ | exact Ext.pre (by simp) | exact Ext.alloc (by assumption) _ | refine Ext.alloc ?_ _ |  refine Ext.more ?_ _ _ | refine Ext.drew ?_ | refine Ext.drewN ?_ _)))
           rintro e y ⟨⟨q, er, rfl, hok⟩, hxy⟩
           have kS := HSS.out y (by refine Ext.trans ?_ hxy; exact (by repeat (first | exact Ext.refl _ | exact Ext.pre (by simp) | exact Ext.alloc (by assumption) _ | refine Ext.alloc ?_ _ |  refine Ext.more ?_ _ _ | refine Ext.drew ?_ | refine Ext.drewN ?_ _)))
           (try (have zz := zp hxy (B := W.heap.size) (by with_reducible exact at_newD W _); obtain ⟨z0, z1, z2, z3, z4, z5, z6, z7, z8⟩ := zz))))
      all_goals (go_wp2_with fail; go_meet; first
        | exact ⟨y.heap.size, q, rfl, hok, Nat.le_trans (Nat.le_refl _) ((Ext.refl W).drew.trans hxy).size, hide (((Ext.refl W).drew.trans hxy).alloc _), hide (at_newB _ _ _ rfl)⟩
        | exact ⟨W.heap.size, q, rfl, hok, Nat.le_refl _, hide ((zp2 (((Ext.refl W).alloc _).drew) hxy (Nat.le_refl _) (at_newB W _ _ rfl) _).1), hide ((zp2 (((Ext.refl W).alloc _).drew) hxy (Nat.le_refl _) (at_newB W _ _ rfl) _).2)⟩)
    case rest =>
      obtain ⟨b8, q, rfl, hok, hb8, HX, HB8⟩ := hcut
      have X1 := hide (X0.out.trans HX.out)
      have B3 := hide ((HX.out.heap (lt_of_obj B3.out)).trans B3.out)
      have B1 := hide (B1.out.ext HX.out)
      have B2 := hide (B2.out.ext HX.out)
      have hbl := HB8.out.lt
      clear c0 c1 c2 c3 e0 e1 e2 y0 y1 y2 y3 yf0 yf1 yf2 yf3 q0 q1 q2 q3 HSS HK
      obtain ⟨a0, a1, a2, a3⟩ := HB8.out.cells
      have af0 := HB8.out.free 0
      obtain ⟨e0, e1, e2⟩ := B1.out.cells
      obtain ⟨y0, y1, y2, y3, yf0, yf1, yf2, yf3⟩ := p0_cells B3.out
      cases O with
      | none =>
        obtain rfl := hok.none
        have hR : R = none := HA.out
        clear hok HA
        subst hR
        go_wp2
        refine bodyPost_ret (v := .tuple #[.agg #[.string ⟨#[]⟩, .string ⟨#[]⟩, .int .i64 0, .slice none 0 0], (.iface 71 (.agg #[.int .i64 1]))]) ?_ rfl ⟨⟨⟨[], Ty.zero⟩, _, rfl, rfl⟩, ?_⟩
        · simp [results, Tryz.f40, go_sem, y0, y1, y2, y3]
        · exact ext_set4 X1.out (by omega) _ _ _ _
      | some a =>
        obtain ⟨rfl, rfl⟩ := hok.some
        clear hok
        rename Pd => a
        have HC := hide (f_class x a.cls _ (Hcl.out.ext X1.out))
        have Hmem := hide (fun c (hc : clF x.classes a.cls = some c) => HCl.out c (clF_mem hc))
        have HR : Hid (R = (clF x.classes a.cls).bind fun c => (atZ c.sups p.n).map fun s => (⟨s, a.ty⟩ : Pd)) := hide HA.out
        clear HCl HA
        unfold enV at HC
        generalize clF x.classes a.cls = F at *
        obtain ⟨c0, c1, -, -⟩ := B2.out.cells
        cases F with
        | none =>
          have hR : R = none := HR.out
          clear HR
          subst hR
          go_wp2_with fail
          refine HC.out.mono ?_
          rintro e w4 ⟨rfl, hx4⟩
          have X4 := hide (X1.out.trans hx4)
          have B5 := hide ((hx4.heap (lt_of_obj B3.out)).trans B3.out)
          obtain ⟨z0, z1, z2, z3, zf0, zf1, zf2, zf3⟩ := p0_cells B5.out
          have hz5 := lt_of_obj B5.out
          clear hx4
          simp only [Option.getD_none, KlD.zero, Option.isSome_none]
          go_wp2
          refine bodyPost_ret (v := .tuple #[.agg #[.string ⟨#[]⟩, .string ⟨#[]⟩, .int .i64 0, .slice none 0 0], (.iface 71 (.agg #[.int .i64 1]))]) ?_ rfl ⟨⟨⟨[], Ty.zero⟩, _, rfl, rfl⟩, ?_⟩
          · simp [results, Tryz.f40, go_sem, z0, z1, z2, z3, hz5]
          · refine Ext.alloc ?_ _
            exact ext_set4 X4.out (by omega) _ _ _ _
        | some c =>
          have Hc := hide (Hmem.out c rfl)
          have HR2 : Hid (R = (atZ c.sups p.n).map fun s => (⟨s, a.ty⟩ : Pd)) := hide HR.out
          clear Hmem HR
          go_wp2_with fail
          refine HC.out.mono ?_
          rintro e w4 ⟨rfl, hx4⟩
          have X4 := hide (X1.out.trans hx4)
          have B5 := hide ((hx4.heap (lt_of_obj B3.out)).trans B3.out)
          obtain ⟨z0, z1, z2, z3, zf0, zf1, zf2, zf3⟩ := p0_cells B5.out
          have hz5 := lt_of_obj B5.out
          have B6 := hide (HB8.out.ext hx4)
          have hz6 := B6.out.lt
          obtain ⟨a0, a1, a2, a3⟩ := B6.out.cells
          have af0 := B6.out.free 0
          have B7 := hide (B2.out.ext hx4)
          have hz7 := B7.out.lt
          obtain ⟨d0, d1, -, -⟩ := B7.out.cells
          have Hc4 := hide (Hc.out.ext X4.out)
          clear hx4 c0 c1 e0 e1 e2 y0 y1 y2 y3 yf0 yf1 yf2 yf3
          simp only [Option.getD_some, Option.isSome_some]
          by_cases hn : p.n < 0
          · have hR : R = none := by rw [HR2.out, atZ_none (by omega)]; rfl
            clear HR2
            subst hR
            go_wp2
            refine bodyPost_ret (v := .tuple #[.agg #[.string ⟨#[]⟩, .string ⟨#[]⟩, .int .i64 0, .slice none 0 0], (.iface 71 (.agg #[.int .i64 1]))]) ?_ rfl ⟨⟨⟨[], Ty.zero⟩, _, rfl, rfl⟩, ?_⟩
            · simp [results, Tryz.f40, go_sem, z0, z1, z2, z3, hz5]
            · refine Ext.alloc ?_ _
              exact ext_set4 X4.out (by omega) _ _ _ _
          by_cases hn2 : p.n ≥ (c.sups.length : Int)
          · have hR : R = none := by rw [HR2.out, atZ_none (by omega)]; rfl
            clear HR2
            subst hR
            go_wp2
            refine bodyPost_ret (v := .tuple #[.agg #[.string ⟨#[]⟩, .string ⟨#[]⟩, .int .i64 0, .slice none 0 0], (.iface 71 (.agg #[.int .i64 1]))]) ?_ rfl ⟨⟨⟨[], Ty.zero⟩, _, rfl, rfl⟩, ?_⟩
            · simp [results, Tryz.f40, go_sem, z0, z1, z2, z3, hz5]
            · refine Ext.alloc ?_ _
              exact ext_set4 X4.out (by omega) _ _ _ _
          obtain ⟨m, hm⟩ : ∃ m : Nat, p.n = (m : Int) := ⟨p.n.toNat, by omega⟩
          have hml : m < c.sups.length := by omega
          have hm1 : (m : Int) < (c.sups.length : Int) := by omega
          have hm0 : (0 : Int) ≤ (m : Int) := by omega
          obtain ⟨s, hs⟩ : ∃ s, s = c.sups[m]'hml := ⟨_, rfl⟩
          have hR : R = some ⟨s, a.ty⟩ := by rw [HR2.out, hm, atZ_nat _ _ hml, hs]; rfl
          rw [hm] at d1
          clear HR2 hn hn2
          obtain ⟨b9, o9, eS, hb9, hs9⟩ := Strs.at_ Hc4.out.srow hml
          have eg : c.sups.getD m [] = s := by rw [hs]; simp [hml]
          rw [eg] at hs9
          subst hR
          simp only [klV]
          rw [eS]
          clear eS eg hm hs
          have hne3 : b8 ≠ w.heap.size + 1 + 1 := by have := HsW.out; omega
          have hne4 : w.heap.size + 1 + 1 ≠ b8 := by omega
          go_wp2
          refine bodyPost_ret (v := .tuple #[.agg #[encStr s, encStr a.ty.con, .int .i64 a.ty.var, .slice a.ty.A a.ty.args.length a.ty.cap], .nilIface]) ?_ rfl ⟨⟨⟨s, a.ty⟩, _, rfl, rfl, rfl⟩, ?_⟩
          · simp [results, Tryz.f40, go_sem, z0, z1, z2, z3, hz5]
          · refine Ext.alloc ?_ _
            exact ext_set4 (X4.out.setCell (by show _ ≤ b8; have := X0.out.size; omega) _) (by omega) _ _ _ _
  · have HO : Hid (aboveR x.classes p (p.kids.map (prv x.classes x.insts given)) = none) := hide (by unfold aboveR; rw [if_neg (by omega)])
    have hk2 : ((p.kids.length : Int) != 1) = true := by simpa using hk
    generalize p.kids.length = kl at *
    go_enter Tryz.func40, Tryz.ntmps40
    go_upto_region 1 with fail
    rw [HW.out]
    clear HW
    go_wp2
    refine bodyPost_ret (v := .tuple #[.agg #[.string ⟨#[]⟩, .string ⟨#[]⟩, .int .i64 0, .slice none 0 0], (.iface 71 (.agg #[.int .i64 1]))]) ?_ rfl ⟨⟨⟨[], Ty.zero⟩, _, rfl, by rw [HO.out]; rfl⟩, ?_⟩
    · simp [results, Tryz.f40, go_sem, y0, y1, y2, y3]
    · exact ext_set4 X0.out (by omega) _ _ _ _

end Go.Proofs.YtpdcjjgkpbpleaaGreatDoor
