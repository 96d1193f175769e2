/- Contracts of Go's package slices on rows of numbers: what is deleted, whether one is there, sorted, runs made one. -/
import Derived.Test.YtcnkfkjgpdmebaaGreatDoorJN25
import Derived.Shelf.GgSortFunc.Insertion
import Derived.Lib.SlicesCompact
import Derived.Laws.OwnMore
import Derived.Lib.SliceRun
import Derived.Test.YtcnkfkjgpdmebaaGreatDoorProg
import Derived.WalkSpells
import Derived.WalkLawsBesides
import Derived.Deep.QuietTactic
import Derived.BigQuiet
/- Contracts of Go's package slices on rows of numbers: what is deleted, whether one is there, sorted, runs made one. -/
namespace Go.Proofs.YtcnkfkjgpdmebaaGreatDoor
open Go.RowKit Go.Sort Go.Shelf

section
variable {α : Type} [Inhabited α] (enc : α → Value) (w : World) (blk off m : Nat) (dk : Array α) (os : Array Obj)
end
end Go.Proofs.YtcnkfkjgpdmebaaGreatDoor

/- Contracts: all variables of predicates, and of a type and predicates; of the program. -/
namespace Go.Proofs.YtcnkfkjgpdmebaaGreatDoor
open Go.RowKit

end Go.Proofs.YtcnkfkjgpdmebaaGreatDoor

/- A row of predicates, to append to. -/
namespace Go.Proofs.YtcnkfkjgpdmebaaGreatDoor
open Go.RowKit

theorem pred_info : (Tryz.prog.info? 55).map (fun i => (i.zero, i.size, i.bytes)) = some (some (.agg #[.string ⟨#[]⟩, .string ⟨#[]⟩, .int .i64 0, .slice none 0 0]), 4, 64) := by kernel_rfl
theorem one_pds (l : List Pd) : ∀ u ∈ l.flatMap pdC.f, u.oneCell' = true := by
  intro u hu
  obtain ⟨p, -, hp⟩ := List.mem_flatMap.1 hu
  have hp' : u ∈ [encStr p.cls, encStr p.ty.con, .int .i64 p.ty.var, .slice p.ty.A p.ty.args.length p.ty.cap] := hp
  simp at hp'
  rcases hp' with rfl | rfl | rfl | rfl <;> rfl

theorem pd_row1 {w : World} {vb : Nat} {x : Pd} (h : w.heap[vb]? = some (.cells (pdC.f x).toArray 55 (0, 0))) : Row w (some ⟨vb, 0, none⟩) 4 1 (pdC.f x) := by
  have h1 : w.heap[vb]? = some (.cells ([x].flatMap pdC.f).toArray 55 (0, 0)) := by simpa using h
  have := RowOf.block pdC [x] h1
  unfold RowOf at this
  exact (by simpa using this : Row w (some ⟨vb, 0, none⟩) pdC.k 1 (pdC.f x))

end Go.Proofs.YtcnkfkjgpdmebaaGreatDoor

/- Contracts on the reference: whether a number is in a row; each once; all variables of a type. -/
namespace Go.Proofs.YtcnkfkjgpdmebaaGreatDoor
open Go.RowKit

end Go.Proofs.YtcnkfkjgpdmebaaGreatDoor

/- Contracts on the reference: all variables of a type. (A program of ours has printed a part.) -/
namespace Go.Proofs.YtcnkfkjgpdmebaaGreatDoor
open Go.RowKit

end Go.Proofs.YtcnkfkjgpdmebaaGreatDoor

/- Schemes in memory; contracts: all variables of a type and predicates; whether a scheme may be; of the program, and of the reference. -/
namespace Go.Proofs.YtcnkfkjgpdmebaaGreatDoor
open Go.RowKit

end Go.Proofs.YtcnkfkjgpdmebaaGreatDoor

/- Substitutions at work: predicates with all variables replaced. -/
namespace Go.Proofs.YtcnkfkjgpdmebaaGreatDoor
open Go.RowKit

/-- Some predicates that have been made, away from their own row. -/
structure DpsOk (N : Nat) (w' : World) (row : Option Nat) (s : List Pr) (l ds : List Pd) : Prop where
  away : ∀ d ∈ ds, ∀ c, c < N → (∀ x ∈ l, awayB c x.ty = true) → awayB c d.ty = true
  ty : ∀ d ∈ ds, TyIn w' d.ty
  off : ∀ d ∈ ds, ∀ c, row = some c → awayB c d.ty = true
  is : ds.map (fun d => (d.cls, d.ty.pure)) = l.map fun x => (x.cls, putP (vsP s) (tsP s) x.ty)
theorem DpsOk.len {N : Nat} {w' : World} {row : Option Nat} {s : List Pr} {l ds : List Pd} (h : DpsOk N w' row s l ds) : ds.length = l.length := by simpa using congrArg List.length h.is
/-- May all be put? -/
def putsOk (s : List Pr) (l : List Pd) : Prop := ∀ x ∈ l, legalT x.ty = true ∧ szS (vsP s) (tsP s) x.ty ≤ 4096 ∧ dpS (vsP s) (tsP s) x.ty ≤ 100

set_option maxRecDepth 10000 in
set_option maxHeartbeats 8000000 in
theorem s_preds (p : Nat) (A : Option Addr) (cap : Nat) (s : List Pr) (B : Option Addr) (bc : Nat) (l : List Pd) (w : World) (hs : SubIn w p A cap s) (hsm : ∀ x ∈ s, legalT x.ty = true) (hl : PdsIn w B l) (hlen : l.length ≤ 40000) (hok : putsOk s l) :
    Calls Tryz.prog 197 #[.pointer (some ⟨p, 0, none⟩), .slice B l.length bc] w fun e w' => (∃ v ds, e = .returned (.tuple #[v, .int .i64 0]) ∧ w'.ownsRow w.heap.size 55 4 v ds.length (ds.flatMap pdC.f) ∧ DpsOk w.heap.size w' v.ownBlock s l ds) ∧ Ext w w' := by
  obtain ⟨i0, hi, hz0, hz1, hz2⟩ := info_parts pred_info
  have HS := hide hs
  have HSm := hide hsm
  have HL := hide hl
  have HOk := hide hok
  have HApp := hide (fun (x : Pd) (hx : x ∈ l) w' (e : Ext w w') => hide (s_apply p A cap s x.ty w' (hs.ext e) hsm ((hl.all x hx).ty.ext e) (by have := (legal_parts (hok x hx).1).1; omega)))
  clear hs hsm hl hok
  go_enter Tryz.func197, Tryz.ntmps197
  go_wp2
  go_loopw [6, 13] (fun v i wr => ∃ (k : Nat) (ds : List Pd), k ≤ l.length ∧ i = .int .i64 k ∧ Hid (Ext w wr) ∧ Hid (wr.ownsRow w.heap.size 55 4 v ds.length (ds.flatMap pdC.f)) ∧ Hid (DpsOk w.heap.size wr v.ownBlock s (l.take k) ds)) (fun _ i _ => l.length - (intOf i).toNat)
  case atStart => exact ⟨0, [], Nat.zero_le _, rfl, hide (Ext.refl _), hide (World.ownsRow_nil _ _ _ _), hide ⟨by simp, by simp, by simp, rfl⟩⟩
  case round =>
    obtain ⟨k, ds, hk, rfl, HX, HO, HD⟩ := hrel
    by_cases hlt : k < l.length
    · have hlt' : (k : Int) < (l.length : Int) := by omega
      have hk0 : (0 : Int) ≤ (k : Int) := by omega
      obtain ⟨b, o, rfl, hb, q0, q1, q2, q3⟩ := (HL.out.ext HX.out).at_ hlt
      have hm := List.getElem_mem hlt
      have HAx := hide (HApp.out _ hm)
      have Hx := hide (HL.out.all _ hm)
      have Hpo := hide (HOk.out _ hm)
      have Htk : Hid (l.take (k + 1) = l.take k ++ [l[k]'hlt]) := hide (List.take_succ_eq_append_getElem hlt)
      have hdl : ds.length ≤ 40000 := by have := HD.out.len; rw [List.length_take] at this; omega
      generalize l[k]'hlt = x at *
      clear hm
      unfold tyV at HAx
      go_wp2_with fail
      refine (HAx.out _ (HX.out.alloc _)).out.mono ?_
      rintro e w3 ⟨⟨u, n, rfl, hu⟩, hx3⟩
      obtain ⟨rfl, hup⟩ := hu.yes Hpo.out.1 Hpo.out.2
      have Hu := hide hu
      have Hup := hide hup
      have X3 := hide ((HX.out.alloc _).trans hx3)
      have Xr3 := hide ((Ext.refl wr).alloc _ |>.trans hx3)
      have hb8 : Hid (w3.heap[wr.heap.size]? = some (.cells #[encStr x.cls, encStr x.ty.con, .int .i64 x.ty.var, .slice x.ty.A x.ty.args.length x.ty.cap] 55 (0, 0))) := hide ((hx3.heap (by simp)).trans (at_newB wr _ _ rfl))
      have c0 : w3.cell? ⟨wr.heap.size, 0, none⟩ = some (encStr x.cls) := bytes_block hb8.out 0
      have hlt8 := lt_of_obj hb8.out
      clear hu hup hx3
      go_wp2_with (at_builtin; refine wpList_append_row _ rfl _ _ 27 rfl w.heap.size 55 i0 _ 4 64 Tryz.underlying27 hi hz0 hz1 hz2 rfl (by decide) u6 ds.length (ds.flatMap pdC.f) rfl (own_extB HO.out ?c1) (some ⟨w3.heap.size + 1, 0, none⟩) 1 1 (pdC.f (Pd.mk x.cls u)) rfl ?c2 ?c3 ?c4 ?c5 ?c6 ?_)
      case c1 => exact (Xr3.out.alloc _).alloc _
      case c2 => exact pd_row1 (at_newB _ _ _ (by simp))
      case c3 => have := one_pds [Pd.mk x.cls u]; simpa using this
      case c4 => unfold maxLen; omega
      case c5 => omega
      case c6 => exact Nat.le_trans X3.out.size (by simp; omega)
      intro v5 w5 hown5 hg5 hor5
      have X5 := hide (Ext.app ((X3.out.alloc _).alloc _) hg5 (own_extB HO.out ((Xr3.out.alloc _).alloc _)) (Nat.le_refl _))
      have O5 : Hid (w5.ownsRow w.heap.size 55 4 v5 (ds ++ [Pd.mk x.cls u]).length ((ds ++ [Pd.mk x.cls u]).flatMap pdC.f)) := hide (by rw [List.length_append, List.flatMap_append]; simpa using hown5)
      have D5 : Hid (DpsOk w.heap.size w5 v5.ownBlock s (l.take (k + 1)) (ds ++ [Pd.mk x.cls u])) := hide (by
        have hlo := fun c (hc : u6.ownBlock = some c) => HO.out.lt c hc
        have hau : ∀ c, u6.ownBlock = some c → awayB c u = true := fun c hc => Hu.out.away c (by have := (hlo c hc).2; simp; omega) (away_new Hx.out.ty (hlo c hc).1)
        have hty : ∀ d ∈ ds ++ [Pd.mk x.cls u], TyIn ((w3.alloc (.cells #[encStr u.con, .int .i64 u.var, .slice u.A u.args.length u.cap] 53)).alloc (.cells (pdC.f (Pd.mk x.cls u)).toArray 55)) d.ty ∧ ∀ c, u6.ownBlock = some c → awayB c d.ty = true := by
          intro d hd
          rcases List.mem_append.1 hd with hd | hd
          · exact ⟨(HD.out.ty d hd).ext ((Xr3.out.alloc _).alloc _), fun c hc => HD.out.off d hd c hc⟩
          · rw [List.mem_singleton] at hd
            subst hd
            exact ⟨Hu.out.ty.ext (((Ext.refl _).alloc _).alloc _), hau⟩
        refine ⟨fun d hd c hc hx => ?_, fun d hd => (hty d hd).1.grown hg5 (hty d hd).2, fun d hd c hc => ?_, ?_⟩
        · rw [Htk.out] at hx
          rcases List.mem_append.1 hd with hd | hd
          · exact HD.out.away d hd c hc (fun y hy => hx y (List.mem_append.2 (.inl hy)))
          · rw [List.mem_singleton] at hd
            subst hd
            exact Hu.out.away c (by have := HX.out.size; simp; omega) (hx x (by simp))
        · rcases hor5 with h1 | h1
          · exact (hty d hd).2 c (h1 ▸ hc)
          · rw [h1] at hc; injection hc with hc; exact away_new (hty d hd).1 (by simp; omega)
        · rw [Htk.out, List.map_append, List.map_append, HD.out.is]
          simp [Hup.out])
      clear hown5 hg5 hor5
      go_wp2
      go_roundw
      case rel => exact ⟨k + 1, _, hlt, by go_num, X5, O5, D5⟩
      case measure => simp [intOf]; omega
    · have hge : ¬ (k : Int) < (l.length : Int) := by omega
      have HDd : Hid (DpsOk w.heap.size wr u6.ownBlock s l ds) := hide (by have := HD.out; rwa [List.take_of_length_le (by omega)] at this)
      go_wp2
      go_ret2
      exact ⟨⟨_, rfl, ds, HO.out, HDd.out⟩, HX.out⟩

end Go.Proofs.YtcnkfkjgpdmebaaGreatDoor

/- Contracts: what a proof is of; the same, told in new memory. -/
namespace Go.Proofs.YtcnkfkjgpdmebaaGreatDoor
open Go.RowKit

/-- What a proof is of, whatever it is. -/
theorem p_prove (x : EnD) (G : Option Addr) (gc : Nat) (given : List Pd) (p : Pf) : PrvC x G gc given 79 (prv x.classes x.insts given p) p := by
  induction p using Pf.ind with
  | h p ih =>
  cases h1 : (p.kind == 1)
  · cases h2 : (p.kind == 2)
    · cases h3 : (p.kind == 3)
      · exact p_none x G gc given p h1 h2 h3
      · exact p_instK x G gc given p h1 h2 h3 (p_inst x G gc given p ih)
    · exact p_super x G gc given p h1 h2 (p_above x G gc given p ih)
  · exact p_given x G gc given p h1

theorem setPd_grown (W : World) (b : Nat) (a : Pd) : W.grownBy (setPd W b a) (some b) := by
  refine ⟨rfl, rfl, rfl, by rw [setPd_size]; exact Nat.le_refl _, fun k _ hk => setPd_other a (fun e => hk (by rw [e]))⟩
theorem sub_none {w : World} {B p : Nat} (h : SubOwn w B p (.slice none 0 0) []) : SubIn w p none 0 [] := by
  obtain ⟨A, cap, e, hs⟩ := h.sub
  injection e with e1 _ e3
  subst e1 e3
  exact hs
/-- What Proves tells. -/
structure PvsOk (w w' : World) (o : Option Pd) (b : Pd) (n : Int) : Prop where
  yes : ∀ a, o = some a → n = 0 ∧ PdEq b a
  no : o = none → n = 1 ∧ b = ⟨[], Ty.zero⟩
  inn : PdIn w' b
  away : ∀ c, c < w.heap.size → (∀ a, o = some a → awayB c a.ty = true) → awayB c b.ty = true
theorem cell3 {y : World} {B b i : Nat} (h : b ≠ B) (v0 v1 v2 : Value) {u : Value} (k : y.cell? ⟨b, i, none⟩ = some u) : (((y.setCell ⟨B, 0, none⟩ v0).setCell ⟨B, 1, none⟩ v1).setCell ⟨B, 2, none⟩ v2).cell? ⟨b, i, none⟩ = some u := by
  refine (World.cell?_of_block (a := ⟨b, i, none⟩) ?_).trans k
  show (((y.setCell ⟨B, 0, none⟩ v0).setCell ⟨B, 1, none⟩ v1).setCell ⟨B, 2, none⟩ v2).heap[b]? = y.heap[b]?
  rw [Below.heap_setCell _ _ _ _ h, Below.heap_setCell _ _ _ _ h, Below.heap_setCell _ _ _ _ h]
theorem putP_none (t : Ty) : putP [] [] t = t.pure := by
  induction t using Ty.ind with
  | h t ih =>
  have e : putAt [] [] t.var = none := rfl
  have el : t.args.map (putP [] []) = t.args.map Ty.pure := List.map_congr_left fun k hk => ih k hk
  rw [putP_eq, e, el]
  conv => rhs; rw [Ty.pure_eq]
  split
  · rw [Option.getD_none, Ty.pure_eq]
  · rfl
theorem app_nil {w w' : World} {t u : Ty} {n : Int} (hl : legalT t = true) (hu : ApplyOk w w' [] t u n) : n = 0 ∧ u.pure = t.pure := by
  have h := legal_put (vars := []) (types := []) (by simp) hl (putP_none t).symm
  rw [hl] at h
  have h := h.symm
  rw [Bool.and_eq_true, decide_eq_true_eq, decide_eq_true_eq] at h
  obtain ⟨h1, h2⟩ := hu.yes hl h
  exact ⟨h1, h2.trans (putP_none t)⟩
/-- A type, told in new memory, and its box. -/
structure AppAt (w W wx : World) (b : Nat) (t u : Ty) : Prop where
  x : Ext W wx
  le : W.heap.size ≤ b
  box : TBox wx b u
  ty : TyIn wx u
  is : u.pure = t.pure
  away : ∀ c, c < W.heap.size → awayB c t = true → awayB c u = true
theorem AppAt.behind {w W wc y : World} {t u : Ty} (hW : Ext W wc) (hx : Ext wc y) (hu : TyIn y u) (hp : u.pure = t.pure) (ha : ∀ c, c < wc.heap.size → awayB c t = true → awayB c u = true) : AppAt w W (y.alloc (.cells #[encStr u.con, .int .i64 u.var, .slice u.A u.args.length u.cap] 53)) y.heap.size t u :=
  ⟨(hW.trans hx).alloc _, (hW.trans hx).size, TBox.new y u, hu.ext ((Ext.refl _).alloc _), hp, fun c hc => ha c (by have := hW.size; omega)⟩
theorem AppAt.ahead {w W wc y : World} {t u : Ty} {B : Nat} (hW : Ext W wc) (hx : Ext wc y) (hB : W.heap.size ≤ B) (hz : wc.heap[B]? = some (.cells #[.string ⟨#[]⟩, .int .i64 0, .slice none 0 0] 53 (0, 0))) (ht : TyIn W t) (hu : TyIn y u) (hp : u.pure = t.pure)
    (ha : ∀ c, c < wc.heap.size → awayB c t = true → awayB c u = true) :
    AppAt w W (((y.setCell ⟨B, 0, none⟩ (encStr u.con)).setCell ⟨B, 1, none⟩ (.int .i64 u.var)).setCell ⟨B, 2, none⟩ (.slice u.A u.args.length u.cap)) B t u := by
  obtain ⟨h1, h2⟩ := zt2 hW hx hB hz u
  exact ⟨h1, hB, h2, hu.grown (put3_grown _ B 0 1 2 _ _ _) (fun c e => by injection e with e; subst e; exact ha _ (lt_of_obj hz) (away_new ht hB)), hp, fun c hc => ha c (by have := hW.size; omega)⟩

set_option maxRecDepth 10000 in
set_option maxHeartbeats 8000000 in
theorem p_proves (x : EnD) (G : Option Addr) (gc : Nat) (given : List Pd) (p : Pf) (w : World) (he : EnIn w x) (hg : PdsIn w G given) (hp : PfIn w p)
    (hgl : w.cell? ⟨2, 0, none⟩ = some (.iface 203 (.agg #[.pointer (some ⟨4, 78, none⟩)]))) :
    Calls Tryz.prog 49 #[enV x, .slice G given.length gc, pfV p] w fun e w' => (∃ b n, e = .returned (.tuple #[pdV b, .int .i64 n]) ∧ PvsOk w w' (prv x.classes x.insts given p) b n) ∧ Ext w w' := by
  obtain ⟨W, hW⟩ : ∃ W, W = ((w.alloc (.cells #[.slice x.D x.datas.length x.dc, .slice x.C x.classes.length x.cc, .slice x.I x.insts.length x.ic] 26)).alloc (.cells #[.int .i64 p.kind, .int .i64 p.n, .slice p.T p.types.length p.tc, .slice p.A p.kids.length p.cap] 34)).alloc (.cells #[.string ⟨#[]⟩, .string ⟨#[]⟩, .int .i64 0, .slice none 0 0] 55) := ⟨_, rfl⟩
  have HW := hide hW.symm
  have X0 : Hid (Ext w W) := hide (by rw [hW]; exact (((Ext.refl _).alloc _).alloc _).alloc _)
  have B1 : Hid (EnBox W w.heap.size x) := hide (by rw [hW]; exact (EnBox.new w x).ext (((Ext.refl _).alloc _).alloc _))
  have B2 : Hid (FBox W (w.heap.size + 1) p) := hide (by rw [hW]; exact FBox.ext (at_newB _ _ _ (by simp)) ((Ext.refl _).alloc _))
  have B3 : Hid (W.heap[w.heap.size + 1 + 1]? = some (.cells #[.string ⟨#[]⟩, .string ⟨#[]⟩, .int .i64 0, .slice none 0 0] 55)) := hide (by rw [hW]; exact at_newB _ _ _ (by simp))
  have HsW : Hid (W.heap.size = w.heap.size + 3) := hide (by rw [hW]; simp)
  have HG := hide hgl
  have HP := hide (p_prove x G gc given p W (he.ext X0.out) (hg.ext X0.out) (hp.ext X0.out))
  have HIn := hide (fun a (ha : prv x.classes x.insts given p = some a) => (And.intro (prv_in he hg p hp a ha) (prv_legal ha)))
  obtain ⟨c0, c1, c2, c3⟩ := B2.out.cells
  obtain ⟨e0, e1, e2⟩ := B1.out.cells
  clear hW he hg hp hgl
  unfold enV pfV pdV at *
  generalize prv x.classes x.insts given p = O at *
  go_enter Tryz.func49, Tryz.ntmps49
  go_upto_region 1 with fail
  rw [HW.out]
  clear HW
  go_wp2_with fail
  refine HP.out.mono ?_
  rintro e w2 ⟨⟨q, er, rfl, hok⟩, hx2⟩
  have X2 := hide (X0.out.trans hx2)
  have B3 := hide ((hx2.heap (lt_of_obj B3.out)).trans B3.out)
  have HB2 := hide (lt_of_obj B3.out)
  clear hx2 c0 c1 c2 c3 e0 e1 e2 HP B1 B2
  go_upto_region 3 with fail
  refine wp_name ?_
  intro W3 hW3
  have E3 : Hid (Ext w2 W3) := hide (by rw [hW3]; exact ((Ext.refl _).alloc _).alloc _)
  have D1 : Hid (PdBox W3 w2.heap.size q) := hide (by rw [hW3]; exact (PdBox.new w2 q).ext ((Ext.refl _).alloc _))
  have D2 : Hid (W3.heap[w2.heap.size + 1]? = some (.cells #[.int .i64 0] 142 (0, 0))) := hide (by rw [hW3]; exact at_newB _ _ _ (by simp))
  have X3 := hide (X2.out.trans E3.out)
  have B3 := hide ((E3.out.heap (lt_of_obj B3.out)).trans B3.out)
  cases O with
  | none =>
    obtain rfl := hok.none
    clear hok
    have k0 := bytes_block D2.out 0
    simp only [List.getElem?_toArray, List.getElem?_cons_zero] at k0
    have kf := free_block D2.out 0
    have HA := hide (as_hit 1 (w2.heap.size + 1) _ W3 (X3.out.cell HG.out) k0 kf)
    clear hW3
    go_wp2_with fail
    refine HA.out.mono ?_
    rintro e y ⟨rfl, hy⟩
    have hs2 := X2.out.size
    have X4 : Hid (Ext w y) := hide (by rw [hy]; exact ((((X3.out.setCell (by show _ ≤ w2.heap.size + 1; omega) _).alloc _).alloc _).alloc _).alloc _)
    have D3 : Hid (y.heap[w2.heap.size + 1]? = some (.cells #[.int .i64 1] 142 (0, 0))) := hide (by
      rw [hy]
      refine (((((Ext.refl _).alloc _).alloc _).alloc _).alloc _ |>.heap ?_).trans ?_
      · simp [World.setCell]; exact lt_of_obj D2.out
      · have := blk_setCell D2.out 0 (.int .i64 1); simpa using this)
    have B4 : Hid (y.heap[w.heap.size + 1 + 1]? = some (.cells #[.string ⟨#[]⟩, .string ⟨#[]⟩, .int .i64 0, .slice none 0 0] 55)) := hide (by
      rw [hy]
      refine (((((Ext.refl _).alloc _).alloc _).alloc _).alloc _ |>.heap ?_).trans ?_
      · simp [World.setCell]; exact lt_of_obj B3.out
      · rw [Below.heap_setCell _ _ _ _ (by show _ ≠ w2.heap.size + 1; have := HsW.out; have := X0.out.size; have hx : w.heap.size + 1 + 1 < w2.heap.size := HB2.out; omega)]; exact B3.out)
    clear hy HA k0 kf
    have k0 := bytes_block D3.out 0
    simp only [List.getElem?_toArray, List.getElem?_cons_zero] at k0
    obtain ⟨y0, y1, y2, y3, yf0, yf1, yf2, yf3⟩ := p0_cells B4.out
    have hy3 := lt_of_obj B4.out
    have hk3 := lt_of_obj D3.out
    have hne : w.heap.size + 1 + 1 ≠ w2.heap.size + 1 := by have := HB2.out; omega
    have hne2 : w2.heap.size + 1 ≠ w.heap.size + 1 + 1 := by omega
    go_wp2
    go_region
    go_wp2
    refine bodyPost_ret (v := .tuple #[.agg #[.string ⟨#[]⟩, .string ⟨#[]⟩, .int .i64 0, .slice none 0 0], .int .i64 1]) ?_ rfl ⟨⟨⟨[], Ty.zero⟩, 1, rfl, ⟨fun a h => by (cases h), fun _ => ⟨rfl, rfl⟩, ⟨Nat.zero_le _, TyIn.zero _⟩, fun c _ _ => zeroT_away c⟩⟩, ?_⟩
    · simp [results, Tryz.f49, go_sem, y0, y1, y2, y3]
    · exact (ext_set4 X4.out (by omega) _ _ _ _).drew
  | some a =>
    obtain ⟨rfl, rfl⟩ := hok.some
    clear hok hW3
    rename Pd => a
    obtain ⟨Ha, hleg⟩ := HIn.out a rfl
    have Ha := hide Ha
    have hsz : a.ty.size ≤ 900000 := by
      unfold pdB at hleg
      rw [Bool.and_eq_true] at hleg
      have := (legal_parts hleg.2).1
      omega
    have HLg : Hid (legalT a.ty = true) := hide (by unfold pdB at hleg; rw [Bool.and_eq_true] at hleg; exact hleg.2)
    have HN := hide (fun t w' => as_nil t w')
    have HT3 := hide (Ha.out.ty.ext X3.out)
    clear hleg
    obtain ⟨a0, a1, a2, a3⟩ := D1.out.cells
    have ha4 := D1.out.lt
    go_wp2_with fail
    refine (HN.out _ _).mono ?_
    rintro e w4 ⟨rfl, hw⟩
    rw [hw]
    clear hw w4
    go_upto_region 5 with fail
    have HSS := hide (fun w' (e : Ext W3 w') => And.intro (e.cell a1) (And.intro (e.cell a2) (e.cell a3)))
    have hne0 : w2.heap.size ≠ W3.heap.size := by omega
    go_cut [11, 12] (fun s11 s12 wx => ∃ (b11 : Nat) (u : Ty), s11 = .pointer (some ⟨b11, 0, none⟩) ∧ Hid (AppAt w W3 wx b11 a.ty u))
    case first =>
      go_region_held3 (fun w' => w'.cell? ⟨w2.heap.size, 1, none⟩ = some (encStr a.ty.con) ∧ w'.cell? ⟨w2.heap.size, 2, none⟩ = some (.int .i64 a.ty.var) ∧ w'.cell? ⟨w2.heap.size, 3, none⟩ = some (.slice a.ty.A a.ty.args.length a.ty.cap)) (first | with_reducible assumption | (obtain ⟨g1, g2, g3⟩ := kS; with_reducible exact ⟨cell3 hnk _ _ _ g1, cell3 hnk _ _ _ g2, cell3 hnk _ _ _ g3⟩) | go_keep) (first
        | (go_at_call 81
           refine Calls.mono (s_new _) ?_
           rintro e y1 ⟨rfl, hsub, hx1⟩
           have HSub := hide (sub_none hsub)
           first
             | (have HSub : Hid (SubIn y1 (W3.heap.size + 1) none 0 []) := hide (by have h := HSub.out; have e : ∀ o, (W3.alloc o).drew.heap.size = W3.heap.size + 1 := fun o => World.size_alloc W3 o; rw [e] at h; exact h))
             | skip
           have E1 : Hid (Ext W3 y1) := hide (by refine Ext.trans ?_ hx1; exact (by repeat (first | exact Ext.refl _ | exact Ext.pre (by simp) | exact Ext.alloc (by assumption) _ | refine Ext.alloc ?_ _ |  refine Ext.more ?_ _ _ | refine Ext.drew ?_ | refine Ext.drewN ?_ _)))
           have kS := HSS.out y1 E1.out
           (try (have hz1 := hide ((hx1.heap (lt_of_obj (at_newD W3 _))).trans (at_newD W3 _))))
           clear hsub hx1)
        | (go_at_call 82
           refine Calls.mono (s_apply _ none 0 [] a.ty _ (HSub.out.ext (by repeat (first | exact Ext.refl _ | exact Ext.pre (by simp) | exact Ext.alloc (by assumption) _ | refine Ext.alloc ?_ _ |  refine Ext.more ?_ _ _ | refine Ext.drew ?_ | refine Ext.drewN ?_ _))) (by simp) (HT3.out.ext (E1.out.trans (by repeat (first | exact Ext.refl _ | exact Ext.pre (by simp) | exact Ext.alloc (by assumption) _ | refine Ext.alloc ?_ _ |  refine Ext.more ?_ _ _ | refine Ext.drew ?_ | refine Ext.drewN ?_ _)))) hsz) ?_
           rintro e y2 ⟨⟨u, n, rfl, hu⟩, hx2⟩
           have Ec : Hid (Ext y1 y2) := hide (by refine Ext.trans ?_ hx2; exact (by repeat (first | exact Ext.refl _ | exact Ext.pre (by simp) | exact Ext.alloc (by assumption) _ | refine Ext.alloc ?_ _ |  refine Ext.more ?_ _ _ | refine Ext.drew ?_ | refine Ext.drewN ?_ _)))
           have kS := HSS.out y2 (E1.out.trans Ec.out)
           first
             | (have hz : Hid (y2.heap[y1.heap.size]? = some (.cells #[.string ⟨#[]⟩, .int .i64 0, .slice none 0 0] 53 (0, 0))) := hide (by with_reducible exact (hx2.heap (lt_of_obj (at_newB y1 _ _ rfl))).trans (at_newB y1 _ _ rfl)); have hnk : w2.heap.size ≠ y1.heap.size := by have := E1.out.size; omega)
             | (have hz := hide ((Ec.out.heap (lt_of_obj hz1.out)).trans hz1.out); have hnk := hne0)
             | skip
           try (have z0 := bytes_block hz.out 0; have z1 := bytes_block hz.out 1; have z2 := bytes_block hz.out 2; have z3 := free_block hz.out 0; have z4 := free_block hz.out 1; have z5 := free_block hz.out 2; simp only [List.getElem?_toArray, List.getElem?_cons_zero, List.getElem?_cons_succ] at z0 z1 z2)))
      all_goals (go_wp2_with fail; go_meet; first
        | exact ⟨y2.heap.size, u, rfl, hide (AppAt.behind E1.out hx2 hu.ty (app_nil HLg.out hu).2 hu.away)⟩
        | exact ⟨y1.heap.size, u, rfl, hide (AppAt.ahead (E1.out.trans ((Ext.refl _).alloc _)) hx2 E1.out.size (at_newB y1 _ _ rfl) HT3.out hu.ty (app_nil HLg.out hu).2 hu.away)⟩
        | exact ⟨W3.heap.size, u, rfl, hide (AppAt.ahead E1.out hx2 (Nat.le_refl _) hz1.out HT3.out hu.ty (app_nil HLg.out hu).2 hu.away)⟩)
    case rest =>
      obtain ⟨b11, u, rfl, HA⟩ := hcut
      have XA := hide (X3.out.trans HA.out.x)
      have B4 := hide ((HA.out.x.heap (lt_of_obj B3.out)).trans B3.out)
      have D4 := hide (D1.out.ext HA.out.x)
      have hyW := lt_of_obj B3.out
      clear a0 a1 a2 a3 HSS
      obtain ⟨y0, y1, y2, y3, yf0, yf1, yf2, yf3⟩ := p0_cells B4.out
      obtain ⟨a0, -, -, -⟩ := D4.out.cells
      have t0 := HA.out.box.c0
      have t1 := HA.out.box.c1
      have t2 := HA.out.box.c2
      have Haw := hide (HA.out.away _ hyW (away_new Ha.out.ty (by omega)))
      have Htg := hide (HA.out.ty.grown (setPd_grown _ (w.heap.size + 1 + 1) ⟨a.cls, u⟩) (fun c e => by injection e with e; subst e; exact Haw.out))
      have hcl := Ha.out.cls
      have Hpw : Hid (∀ c, c < w.heap.size → awayB c a.ty = true → awayB c u = true) := hide (fun c hc h => HA.out.away c (by have := X3.out.size; omega) h)
      have His := hide HA.out.is
      go_wp2
      refine bodyPost_ret (v := .tuple #[.agg #[encStr a.cls, encStr u.con, .int .i64 u.var, .slice u.A u.args.length u.cap], .int .i64 0]) ?_ rfl ⟨⟨⟨a.cls, u⟩, 0, rfl, ⟨fun a' h => (by cases h; exact ⟨rfl, rfl, His.out⟩), fun h => (by cases h), ⟨hcl, Htg.out⟩, fun c hc h => Hpw.out c hc (h a rfl)⟩⟩, ext_set4 XA.out (by omega) _ _ _ _⟩
      simp [results, Tryz.f49, go_sem, y0, y1, y2, y3]

end Go.Proofs.YtcnkfkjgpdmebaaGreatDoor

/- A world, named. -/
namespace Go.Proofs.YtcnkfkjgpdmebaaGreatDoor

end Go.Proofs.YtcnkfkjgpdmebaaGreatDoor

/- Contract: types in new memory (proofs'), of whatever size. -/
namespace Go.Proofs.YtcnkfkjgpdmebaaGreatDoor
open Go.RowKit

/-- Are these types those, in new memory? -/
structure CpL (w w' : World) (l : List Ty) (g : Nat) (us : List Ty) : Prop where
  len : us.length = l.length
  row : RowOf tyC w' (some ⟨g, 0, none⟩) us
  ty : ∀ u ∈ us, TyIn w' u
  is : us.map Ty.pure = l.map Ty.pure
  new : w.heap.size ≤ g
  away : ∀ u ∈ us, ∀ c, c < w.heap.size → awayB c u = true
theorem CpL.tys {w w' : World} {l us : List Ty} {g : Nat} (h : CpL w w' l g us) : TysIn w' (some ⟨g, 0, none⟩) us := ⟨h.row, h.ty⟩

end Go.Proofs.YtcnkfkjgpdmebaaGreatDoor

/- Proofs in a row, away from blocks; proofs in new memory: plain. -/
namespace Go.Proofs.YtcnkfkjgpdmebaaGreatDoor
open Go.RowKit

def OffF (c : Nat) (A : Option Addr) (n : Nat) : Prop := n ≠ 0 → ∀ a, A = some a → a.block ≠ c
theorem OffF.new {w : World} {A : Option Addr} {k n c : Nat} {l : List Value} (h : Row w A k n l) (hc : w.heap.size ≤ c) : OffF c A n := by
  intro hn a ha
  obtain ⟨b, o, e, hb, -⟩ := h.2 (by omega)
  subst ha
  injection e with e
  subst e
  show b ≠ c
  omega
/-- No part of a proof lies in block c. -/
inductive AwayF (c : Nat) : Pf → Prop
  | mk {t : Pf} (ty : OffF c t.T t.types.length) (tys : ∀ x ∈ t.types, awayB c x = true) (k : OffF c t.A t.kids.length) (kids : ∀ k ∈ t.kids, AwayF c k) : AwayF c t
section
variable {w w' : World} {t : Pf} {c : Nat}
theorem AwayF.ty (h : AwayF c t) : OffF c t.T t.types.length := by cases h; assumption
theorem AwayF.tys (h : AwayF c t) : ∀ x ∈ t.types, awayB c x = true := by cases h; assumption
theorem AwayF.k (h : AwayF c t) : OffF c t.A t.kids.length := by cases h; assumption
theorem AwayF.kids (h : AwayF c t) : ∀ k ∈ t.kids, AwayF c k := by cases h; assumption
theorem awayF_new (h : PfIn w t) (hc : w.heap.size ≤ c) : AwayF c t := by
  induction h with
  | mk h _ ih => exact .mk (OffF.new h.types.row hc) (fun x hx => away_new (h.types.args x hx) hc) (OffF.new h.row hc) ih
theorem PfIn.grown {row : Option Nat} (h : PfIn w t) (hg : w.grownBy w' row) (ha : ∀ c, row = some c → AwayF c t) : PfIn w' t := by
  induction h with
  | mk h _ ih =>
    refine .mk ⟨h.tle, h.tmax, h.le, h.max, ⟨row_grown h.types.row hg (fun hn a hA e => (ha _ e).ty hn a hA rfl), fun x hx => (h.types.args x hx).grown hg (fun c e => (ha c e).tys x hx)⟩, row_grown h.row hg (fun hn a hA e => (ha _ e).k hn a hA rfl)⟩ (fun k hk => ih k hk (fun c e => (ha c e).kids k hk))
end
/-! ### Proofs in a row -/
theorem pf_info4 : (Tryz.prog.info? 34).map (fun i => (i.zero, i.size, i.bytes)) = some (some (.agg #[.int .i64 0, .int .i64 0, .slice none 0 0, .slice none 0 0]), 4, 64) := by kernel_rfl
/-! ### Proofs in new memory -/
/-- Is this proof that one (what it says), in memory of its own? -/
structure CpF (w w' : World) (x : Pf.Pure) (u : Pf) : Prop where
  inn : PfIn w' u
  is : u.pure = x
  away : ∀ c, c < w.heap.size → AwayF c u
theorem CpF.ext {w w' w2 : World} {x : Pf.Pure} {u : Pf} (h : CpF w w' x u) (e : Ext w' w2) : CpF w w2 x u := ⟨h.inn.ext e, h.is, h.away⟩
theorem CpF.old {w w1 w' : World} {x : Pf.Pure} {u : Pf} (h : CpF w1 w' x u) (hs : w.heap.size ≤ w1.heap.size) : CpF w w' x u := ⟨h.inn, h.is, fun c hc => h.away c (by omega)⟩
/-- Some kids that have been made, away from the blocks that are written meanwhile. -/
structure CpsF (w w' : World) (R : Nat → Prop) (l : List Pf.Pure) (us : List Pf) : Prop where
  inn : ∀ u ∈ us, PfIn w' u
  is : us.map Pf.pure = l
  row : ∀ u ∈ us, ∀ c, R c → AwayF c u
  away : ∀ u ∈ us, ∀ c, c < w.heap.size → AwayF c u
section
variable {w w1 w2 w' : World} {R : Nat → Prop} {l : List Pf.Pure} {us : List Pf} {t : Pf.Pure} {u : Pf}
theorem CpsF.len (h : CpsF w w1 R l us) : us.length = l.length := by rw [← h.is, List.length_map]
theorem CpsF.nil (w w' : World) (R : Nat → Prop) : CpsF w w' R [] [] := ⟨by simp, rfl, by simp, by simp⟩
theorem CpsF.ext (h : CpsF w w1 R l us) (e : Ext w1 w2) : CpsF w w2 R l us := ⟨fun u hu => (h.inn u hu).ext e, h.is, h.row, h.away⟩
theorem CpsF.grown (h : CpsF w w1 R l us) {row : Option Nat} (hg : w1.grownBy w2 row) (hr : ∀ c, row = some c → R c) : CpsF w w2 R l us :=
  ⟨fun u hu => (h.inn u hu).grown hg (fun c e => h.row u hu c (hr c e)), h.is, h.row, h.away⟩
theorem CpsF.snoc (h : CpsF w w1 R l us) (k : CpF w1 w2 t u) (he : Ext w1 w2) (hs : w.heap.size ≤ w1.heap.size) (hr : ∀ c, R c → c < w1.heap.size) : CpsF w w2 R (l ++ [t]) (us ++ [u]) := by
  refine ⟨fun x hx => ?_, by rw [List.map_append, h.is]; simp [k.is], fun x hx c hc => ?_, fun x hx c hc => ?_⟩
  · rcases List.mem_append.1 hx with hx | hx
    · exact (h.inn x hx).ext he
    · rw [List.mem_singleton] at hx; subst hx; exact k.inn
  · rcases List.mem_append.1 hx with hx | hx
    · exact h.row x hx c hc
    · rw [List.mem_singleton] at hx; subst hx
      exact k.away c (hr c hc)
  · rcases List.mem_append.1 hx with hx | hx
    · exact h.away x hx c hc
    · rw [List.mem_singleton] at hx; subst hx
      exact k.away c (by omega)
/-- All kids have been made, and the types: the proof. -/
theorem CpsF.done {kind n : Int} {ts : List Ty} {g : Nat} {vs : List Ty} {b m : Nat} (h : CpsF w w' R l us) (hv : TysIn w' (some ⟨g, 0, none⟩) vs) (hvp : vs.map Ty.pure = ts.map Ty.pure) (hva : ∀ v ∈ vs, ∀ c, c < w.heap.size → awayB c v = true) (hg : w.heap.size ≤ g) (hvl : vs.length ≤ 9223372036854775807)
    (hm : us.length = m) (hml : m ≤ 9223372036854775807) (h3 : RowOf pfC w' (some ⟨b, 0, none⟩) us) (hb : w.heap.size ≤ b) : CpF w w' (.mk kind n (ts.map Ty.pure) l) (.mk kind n (some ⟨g, 0, none⟩) vs.length vs (some ⟨b, 0, none⟩) m us) where
  inn := .mk ⟨Nat.le_refl _, hvl, by show us.length ≤ m; omega, hml, hv, h3⟩ h.inn
  is := by rw [Pf.pure_eq]; show Pf.Pure.mk kind n (vs.map Ty.pure) (us.map Pf.pure) = _; rw [hvp, h.is]
  away c hc := .mk (fun _ a e => by injection e with e; subst e; show g ≠ c; omega) (fun v hv => hva v hv c hc) (fun _ a e => by injection e with e; subst e; show b ≠ c; omega) (fun u hu => h.away u hu c hc)
end

end Go.Proofs.YtcnkfkjgpdmebaaGreatDoor

/- Contracts on lists of texts: is one in a list; are two lists alike. -/
namespace Go.Proofs.YtcnkfkjgpdmebaaGreatDoor
open Go.RowKit Go.Sort

end Go.Proofs.YtcnkfkjgpdmebaaGreatDoor

/- Contract of chapter 33: an instance's name. (Split off XFsP.) -/
namespace Go.Proofs.YtcnkfkjgpdmebaaGreatDoor
open Go.RowKit

def nameS (c t : Str) : Str := ([64] : Str) ++ c ++ ([64] : Str) ++ t

set_option maxRecDepth 10000 in
set_option maxHeartbeats 1000000 in
theorem f_name (c t : Str) (w : World) (hc : c.length ≤ 1000000000000000000) (ht : t.length ≤ 1000000000000000000) :
    Calls Tryz.prog 83 #[encStr c, encStr t] w fun e w' => e = .returned (encStr (nameS c t)) ∧ w' = w := by
  have hs1 : ¬ ((⟨[(64 : UInt8)].toArray⟩ : ByteArray).size + (⟨c.toArray⟩ : ByteArray).size > 9223372036854775807) := by rw [ba_size, ba_size]; simp; omega
  have e1 := ByteArray.mk_append_mk [(64 : UInt8)] c
  have hs2 : ¬ ((⟨(64 :: c).toArray⟩ : ByteArray).size + (⟨[(64 : UInt8)].toArray⟩ : ByteArray).size > 9223372036854775807) := by rw [ba_size, ba_size]; simp; omega
  have e2 := ByteArray.mk_append_mk (64 :: c) [(64 : UInt8)]
  have hs3 : ¬ ((⟨(64 :: (c ++ [64])).toArray⟩ : ByteArray).size + (⟨t.toArray⟩ : ByteArray).size > 9223372036854775807) := by rw [ba_size, ba_size]; simp; omega
  have e3 := ByteArray.mk_append_mk (64 :: (c ++ [64])) t
  go_enter Tryz.func83, Tryz.ntmps83
  go_wp2
  go_ret
  exact ⟨by simp [nameS], rfl⟩

end Go.Proofs.YtcnkfkjgpdmebaaGreatDoor
