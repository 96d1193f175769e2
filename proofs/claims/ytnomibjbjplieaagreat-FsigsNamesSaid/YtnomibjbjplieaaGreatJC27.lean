/- Contract of chapter 33: a constructor's type. -/
import Derived.Test.YtnomibjbjplieaaGreatJC26
import Derived.RegionTactic
import Derived.Deep.DeepCutAuto
/- Contract of chapter 33: a constructor's type. -/
namespace Go.Proofs.YtnomibjbjplieaaGreat
open Go.RowKit

/-- A row of a type's args, and what they are all. -/
theorem sz_funP (l : List Ty) (q : Ty.Pure) : szP (funP l q) = szP q + (l.map Ty.size).sum + l.length := by
  induction l with
  | nil => simp [funP]
  | cons x l ih =>
    have e : funP (x :: l) q = arrP x.pure (funP l q) := rfl
    rw [e, show arrP x.pure (funP l q) = .mk [45, 62] 0 [x.pure, funP l q] from rfl, szP_eq]
    simp only [List.map_cons, List.map_nil, List.sum_cons, List.sum_nil, List.length_cons, ih, size_pure x]
    omega
/-- A constructor of variables. -/
def ofP (s : Str) (k : Nat) : Ty.Pure := .mk s 0 ((List.range k).map fun i => .mk [] ((i : Nat) : Int) [])
theorem conV_pure (s : Str) (A : Option Addr) (c k : Nat) : (conV s A c k).pure = ofP s k := by
  unfold conV ofP conVars
  rw [Ty.pure_eq]
  show Ty.Pure.mk s 0 (((List.range k).map fun i => Ty.mk [] ((i : Nat) : Int) none 0 []).map Ty.pure) = _
  rw [List.map_map]
  have : (Ty.pure ∘ fun i : Nat => Ty.mk [] (i : Int) none 0 []) = fun i : Nat => Ty.Pure.mk [] (i : Int) [] := by
    funext i
    show (Ty.mk [] (i : Int) none 0 []).pure = _
    rw [Ty.pure_eq]
    rfl
  rw [this]
theorem ofP_size (s : Str) (k : Nat) : szP (ofP s k) = k + 1 := by
  unfold ofP
  rw [szP_eq, List.map_map]
  have : ∀ n : Nat, ((List.range n).map (szP ∘ fun i : Nat => Ty.Pure.mk [] (i : Int) [])).sum = n := by
    intro n
    induction n with
    | zero => rfl
    | succ n ih =>
      rw [List.range_succ, List.map_append, List.sum_append, ih]
      simp [szP_eq]
  rw [this]

/-- A poly's box, written. -/
theorem po_ret {w W : World} {B : Nat} {l : List Int} {A : Option Addr} {c : Nat} {u : Ty} (x : Ext w W) (hB : w.heap.size ≤ B) (h1 : l.length ≤ c) (h2 : c ≤ 9223372036854775807) (h3 : Ints W A l) (h4 : ∀ a, A = some a → a.block ≠ B) (hu : TyIn W u) (ha : awayB B u = true) :
    PoIn ((((W.setCell ⟨B, 0, none⟩ (.slice A l.length c)).setCell ⟨B, 1, none⟩ (encStr u.con)).setCell ⟨B, 2, none⟩ (.int .i64 u.var)).setCell ⟨B, 3, none⟩ (.slice u.A u.args.length u.cap)) ⟨l, A, c, u⟩ ∧
    Ext w ((((W.setCell ⟨B, 0, none⟩ (.slice A l.length c)).setCell ⟨B, 1, none⟩ (encStr u.con)).setCell ⟨B, 2, none⟩ (.int .i64 u.var)).setCell ⟨B, 3, none⟩ (.slice u.A u.args.length u.cap)) := by
  have g : W.grownBy ((((W.setCell ⟨B, 0, none⟩ (.slice A l.length c)).setCell ⟨B, 1, none⟩ (encStr u.con)).setCell ⟨B, 2, none⟩ (.int .i64 u.var)).setCell ⟨B, 3, none⟩ (.slice u.A u.args.length u.cap)) (some B) := grown2 (grown_cell _ _ _ _) (put3_grown _ _ _ _ _ _ _ _)
  exact ⟨⟨h1, h2, row_grown h3 g (fun _ a ea e => by injection e with e; exact h4 a ea e.symm), hu.grown g (fun b e => by injection e with e; subst e; exact ha)⟩, x.grown g (fun b e => by injection e with e; omega)⟩
theorem zpo {a y : World} {B : Nat} (e : Ext a y) (h : a.heap[B]? = some (.cells zeroPo 34 (0, 0))) :
    y.cell? ⟨B, 0, none⟩ = some (.slice none 0 0) ∧ y.cell? ⟨B, 1, none⟩ = some (.string ⟨#[]⟩) ∧ y.cell? ⟨B, 2, none⟩ = some (.int .i64 0) ∧ y.cell? ⟨B, 3, none⟩ = some (.slice none 0 0) ∧ y.frozen? ⟨B, 0, none⟩ = false ∧ y.frozen? ⟨B, 1, none⟩ = false ∧ y.frozen? ⟨B, 2, none⟩ = false ∧ y.frozen? ⟨B, 3, none⟩ = false ∧ B < y.heap.size := by
  have hb := (e.heap (lt_of_obj h)).trans h
  exact ⟨bytes_block hb 0, bytes_block hb 1, bytes_block hb 2, bytes_block hb 3, free_block hb 0, free_block hb 1, free_block hb 2, free_block hb 3, lt_of_obj hb⟩
theorem ztF {a y : World} {B : Nat} (e : Ext a y) (h : a.heap[B]? = some (.cells #[.string ⟨#[]⟩, .int .i64 0, .slice none 0 0] 32 (0, 0))) :
    y.cell? ⟨B, 0, none⟩ = some (.string ⟨#[]⟩) ∧ y.cell? ⟨B, 1, none⟩ = some (.int .i64 0) ∧ y.cell? ⟨B, 2, none⟩ = some (.slice none 0 0) ∧ y.frozen? ⟨B, 0, none⟩ = false ∧ y.frozen? ⟨B, 1, none⟩ = false ∧ y.frozen? ⟨B, 2, none⟩ = false ∧ B < y.heap.size := by
  have hb := (e.heap (lt_of_obj h)).trans h
  exact ⟨bytes_block hb 0, bytes_block hb 1, bytes_block hb 2, free_block hb 0, free_block hb 1, free_block hb 2, lt_of_obj hb⟩
/-- A type in a box, away from it. -/
structure TyAt (w0 W : World) (B : Nat) (q : Ty.Pure) (u : Ty) : Prop where
  x : Ext w0 W
  lo : w0.heap.size ≤ B
  box : TBox W B u
  ty : TyIn W u
  is : u.pure = q
theorem TyAt.new {w0 W : World} {q : Ty.Pure} {u : Ty} (x : Ext w0 W) (h : TyIn W u) (hq : u.pure = q) : TyAt w0 (W.alloc (.cells #[encStr u.con, .int .i64 u.var, .slice u.A u.args.length u.cap] 32)) W.heap.size q u := ⟨x.alloc _, x.size, TBox.new _ _, h.ext ((Ext.refl _).alloc _), hq⟩
theorem TyAt.set {w0 a W : World} {B : Nat} {q : Ty.Pure} {u : Ty} (x : Ext w0 a) (e : Ext a W) (hb : w0.heap.size ≤ B) (hB : a.heap[B]? = some (.cells #[.string ⟨#[]⟩, .int .i64 0, .slice none 0 0] 32 (0, 0))) (h : TyIn W u) (ha : awayB B u = true) (hq : u.pure = q) :
    TyAt w0 (((W.setCell ⟨B, 0, none⟩ (encStr u.con)).setCell ⟨B, 1, none⟩ (.int .i64 u.var)).setCell ⟨B, 2, none⟩ (.slice u.A u.args.length u.cap)) B q u := by
  have g := put3_grown W B 0 1 2 (encStr u.con) (.int .i64 u.var) (.slice u.A u.args.length u.cap)
  refine ⟨(x.trans e).grown g (fun b e => by injection e with e; omega), hb, ?_, h.grown g (fun b e => by injection e with e; subst e; exact ha), hq⟩
  have := blk_setCell (blk_setCell (blk_setCell ((e.heap (lt_of_obj hB)).trans hB) 0 (encStr u.con)) 1 (.int .i64 u.var)) 2 (.slice u.A u.args.length u.cap)
  unfold TBox
  rw [this]
  rfl

/-- What a constructor's type is. -/
def conVs (F : Option (DaD × Nat)) : List Int := match F with
  | none => []
  | some (d, _) => rowF 0 d.n.toNat
noncomputable def conTy (F : Option (DaD × Nat)) : Ty.Pure := match F with
  | none => Ty.zero.pure
  | some (d, k) => match d.cons[k]? with
    | none => Ty.zero.pure
    | some c => funP c.types (ofP d.name d.n.toNat)
theorem conTy_some {d : DaD} {k : Nat} (hk : k < d.cons.length) : conTy (some (d, k)) = funP (d.cons[k]'hk).types (ofP d.name d.n.toNat) := by
  show (match d.cons[k]? with | none => Ty.zero.pure | some c => funP c.types (ofP d.name d.n.toNat)) = _
  rw [List.getElem?_eq_getElem hk]
structure ConOk (w : World) (F : Option (DaD × Nat)) (p : Po) : Prop where
  po : PoIn w p
  vars : p.vars = conVs F
  ty : p.ty.pure = conTy F
/-- Data that are not too great. -/
def DaFew (d : DaD) : Prop := d.n ≤ 100 ∧ d.cons.length ≤ 30 ∧ ∀ c ∈ d.cons, c.types.length ≤ 30 ∧ (c.types.map Ty.size).sum ≤ 20000
theorem conF_some {s : Str} {l : List DaD} {d : DaD} {k : Nat} (h : conF s l = some (d, k)) : d ∈ l ∧ ∃ hk : k < d.cons.length, (d.cons[k]'hk).name = s := by
  induction l with
  | nil => cases h
  | cons x l ih =>
    unfold conF at h
    cases hx : conIx s x with
    | none => rw [hx] at h; have := ih h; exact ⟨List.mem_cons_of_mem _ this.1, this.2⟩
    | some j =>
      rw [hx] at h
      injection h with h
      injection h with h1 h2
      subst h1 h2
      refine ⟨List.mem_cons_self, ?_⟩
      unfold conIx at hx
      rw [List.findIdx?_eq_some_iff_getElem] at hx
      obtain ⟨hj, hj2, -⟩ := hx
      exact ⟨hj, by simpa using hj2⟩

set_option maxRecDepth 10000 in
set_option maxHeartbeats 8000000 in
theorem f_con (x : EnD) (name : Str) (w : World) (h : EnIn w x) (hd : ∀ d ∈ x.datas, DaFew d) :
    Calls Tryz.prog 17 #[enV x, encStr name] w fun e w' => (∃ p : Po, e = .returned (.tuple #[poV p, .bool (conF name x.datas).isSome]) ∧ ConOk w' (conF name x.datas) p) ∧ Ext w w' := by
  obtain ⟨D, dc, datas, C, cc, cls, I, ic, insts⟩ := x
  obtain ⟨W, hW⟩ : ∃ W, W = (w.alloc (.cells #[.slice D datas.length dc, .slice C cls.length cc, .slice I insts.length ic] 26)).alloc (.cells #[.slice none 0 0, .string ⟨#[]⟩, .int .i64 0, .slice none 0 0] 34) := ⟨_, rfl⟩
  have HW := hide hW.symm
  have X0 : Hid (Ext w W) := hide (by rw [hW]; exact ((Ext.refl _).alloc _).alloc _)
  have B1 : Hid (EnBox W w.heap.size ⟨D, dc, datas, C, cc, cls, I, ic, insts⟩) := hide (by rw [hW]; exact (EnBox.new w _).ext ((Ext.refl _).alloc _))
  have B2 : Hid (W.heap[w.heap.size + 1]? = some (.cells zeroPo 34 (0, 0))) := hide (by rw [hW]; exact at_newB _ _ _ (by simp))
  have HD := hide (h.datas.ext X0.out)
  have HD0 := hide h.datas
  have HXs := hide X0.out.size
  have HCon := hide (t_con D dc datas name W HD.out h.dle h.dmax)
  have Hd := hide hd
  obtain ⟨c0, c1, c2⟩ := B1.out.cells
  have hbl := B1.out.lt
  clear hW h hd
  simp only [] at *
  have HS := hide (fun d k (e : conF name datas = some (d, k)) => conF_some e)
  generalize conF name datas = F at *
  unfold enV poV daV at *
  go_enter Tryz.func17, Tryz.ntmps17
  go_upto_region 1 with fail
  rw [HW.out]
  clear HW
  go_wp2_with fail
  refine HCon.out.mono ?_
  rintro e w2 ⟨rfl, hx⟩
  have X2 := hide hx
  clear hx HCon
  cases F with
  | none =>
    obtain ⟨k0, k1, k2, k3, f0, f1, f2, f3, hb3⟩ := zpo X2.out B2.out
    simp only [conD, conK, Option.map_none, Option.getD_none, Option.isSome_none]
    go_wp2
    refine bodyPost_ret (v := .tuple #[.agg #[.slice none 0 0, .string ⟨#[]⟩, .int .i64 0, .slice none 0 0], .bool false]) ?_ rfl ⟨⟨⟨[], none, 0, Ty.zero⟩, rfl, ⟨⟨Nat.le_refl _, Nat.zero_le _, RowOf.nil _ _ _, TyIn.zero _⟩, rfl, rfl⟩⟩, ?_⟩
    · simp [results, Tryz.f17, go_sem, k0, k1, k2, k3, hb3]
    · exact (((((X0.out.trans X2.out).setCell (by simp) _).setCell (by simp) _).setCell (by simp) _).setCell (by simp) _).alloc _
  | some dk =>
    obtain ⟨d, k⟩ := dk
    obtain ⟨hmem, hk, -⟩ := HS.out d k rfl
    have HDa := hide ((HD.out.all _ hmem).ext X2.out)
    have hda0 := HD0.out.all _ hmem
    obtain ⟨hn, hcl, hts⟩ := Hd.out _ hmem
    have Hvs : Hid (conVs (some (d, k)) = rowF 0 d.n.toNat) := hide rfl
    have Hct : Hid (conTy (some (d, k)) = funP (d.cons[k]'hk).types (ofP d.name d.n.toNat)) := hide (conTy_some hk)
    clear hmem HS HD HD0 Hd
    obtain ⟨dn, n, A, cap, cons⟩ := d
    simp only [conD, conK, Option.map_some, Option.getD_some, Option.isSome_some] at *
    have hdn : dn.length ≤ 1000000000000000000 := HDa.out.txt
    have hle : cons.length ≤ cap := HDa.out.le
    have hmx : cap ≤ 9223372036854775807 := HDa.out.max
    have hk' : k < cons.length := hk
    have hmc := List.getElem_mem hk
    have HTs := hide (HDa.out.row.all _ hmc).row
    have HT0 : Hid (∀ a ∈ (cons[k]'hk).types, TyIn w a) := hide (fun a ha => (hda0.row.all _ hmc).row.args a ha)
    obtain ⟨b, o, e0, hb, q0, q1⟩ := HDa.out.row.at_ hk
    have e0 : A = some ⟨b, o, none⟩ := e0
    subst e0
    obtain ⟨hc30, hcs⟩ := hts _ hmc
    have hk0 : (0 : Int) ≤ (k : Int) := by omega
    have hk1 : (k : Int) < (cons.length : Int) := by omega
    generalize cons[k]'hk = c at *
    clear hmc hda0 hts
    go_upto_region 4 with fail
    obtain ⟨W4, hW4⟩ : ∃ W4, W4 = w2.alloc (.cells #[encStr dn, .int .i64 n, .slice (some ⟨b, o, none⟩) cons.length cap] 55) := ⟨_, rfl⟩
    have X24 : Hid (Ext w2 W4) := hide (by rw [hW4]; exact (Ext.refl _).alloc _)
    have HB4 : Hid (DaBox W4 w2.heap.size ⟨dn, n, some ⟨b, o, none⟩, cap, cons⟩) := hide (by rw [hW4]; exact at_newB _ _ _ rfl)
    rw [← hW4]
    clear hW4
    have X4 := hide (X0.out.trans (X2.out.trans X24.out))
    have B4 := hide (((X2.out.trans X24.out).heap (lt_of_obj B2.out)).trans B2.out)
    have hlo4 : w.heap.size + 1 < W4.heap.size := lt_of_obj B4.out
    have HSS := hide (fun w' (e : Ext W4 w') => And.intro (HB4.out.ext e).cells (((X24.out.trans e).cell q1)))
    have hb6 := HB4.out.lt
    have hbW : b < W4.heap.size := by have := X24.out.size; omega
    have hb6lo : w.heap.size + 1 < w2.heap.size := Nat.lt_of_lt_of_le (lt_of_obj B2.out) X2.out.size
    generalize w2.heap.size = b6 at *
    have HOf := hide (fun w' => hide (f_conv dn hdn n w' (by omega)))
    have HFun := hide (fun w' tt (e : Ext W4 w') (ht : TyIn w' tt) => hide (t_fun c.A c.cap c.types tt w' (HTs.out.ext (X24.out.trans e)) ht (by omega)))
    have HT4 := hide (fun a ha => (HT0.out a ha).ext X4.out)
    have hS0 := HSS.out W4 (Ext.refl _)
    obtain ⟨⟨s0, s1, s2⟩, s3⟩ := hS0
    simp only [] at s0 s1 s2
    clear q0 q1 c0 c1 c2 HDa
    have n1 : ¬ b6 = W4.heap.size := by omega
    have n2 : ¬ W4.heap.size = b6 := by omega
    have n3 : ¬ b = W4.heap.size := by omega
    have n4 : ¬ W4.heap.size = b := by omega
    unfold tyV at HOf HFun
    go_cut [9] (fun s9 wx => ∃ (B : Nat) (u : Ty), s9 = .pointer (some ⟨B, 0, none⟩) ∧ Hid (TyAt W4 wx B (funP c.types (ofP dn n.toNat)) u) ∧ Hid (awayB (w.heap.size + 1) u = true))
    case first =>
      go_region_held3 (fun w' => (w'.cell? ⟨b6, 0, none⟩ = some (encStr dn) ∧ w'.cell? ⟨b6, 1, none⟩ = some (.int .i64 n) ∧ w'.cell? ⟨b6, 2, none⟩ = some (.slice (some ⟨b, o, none⟩) cons.length cap)) ∧ w'.cell? ⟨b, o + k * 2 + 1, none⟩ = some (.slice c.A c.types.length c.cap)) (first | assumption | go_keep) (first
        | (go_at_call 35
           refine Calls.mono (HOf.out _).out ?_
           rintro e y1 ⟨⟨A1, c1, rfl, t1, a1⟩, x1⟩
           have e1 : Ext W4 y1 := by (refine Ext.trans ?_ x1; exact (by repeat (first | exact Ext.refl _ | exact Ext.pre (by simp) | exact Ext.alloc (by assumption) _ | refine Ext.alloc ?_ _ |  refine Ext.more ?_ _ _ | refine Ext.drew ?_ | refine Ext.drewN ?_ _)))
           have kS := HSS.out y1 e1
           have es1 := e1.size
           have m1 : ¬ b6 = y1.heap.size := by omega
           have m2 : ¬ y1.heap.size = b6 := by omega
           have m3 : ¬ b = y1.heap.size := by omega
           have m4 : ¬ y1.heap.size = b := by omega)
        | (go_at_call 27
           refine Calls.mono (HFun.out _ _ ?e (t1.ext ?e2)).out ?_
           (case e => exact Ext.trans e1 (by repeat (first | exact Ext.refl _ | exact Ext.pre (by simp) | exact Ext.alloc (by assumption) _ | refine Ext.alloc ?_ _ |  refine Ext.more ?_ _ _ | refine Ext.drew ?_ | refine Ext.drewN ?_ _)))
           (case e2 => exact (by repeat (first | exact Ext.refl _ | exact Ext.pre (by simp) | exact Ext.alloc (by assumption) _ | refine Ext.alloc ?_ _ |  refine Ext.more ?_ _ _ | refine Ext.drew ?_ | refine Ext.drewN ?_ _)))
           rintro e y2 ⟨⟨u, rfl, hu, hup, hua⟩, x2⟩
           have e2 : Ext y1 y2 := by (refine Ext.trans ?_ x2; exact (by repeat (first | exact Ext.refl _ | exact Ext.pre (by simp) | exact Ext.alloc (by assumption) _ | refine Ext.alloc ?_ _ |  refine Ext.more ?_ _ _ | refine Ext.drew ?_ | refine Ext.drewN ?_ _)))
           have kS2 := HSS.out y2 (e1.trans e2)
           rw [conV_pure] at hup
           (try (have zz := ztF x2 (B := y1.heap.size) (by first | exact at_newB y1 _ _ rfl | fail); obtain ⟨z0, z1, z2, z3, z4, z5, z6⟩ := zz))
           (try (have zz := ztF x2 (B := W4.heap.size) (by first | exact (x1.heap (by simp)).trans (at_newB W4 _ _ rfl) | fail); obtain ⟨z0, z1, z2, z3, z4, z5, z6⟩ := zz))))
      all_goals (have hlt1 : w.heap.size + 1 < y1.heap.size := by omega)
      all_goals (have ho : awayB (w.heap.size + 1) u = true := hua _ ⟨by first | exact hlt1 | (simp; omega), a1 _ (by first | exact hlo4 | (simp; omega)), fun a ha => away_new (HT0.out a ha) (by omega)⟩)
      all_goals (go_wp2_with fail; go_meet)
      · exact ⟨y2.heap.size, u, rfl, hide (TyAt.new (e1.trans e2) hu hup), hide ho⟩
      · exact ⟨y1.heap.size, u, rfl, hide (TyAt.set (e1.trans ((Ext.refl _).alloc _)) x2 (by omega) (at_newB y1 _ _ rfl) hu (hua _ ⟨by simp, away_new t1 (Nat.le_refl _), fun a ha => away_new (HT4.out a ha) es1⟩) hup), hide ho⟩
      · exact ⟨W4.heap.size, u, rfl, hide (TyAt.set (a := y1) e1 x2 (Nat.le_refl _) ((x1.heap (by simp)).trans (at_newB W4 _ _ rfl)) hu (hua _ ⟨by have := x1.size; simp at this; omega, a1 _ (by simp), fun a ha => away_new (HT4.out a ha) (Nat.le_refl _)⟩) hup), hide ho⟩
    case rest =>
      obtain ⟨B, u, rfl, HT, HAu⟩ := hcut
      have hus : u.size ≤ 100000 := by
        rw [size_pure u, HT.out.is, sz_funP, ofP_size]
        omega
      have HRow := hide (fun w' => f_row 0 (by omega) n w' (by omega))
      have HCp := hide (fun w' (e : Ext wc w') => hide (f_copied u w' (HT.out.ty.ext e) hus))
      have Bc := hide ((HT.out.x.heap (lt_of_obj B4.out)).trans B4.out)
      have HS2 := hide (fun w' (e : Ext wc w') => And.intro (HB4.out.ext (HT.out.x.trans e)).cells.2.1 (And.intro (HT.out.box.ext e).c0 (And.intro (HT.out.box.ext e).c1 (HT.out.box.ext e).c2)))
      have hBlo := HT.out.lo
      have hbc := HT.out.box.lt
      have hszc := HT.out.x.size
      have r1 : ¬ b6 = w.heap.size + 1 := by omega
      have r2 : ¬ w.heap.size + 1 = b6 := by omega
      have r3 : ¬ B = w.heap.size + 1 := by omega
      have r4 : ¬ w.heap.size + 1 = B := by omega
      have hS2 := HS2.out wc (Ext.refl _)
      obtain ⟨t0, t1, t2, t3⟩ := hS2
      simp only [] at t0 HS2
      clear s0 s1 s2 s3 HOf HFun HTs HSS
      unfold tyV at HCp
      have hbc6 : b6 < wc.heap.size := by omega
      go_upto_region 5 with fail
      go_region_held3 (fun w' => w'.cell? ⟨b6, 1, none⟩ = some (.int .i64 n) ∧ w'.cell? ⟨B, 0, none⟩ = some (encStr u.con) ∧ w'.cell? ⟨B, 1, none⟩ = some (.int .i64 u.var) ∧ w'.cell? ⟨B, 2, none⟩ = some (.slice u.A u.args.length u.cap)) (first | assumption | go_keep) (first
        | (go_at_call 36
           refine Calls.mono (HRow.out _) ?_
           rintro e y1 ⟨⟨A1, c1, rfl, hr⟩, x1⟩
           have e1 : Ext wc y1 := by (refine Ext.trans ?_ x1; exact (by repeat (first | exact Ext.refl _ | exact Ext.pre (by simp) | exact Ext.alloc (by assumption) _ | refine Ext.alloc ?_ _ |  refine Ext.more ?_ _ _ | refine Ext.drew ?_ | refine Ext.drewN ?_ _)))
           have kS := HS2.out y1 e1)
        | (go_at_call 44
           refine Calls.mono (HCp.out _ ?e).out ?_
           (case e => exact Ext.trans e1 (by repeat (first | exact Ext.refl _ | exact Ext.pre (by simp) | exact Ext.alloc (by assumption) _ | refine Ext.alloc ?_ _ |  refine Ext.more ?_ _ _ | refine Ext.drew ?_ | refine Ext.drewN ?_ _)))
           rintro e y2 ⟨⟨u2, rfl, hu2, hp2, ha2⟩, x2⟩
           have e2 : Ext y1 y2 := by (refine Ext.trans ?_ x2; exact (by repeat (first | exact Ext.refl _ | exact Ext.pre (by simp) | exact Ext.alloc (by assumption) _ | refine Ext.alloc ?_ _ |  refine Ext.more ?_ _ _ | refine Ext.drew ?_ | refine Ext.drewN ?_ _)))
           have kS2 := HS2.out y2 (e1.trans e2)
           obtain ⟨z0, z1, z2, z3, z4, z5, z6, z7, z8⟩ := zpo (e1.trans e2) Bc.out))
      have hsy := e1.size
      have R := po_ret (w := w) (X4.out.trans (HT.out.x.trans (e1.trans e2))) (B := w.heap.size + 1) (by omega) hr.le hr.max (RowOf.ext intC hr.row e2) (fun a ha e => by have := (hr.new a ha).1; simp at this; omega) hu2 (ha2 _ (by omega) HAu.out)
      have HR := hide R
      clear R
      go_wp2
      refine bodyPost_ret (v := .tuple #[.agg #[.slice A1 (rowF 0 n.toNat).length c1, encStr u2.con, .int .i64 u2.var, .slice u2.A u2.args.length u2.cap], .bool true]) ?_ rfl ⟨⟨⟨rowF 0 n.toNat, A1, c1, u2⟩, rfl, ⟨HR.out.1, Hvs.out.symm, hp2.trans (HT.out.is.trans Hct.out.symm)⟩⟩, HR.out.2⟩
      simp [results, Tryz.f17, go_sem, z0, z1, z2, z3]

end Go.Proofs.YtnomibjbjplieaaGreat

/- Contracts of chapter 33: an instance's name; the type of what is always there. (A program of ours has printed this.) -/
namespace Go.Proofs.YtnomibjbjplieaaGreat
open Go.RowKit

def nameS (c t : Str) : Str := ([64] : Str) ++ c ++ ([64] : Str) ++ t

set_option maxRecDepth 10000 in
set_option maxHeartbeats 1000000 in
theorem f_name (c t : Str) (w : World) (hc : c.length ≤ 1000000000000000000) (ht : t.length ≤ 1000000000000000000) :
    Calls Tryz.prog 15 #[encStr c, encStr t] w fun e w' => e = .returned (encStr (nameS c t)) ∧ w' = w := by
  have hs1 : ¬ ((⟨[(64 : UInt8)].toArray⟩ : ByteArray).size + (⟨c.toArray⟩ : ByteArray).size > 9223372036854775807) := by rw [ba_size, ba_size]; simp; omega
  have e1 := ByteArray.mk_append_mk [(64 : UInt8)] c
  have hs2 : ¬ ((⟨(64 :: c).toArray⟩ : ByteArray).size + (⟨[(64 : UInt8)].toArray⟩ : ByteArray).size > 9223372036854775807) := by rw [ba_size, ba_size]; simp; omega
  have e2 := ByteArray.mk_append_mk (64 :: c) [(64 : UInt8)]
  have hs3 : ¬ ((⟨(64 :: (c ++ [64])).toArray⟩ : ByteArray).size + (⟨t.toArray⟩ : ByteArray).size > 9223372036854775807) := by rw [ba_size, ba_size]; simp; omega
  have e3 := ByteArray.mk_append_mk (64 :: (c ++ [64])) t
  go_enter Tryz.func15, Tryz.ntmps15
  go_wp2
  go_ret
  exact ⟨by simp [nameS], rfl⟩

def conT (s : Str) : Ty := .mk s 0 none 0 []
theorem conT_in (w : World) (s : Str) (h : s.length ≤ 9223372036854775807) : TyIn w (conT s) := TyIn.of (Nat.zero_le _) (by omega) h (RowOf.nil _ _ _) (by simp)
theorem conT_away (c : Nat) (s : Str) : awayB c (conT s) = true := awayB_mk (fun h => absurd rfl h) (by simp)
theorem prim_set {w W : World} (x : Ext w W) (hP : W.heap[w.heap.size]? = some (.cells zeroPo 34 (0, 0))) (h1 : TBox W (w.heap.size + 1) (conT [73, 110, 116])) (h2 : TBox W (w.heap.size + 1 + 1) (conT [73, 110, 116])) :
    Ext w (((W.setCell ⟨w.heap.size + 1 + 1, 0, none⟩ (.string ⟨#[66, 111, 111, 108]⟩)).setCell ⟨w.heap.size + 1 + 1, 1, none⟩ (.int .i64 0)).setCell ⟨w.heap.size + 1 + 1, 2, none⟩ (.slice none 0 0)) ∧
    (((W.setCell ⟨w.heap.size + 1 + 1, 0, none⟩ (.string ⟨#[66, 111, 111, 108]⟩)).setCell ⟨w.heap.size + 1 + 1, 1, none⟩ (.int .i64 0)).setCell ⟨w.heap.size + 1 + 1, 2, none⟩ (.slice none 0 0)).heap[w.heap.size]? = some (.cells zeroPo 34 (0, 0)) ∧
    TBox (((W.setCell ⟨w.heap.size + 1 + 1, 0, none⟩ (.string ⟨#[66, 111, 111, 108]⟩)).setCell ⟨w.heap.size + 1 + 1, 1, none⟩ (.int .i64 0)).setCell ⟨w.heap.size + 1 + 1, 2, none⟩ (.slice none 0 0)) (w.heap.size + 1) (conT [73, 110, 116]) ∧
    TBox (((W.setCell ⟨w.heap.size + 1 + 1, 0, none⟩ (.string ⟨#[66, 111, 111, 108]⟩)).setCell ⟨w.heap.size + 1 + 1, 1, none⟩ (.int .i64 0)).setCell ⟨w.heap.size + 1 + 1, 2, none⟩ (.slice none 0 0)) (w.heap.size + 1 + 1) (conT [66, 111, 111, 108]) := by
  have g := put3_grown W (w.heap.size + 1 + 1) 0 1 2 (.string ⟨#[66, 111, 111, 108]⟩) (.int .i64 0) (.slice none 0 0)
  refine ⟨x.grown g (fun b e => by injection e with e; omega), (g.block _ (lt_of_obj hP) (by simp; omega)).trans hP, (g.block _ (lt_of_obj h1) (by simp)).trans h1, ?_⟩
  have := blk_setCell (blk_setCell (blk_setCell h2 0 (.string ⟨#[66, 111, 111, 108]⟩)) 1 (.int .i64 0)) 2 (.slice none 0 0)
  exact this
def primTo (s : Str) : Option Str := if s == [101, 113, 73, 110, 116] || s == [108, 116, 73, 110, 116] then some [66, 111, 111, 108] else if s == [97, 100, 100] || s == [109, 117, 108] || s == [113, 117, 111, 116] || s == [114, 101, 109] || s == [115, 117, 98] then some [73, 110, 116] else none
noncomputable def primTy (F : Option Str) : Ty.Pure := match F with
  | none => Ty.zero.pure
  | some s => funP [conT [73, 110, 116], conT [73, 110, 116]] (conT s).pure
structure PrimOk (w : World) (F : Option Str) (p : Po) : Prop where
  po : PoIn w p
  vars : p.vars = []
  ty : p.ty.pure = primTy F

set_option maxRecDepth 10000 in
set_option maxHeartbeats 8000000 in
theorem f_prim (name : Str) (w : World) : Calls Tryz.prog 7 #[encStr name] w fun e w' => (∃ p : Po, e = .returned (.tuple #[poV p, .bool (primTo name).isSome]) ∧ PrimOk w' (primTo name) p) ∧ Ext w w' := by
  have HP : Hid (primTo name = _) := hide (by unfold primTo; exact rfl)
  generalize primTo name = F at *
  unfold poV
  go_enter Tryz.func7, Tryz.ntmps7
  obtain ⟨W, hW⟩ : ∃ W, W = (((w.alloc (.cells #[.slice none 0 0, .string ⟨#[]⟩, .int .i64 0, .slice none 0 0] 34)).alloc (.cells #[.string ⟨#[73, 110, 116]⟩, .int .i64 0, .slice none 0 0] 32)).alloc (.cells #[.string ⟨#[73, 110, 116]⟩, .int .i64 0, .slice none 0 0] 32)) := ⟨_, rfl⟩
  have X0 : Hid (Ext w W) := hide (by rw [hW]; exact (by repeat (first | exact Ext.refl _ | exact Ext.pre (by simp) | exact Ext.alloc (by assumption) _ | refine Ext.alloc ?_ _ |  refine Ext.more ?_ _ _ | refine Ext.drew ?_ | refine Ext.drewN ?_ _)))
  have BP : Hid (W.heap[w.heap.size]? = some (.cells zeroPo 34 (0, 0))) := hide (by rw [hW]; exact (((Ext.refl _).alloc _).alloc _ |>.heap (by simp)).trans (at_newB _ _ _ rfl))
  have B1 : Hid (TBox W (w.heap.size + 1) (conT [73, 110, 116])) := hide (by rw [hW]; exact (((Ext.refl _).alloc _).heap (by simp)).trans (at_newB _ _ _ (by simp)))
  have B2 : Hid (TBox W (w.heap.size + 1 + 1) (conT [73, 110, 116])) := hide (by rw [hW]; exact at_newB _ _ _ (by simp))
  go_upto_region 4 with fail
  rw [← hW]
  clear hW
  have b1 := B1.out.lt
  have b2 := B2.out.lt
  have d0 := B2.out.c0
  have d1 := B2.out.c1
  have d2 := B2.out.c2
  have g0 := free_block B2.out 0
  have g1 := free_block B2.out 1
  have g2 := free_block B2.out 2
  simp only [conT] at d0 d1 d2
  cases heqInt : (name == ([101, 113, 73, 110, 116] : Str))
  · cases hltInt : (name == ([108, 116, 73, 110, 116] : Str))
    · cases hadd : (name == ([97, 100, 100] : Str))
      · cases hmul : (name == ([109, 117, 108] : Str))
        · cases hquot : (name == ([113, 117, 111, 116] : Str))
          · cases hrem : (name == ([114, 101, 109] : Str))
            · cases hsub : (name == ([115, 117, 98] : Str))
              · have hF : F = none := by rw [HP.out]; simp [heqInt, hltInt, hadd, hmul, hquot, hrem, hsub]
                subst hF
                clear HP
                obtain ⟨z0, z1, z2, z3, z4, z5, z6, z7, z8⟩ := zpo (Ext.refl _) BP.out
                go_wp2
                refine bodyPost_ret (v := .tuple #[.agg #[.slice none 0 0, .string ⟨#[]⟩, .int .i64 0, .slice none 0 0], .bool false]) ?_ rfl ⟨⟨⟨[], none, 0, Ty.zero⟩, rfl, ⟨⟨Nat.le_refl _, Nat.zero_le _, RowOf.nil _ _ _, TyIn.zero _⟩, rfl, rfl⟩⟩, ?_⟩
                · simp [results, Tryz.f7, go_sem, z0, z1, z2, z3]
                · exact (((X0.out.setCell (by simp) _).setCell (by simp) _).setCell (by simp) _).setCell (by simp) _
              · have hF : F = some [73, 110, 116] := by rw [HP.out]; simp [heqInt, hltInt, hadd, hmul, hquot, hrem, hsub]
                subst hF
                clear HP
                go_upto_region 12 with fail
                obtain ⟨W5, hW5⟩ : ∃ W5, W5 = W := ⟨_, rfl⟩
                subst hW5
                clear d0 d1 d2 g0 g1 g2
                have X5 := X0.out
                have P5 := BP.out
                have C1 := B1.out
                have C2 := B2.out
                have HX5 := hide X5
                have HP5 := hide P5
                have b5 := C2.lt
                have d0 := C1.c0
                have d1 := C1.c1
                have d2 := C1.c2
                have g0 := C2.c0
                have g1 := C2.c1
                have g2 := C2.c2
                simp only [conT] at d0 d1 d2 g0 g1 g2
                have HFun := hide (t_fun (some ⟨W5.heap.size, 0, none⟩) 2 [conT [73, 110, 116], conT [73, 110, 116]] (conT [73, 110, 116]) (W5.alloc (.cells #[.string ⟨#[73, 110, 116]⟩, .int .i64 0, .slice none 0 0, .string ⟨#[73, 110, 116]⟩, .int .i64 0, .slice none 0 0] 32)) ⟨RowOf.block tyC [conT [73, 110, 116], conT [73, 110, 116]] (at_newB _ _ _ rfl), by simp only [List.mem_cons, List.not_mem_nil, or_false]; rintro k (rfl | rfl) <;> exact conT_in _ _ (by decide)⟩ (conT_in _ _ (by decide)) (by decide))
                unfold tyV at HFun
                have HFun2 := HFun.out
                simp only [conT] at HFun2
                have HFun3 := hide HFun2
                clear HFun HFun2 X5 P5 C1 C2
                go_wp2_with fail
                refine HFun3.out.mono ?_
                rintro e w6 ⟨⟨u, rfl, hu, hup, hua⟩, hx6⟩
                have e6 : Ext W5 w6 := by (refine Ext.trans ?_ hx6; exact (by repeat (first | exact Ext.refl _ | exact Ext.pre (by simp) | exact Ext.alloc (by assumption) _ | refine Ext.alloc ?_ _ |  refine Ext.more ?_ _ _ | refine Ext.drew ?_ | refine Ext.drewN ?_ _)))
                obtain ⟨z0, z1, z2, z3, z4, z5, z6, z7, z8⟩ := zpo e6 HP5.out
                have hs5 := lt_of_obj HP5.out
                have HR := hide (po_ret (w := w) (HX5.out.trans e6) (B := w.heap.size) (Nat.le_refl _) (l := []) (A := none) (c := 0) (Nat.le_refl _) (Nat.zero_le _) (RowOf.nil _ _ _) (by simp) hu (hua _ ⟨by simp; omega, conT_away _ [73, 110, 116], by simp only [List.mem_cons, List.not_mem_nil, or_false]; rintro k (rfl | rfl) <;> exact conT_away _ [73, 110, 116]⟩))
                have HU := hide hup
                clear hu hup hua hx6
                go_wp2
                refine bodyPost_ret (v := .tuple #[.agg #[.slice none 0 0, encStr u.con, .int .i64 u.var, .slice u.A u.args.length u.cap], .bool true]) ?_ rfl ⟨⟨⟨[], none, 0, u⟩, rfl, ⟨HR.out.1, rfl, HU.out⟩⟩, HR.out.2⟩
                simp [results, Tryz.f7, go_sem, z0, z1, z2, z3]
            · have hF : F = some [73, 110, 116] := by rw [HP.out]; simp [heqInt, hltInt, hadd, hmul, hquot, hrem]
              subst hF
              clear HP
              go_upto_region 12 with fail
              obtain ⟨W5, hW5⟩ : ∃ W5, W5 = W := ⟨_, rfl⟩
              subst hW5
              clear d0 d1 d2 g0 g1 g2
              have X5 := X0.out
              have P5 := BP.out
              have C1 := B1.out
              have C2 := B2.out
              have HX5 := hide X5
              have HP5 := hide P5
              have b5 := C2.lt
              have d0 := C1.c0
              have d1 := C1.c1
              have d2 := C1.c2
              have g0 := C2.c0
              have g1 := C2.c1
              have g2 := C2.c2
              simp only [conT] at d0 d1 d2 g0 g1 g2
              have HFun := hide (t_fun (some ⟨W5.heap.size, 0, none⟩) 2 [conT [73, 110, 116], conT [73, 110, 116]] (conT [73, 110, 116]) (W5.alloc (.cells #[.string ⟨#[73, 110, 116]⟩, .int .i64 0, .slice none 0 0, .string ⟨#[73, 110, 116]⟩, .int .i64 0, .slice none 0 0] 32)) ⟨RowOf.block tyC [conT [73, 110, 116], conT [73, 110, 116]] (at_newB _ _ _ rfl), by simp only [List.mem_cons, List.not_mem_nil, or_false]; rintro k (rfl | rfl) <;> exact conT_in _ _ (by decide)⟩ (conT_in _ _ (by decide)) (by decide))
              unfold tyV at HFun
              have HFun2 := HFun.out
              simp only [conT] at HFun2
              have HFun3 := hide HFun2
              clear HFun HFun2 X5 P5 C1 C2
              go_wp2_with fail
              refine HFun3.out.mono ?_
              rintro e w6 ⟨⟨u, rfl, hu, hup, hua⟩, hx6⟩
              have e6 : Ext W5 w6 := by (refine Ext.trans ?_ hx6; exact (by repeat (first | exact Ext.refl _ | exact Ext.pre (by simp) | exact Ext.alloc (by assumption) _ | refine Ext.alloc ?_ _ |  refine Ext.more ?_ _ _ | refine Ext.drew ?_ | refine Ext.drewN ?_ _)))
              obtain ⟨z0, z1, z2, z3, z4, z5, z6, z7, z8⟩ := zpo e6 HP5.out
              have hs5 := lt_of_obj HP5.out
              have HR := hide (po_ret (w := w) (HX5.out.trans e6) (B := w.heap.size) (Nat.le_refl _) (l := []) (A := none) (c := 0) (Nat.le_refl _) (Nat.zero_le _) (RowOf.nil _ _ _) (by simp) hu (hua _ ⟨by simp; omega, conT_away _ [73, 110, 116], by simp only [List.mem_cons, List.not_mem_nil, or_false]; rintro k (rfl | rfl) <;> exact conT_away _ [73, 110, 116]⟩))
              have HU := hide hup
              clear hu hup hua hx6
              go_wp2
              refine bodyPost_ret (v := .tuple #[.agg #[.slice none 0 0, encStr u.con, .int .i64 u.var, .slice u.A u.args.length u.cap], .bool true]) ?_ rfl ⟨⟨⟨[], none, 0, u⟩, rfl, ⟨HR.out.1, rfl, HU.out⟩⟩, HR.out.2⟩
              simp [results, Tryz.f7, go_sem, z0, z1, z2, z3]
          · have hF : F = some [73, 110, 116] := by rw [HP.out]; simp [heqInt, hltInt, hadd, hmul, hquot]
            subst hF
            clear HP
            go_upto_region 12 with fail
            obtain ⟨W5, hW5⟩ : ∃ W5, W5 = W := ⟨_, rfl⟩
            subst hW5
            clear d0 d1 d2 g0 g1 g2
            have X5 := X0.out
            have P5 := BP.out
            have C1 := B1.out
            have C2 := B2.out
            have HX5 := hide X5
            have HP5 := hide P5
            have b5 := C2.lt
            have d0 := C1.c0
            have d1 := C1.c1
            have d2 := C1.c2
            have g0 := C2.c0
            have g1 := C2.c1
            have g2 := C2.c2
            simp only [conT] at d0 d1 d2 g0 g1 g2
            have HFun := hide (t_fun (some ⟨W5.heap.size, 0, none⟩) 2 [conT [73, 110, 116], conT [73, 110, 116]] (conT [73, 110, 116]) (W5.alloc (.cells #[.string ⟨#[73, 110, 116]⟩, .int .i64 0, .slice none 0 0, .string ⟨#[73, 110, 116]⟩, .int .i64 0, .slice none 0 0] 32)) ⟨RowOf.block tyC [conT [73, 110, 116], conT [73, 110, 116]] (at_newB _ _ _ rfl), by simp only [List.mem_cons, List.not_mem_nil, or_false]; rintro k (rfl | rfl) <;> exact conT_in _ _ (by decide)⟩ (conT_in _ _ (by decide)) (by decide))
            unfold tyV at HFun
            have HFun2 := HFun.out
            simp only [conT] at HFun2
            have HFun3 := hide HFun2
            clear HFun HFun2 X5 P5 C1 C2
            go_wp2_with fail
            refine HFun3.out.mono ?_
            rintro e w6 ⟨⟨u, rfl, hu, hup, hua⟩, hx6⟩
            have e6 : Ext W5 w6 := by (refine Ext.trans ?_ hx6; exact (by repeat (first | exact Ext.refl _ | exact Ext.pre (by simp) | exact Ext.alloc (by assumption) _ | refine Ext.alloc ?_ _ |  refine Ext.more ?_ _ _ | refine Ext.drew ?_ | refine Ext.drewN ?_ _)))
            obtain ⟨z0, z1, z2, z3, z4, z5, z6, z7, z8⟩ := zpo e6 HP5.out
            have hs5 := lt_of_obj HP5.out
            have HR := hide (po_ret (w := w) (HX5.out.trans e6) (B := w.heap.size) (Nat.le_refl _) (l := []) (A := none) (c := 0) (Nat.le_refl _) (Nat.zero_le _) (RowOf.nil _ _ _) (by simp) hu (hua _ ⟨by simp; omega, conT_away _ [73, 110, 116], by simp only [List.mem_cons, List.not_mem_nil, or_false]; rintro k (rfl | rfl) <;> exact conT_away _ [73, 110, 116]⟩))
            have HU := hide hup
            clear hu hup hua hx6
            go_wp2
            refine bodyPost_ret (v := .tuple #[.agg #[.slice none 0 0, encStr u.con, .int .i64 u.var, .slice u.A u.args.length u.cap], .bool true]) ?_ rfl ⟨⟨⟨[], none, 0, u⟩, rfl, ⟨HR.out.1, rfl, HU.out⟩⟩, HR.out.2⟩
            simp [results, Tryz.f7, go_sem, z0, z1, z2, z3]
        · have hF : F = some [73, 110, 116] := by rw [HP.out]; simp [heqInt, hltInt, hadd, hmul]
          subst hF
          clear HP
          go_upto_region 12 with fail
          obtain ⟨W5, hW5⟩ : ∃ W5, W5 = W := ⟨_, rfl⟩
          subst hW5
          clear d0 d1 d2 g0 g1 g2
          have X5 := X0.out
          have P5 := BP.out
          have C1 := B1.out
          have C2 := B2.out
          have HX5 := hide X5
          have HP5 := hide P5
          have b5 := C2.lt
          have d0 := C1.c0
          have d1 := C1.c1
          have d2 := C1.c2
          have g0 := C2.c0
          have g1 := C2.c1
          have g2 := C2.c2
          simp only [conT] at d0 d1 d2 g0 g1 g2
          have HFun := hide (t_fun (some ⟨W5.heap.size, 0, none⟩) 2 [conT [73, 110, 116], conT [73, 110, 116]] (conT [73, 110, 116]) (W5.alloc (.cells #[.string ⟨#[73, 110, 116]⟩, .int .i64 0, .slice none 0 0, .string ⟨#[73, 110, 116]⟩, .int .i64 0, .slice none 0 0] 32)) ⟨RowOf.block tyC [conT [73, 110, 116], conT [73, 110, 116]] (at_newB _ _ _ rfl), by simp only [List.mem_cons, List.not_mem_nil, or_false]; rintro k (rfl | rfl) <;> exact conT_in _ _ (by decide)⟩ (conT_in _ _ (by decide)) (by decide))
          unfold tyV at HFun
          have HFun2 := HFun.out
          simp only [conT] at HFun2
          have HFun3 := hide HFun2
          clear HFun HFun2 X5 P5 C1 C2
          go_wp2_with fail
          refine HFun3.out.mono ?_
          rintro e w6 ⟨⟨u, rfl, hu, hup, hua⟩, hx6⟩
          have e6 : Ext W5 w6 := by (refine Ext.trans ?_ hx6; exact (by repeat (first | exact Ext.refl _ | exact Ext.pre (by simp) | exact Ext.alloc (by assumption) _ | refine Ext.alloc ?_ _ |  refine Ext.more ?_ _ _ | refine Ext.drew ?_ | refine Ext.drewN ?_ _)))
          obtain ⟨z0, z1, z2, z3, z4, z5, z6, z7, z8⟩ := zpo e6 HP5.out
          have hs5 := lt_of_obj HP5.out
          have HR := hide (po_ret (w := w) (HX5.out.trans e6) (B := w.heap.size) (Nat.le_refl _) (l := []) (A := none) (c := 0) (Nat.le_refl _) (Nat.zero_le _) (RowOf.nil _ _ _) (by simp) hu (hua _ ⟨by simp; omega, conT_away _ [73, 110, 116], by simp only [List.mem_cons, List.not_mem_nil, or_false]; rintro k (rfl | rfl) <;> exact conT_away _ [73, 110, 116]⟩))
          have HU := hide hup
          clear hu hup hua hx6
          go_wp2
          refine bodyPost_ret (v := .tuple #[.agg #[.slice none 0 0, encStr u.con, .int .i64 u.var, .slice u.A u.args.length u.cap], .bool true]) ?_ rfl ⟨⟨⟨[], none, 0, u⟩, rfl, ⟨HR.out.1, rfl, HU.out⟩⟩, HR.out.2⟩
          simp [results, Tryz.f7, go_sem, z0, z1, z2, z3]
      · have hF : F = some [73, 110, 116] := by rw [HP.out]; simp [heqInt, hltInt, hadd]
        subst hF
        clear HP
        go_upto_region 12 with fail
        obtain ⟨W5, hW5⟩ : ∃ W5, W5 = W := ⟨_, rfl⟩
        subst hW5
        clear d0 d1 d2 g0 g1 g2
        have X5 := X0.out
        have P5 := BP.out
        have C1 := B1.out
        have C2 := B2.out
        have HX5 := hide X5
        have HP5 := hide P5
        have b5 := C2.lt
        have d0 := C1.c0
        have d1 := C1.c1
        have d2 := C1.c2
        have g0 := C2.c0
        have g1 := C2.c1
        have g2 := C2.c2
        simp only [conT] at d0 d1 d2 g0 g1 g2
        have HFun := hide (t_fun (some ⟨W5.heap.size, 0, none⟩) 2 [conT [73, 110, 116], conT [73, 110, 116]] (conT [73, 110, 116]) (W5.alloc (.cells #[.string ⟨#[73, 110, 116]⟩, .int .i64 0, .slice none 0 0, .string ⟨#[73, 110, 116]⟩, .int .i64 0, .slice none 0 0] 32)) ⟨RowOf.block tyC [conT [73, 110, 116], conT [73, 110, 116]] (at_newB _ _ _ rfl), by simp only [List.mem_cons, List.not_mem_nil, or_false]; rintro k (rfl | rfl) <;> exact conT_in _ _ (by decide)⟩ (conT_in _ _ (by decide)) (by decide))
        unfold tyV at HFun
        have HFun2 := HFun.out
        simp only [conT] at HFun2
        have HFun3 := hide HFun2
        clear HFun HFun2 X5 P5 C1 C2
        go_wp2_with fail
        refine HFun3.out.mono ?_
        rintro e w6 ⟨⟨u, rfl, hu, hup, hua⟩, hx6⟩
        have e6 : Ext W5 w6 := by (refine Ext.trans ?_ hx6; exact (by repeat (first | exact Ext.refl _ | exact Ext.pre (by simp) | exact Ext.alloc (by assumption) _ | refine Ext.alloc ?_ _ |  refine Ext.more ?_ _ _ | refine Ext.drew ?_ | refine Ext.drewN ?_ _)))
        obtain ⟨z0, z1, z2, z3, z4, z5, z6, z7, z8⟩ := zpo e6 HP5.out
        have hs5 := lt_of_obj HP5.out
        have HR := hide (po_ret (w := w) (HX5.out.trans e6) (B := w.heap.size) (Nat.le_refl _) (l := []) (A := none) (c := 0) (Nat.le_refl _) (Nat.zero_le _) (RowOf.nil _ _ _) (by simp) hu (hua _ ⟨by simp; omega, conT_away _ [73, 110, 116], by simp only [List.mem_cons, List.not_mem_nil, or_false]; rintro k (rfl | rfl) <;> exact conT_away _ [73, 110, 116]⟩))
        have HU := hide hup
        clear hu hup hua hx6
        go_wp2
        refine bodyPost_ret (v := .tuple #[.agg #[.slice none 0 0, encStr u.con, .int .i64 u.var, .slice u.A u.args.length u.cap], .bool true]) ?_ rfl ⟨⟨⟨[], none, 0, u⟩, rfl, ⟨HR.out.1, rfl, HU.out⟩⟩, HR.out.2⟩
        simp [results, Tryz.f7, go_sem, z0, z1, z2, z3]
    · have hF : F = some [66, 111, 111, 108] := by rw [HP.out]; simp [heqInt, hltInt]
      subst hF
      clear HP
      go_upto_region 12 with fail
      obtain ⟨W5, hW5⟩ : ∃ W5, W5 = ((W.setCell ⟨w.heap.size + 1 + 1, 0, none⟩ (.string ⟨#[66, 111, 111, 108]⟩)).setCell ⟨w.heap.size + 1 + 1, 1, none⟩ (.int .i64 0)).setCell ⟨w.heap.size + 1 + 1, 2, none⟩ (.slice none 0 0) := ⟨_, rfl⟩
      have HS := hide (prim_set X0.out BP.out B1.out B2.out)
      rw [← hW5] at HS ⊢
      clear hW5 d0 d1 d2 g0 g1 g2
      obtain ⟨X5, P5, C1, C2⟩ := HS.out
      have HX5 := hide X5
      have HP5 := hide P5
      have b5 := C2.lt
      have d0 := C1.c0
      have d1 := C1.c1
      have d2 := C1.c2
      have g0 := C2.c0
      have g1 := C2.c1
      have g2 := C2.c2
      simp only [conT] at d0 d1 d2 g0 g1 g2
      have HFun := hide (t_fun (some ⟨W5.heap.size, 0, none⟩) 2 [conT [73, 110, 116], conT [73, 110, 116]] (conT [66, 111, 111, 108]) (W5.alloc (.cells #[.string ⟨#[73, 110, 116]⟩, .int .i64 0, .slice none 0 0, .string ⟨#[73, 110, 116]⟩, .int .i64 0, .slice none 0 0] 32)) ⟨RowOf.block tyC [conT [73, 110, 116], conT [73, 110, 116]] (at_newB _ _ _ rfl), by simp only [List.mem_cons, List.not_mem_nil, or_false]; rintro k (rfl | rfl) <;> exact conT_in _ _ (by decide)⟩ (conT_in _ _ (by decide)) (by decide))
      unfold tyV at HFun
      have HFun2 := HFun.out
      simp only [conT] at HFun2
      have HFun3 := hide HFun2
      clear HFun HFun2 X5 P5 C1 C2
      go_wp2_with fail
      refine HFun3.out.mono ?_
      rintro e w6 ⟨⟨u, rfl, hu, hup, hua⟩, hx6⟩
      have e6 : Ext W5 w6 := by (refine Ext.trans ?_ hx6; exact (by repeat (first | exact Ext.refl _ | exact Ext.pre (by simp) | exact Ext.alloc (by assumption) _ | refine Ext.alloc ?_ _ |  refine Ext.more ?_ _ _ | refine Ext.drew ?_ | refine Ext.drewN ?_ _)))
      obtain ⟨z0, z1, z2, z3, z4, z5, z6, z7, z8⟩ := zpo e6 HP5.out
      have hs5 := lt_of_obj HP5.out
      have HR := hide (po_ret (w := w) (HX5.out.trans e6) (B := w.heap.size) (Nat.le_refl _) (l := []) (A := none) (c := 0) (Nat.le_refl _) (Nat.zero_le _) (RowOf.nil _ _ _) (by simp) hu (hua _ ⟨by simp; omega, conT_away _ [66, 111, 111, 108], by simp only [List.mem_cons, List.not_mem_nil, or_false]; rintro k (rfl | rfl) <;> exact conT_away _ [73, 110, 116]⟩))
      have HU := hide hup
      clear hu hup hua hx6
      go_wp2
      refine bodyPost_ret (v := .tuple #[.agg #[.slice none 0 0, encStr u.con, .int .i64 u.var, .slice u.A u.args.length u.cap], .bool true]) ?_ rfl ⟨⟨⟨[], none, 0, u⟩, rfl, ⟨HR.out.1, rfl, HU.out⟩⟩, HR.out.2⟩
      simp [results, Tryz.f7, go_sem, z0, z1, z2, z3]
  · have hF : F = some [66, 111, 111, 108] := by rw [HP.out]; simp [heqInt]
    subst hF
    clear HP
    go_upto_region 12 with fail
    obtain ⟨W5, hW5⟩ : ∃ W5, W5 = ((W.setCell ⟨w.heap.size + 1 + 1, 0, none⟩ (.string ⟨#[66, 111, 111, 108]⟩)).setCell ⟨w.heap.size + 1 + 1, 1, none⟩ (.int .i64 0)).setCell ⟨w.heap.size + 1 + 1, 2, none⟩ (.slice none 0 0) := ⟨_, rfl⟩
    have HS := hide (prim_set X0.out BP.out B1.out B2.out)
    rw [← hW5] at HS ⊢
    clear hW5 d0 d1 d2 g0 g1 g2
    obtain ⟨X5, P5, C1, C2⟩ := HS.out
    have HX5 := hide X5
    have HP5 := hide P5
    have b5 := C2.lt
    have d0 := C1.c0
    have d1 := C1.c1
    have d2 := C1.c2
    have g0 := C2.c0
    have g1 := C2.c1
    have g2 := C2.c2
    simp only [conT] at d0 d1 d2 g0 g1 g2
    have HFun := hide (t_fun (some ⟨W5.heap.size, 0, none⟩) 2 [conT [73, 110, 116], conT [73, 110, 116]] (conT [66, 111, 111, 108]) (W5.alloc (.cells #[.string ⟨#[73, 110, 116]⟩, .int .i64 0, .slice none 0 0, .string ⟨#[73, 110, 116]⟩, .int .i64 0, .slice none 0 0] 32)) ⟨RowOf.block tyC [conT [73, 110, 116], conT [73, 110, 116]] (at_newB _ _ _ rfl), by simp only [List.mem_cons, List.not_mem_nil, or_false]; rintro k (rfl | rfl) <;> exact conT_in _ _ (by decide)⟩ (conT_in _ _ (by decide)) (by decide))
    unfold tyV at HFun
    have HFun2 := HFun.out
    simp only [conT] at HFun2
    have HFun3 := hide HFun2
    clear HFun HFun2 X5 P5 C1 C2
    go_wp2_with fail
    refine HFun3.out.mono ?_
    rintro e w6 ⟨⟨u, rfl, hu, hup, hua⟩, hx6⟩
    have e6 : Ext W5 w6 := by (refine Ext.trans ?_ hx6; exact (by repeat (first | exact Ext.refl _ | exact Ext.pre (by simp) | exact Ext.alloc (by assumption) _ | refine Ext.alloc ?_ _ |  refine Ext.more ?_ _ _ | refine Ext.drew ?_ | refine Ext.drewN ?_ _)))
    obtain ⟨z0, z1, z2, z3, z4, z5, z6, z7, z8⟩ := zpo e6 HP5.out
    have hs5 := lt_of_obj HP5.out
    have HR := hide (po_ret (w := w) (HX5.out.trans e6) (B := w.heap.size) (Nat.le_refl _) (l := []) (A := none) (c := 0) (Nat.le_refl _) (Nat.zero_le _) (RowOf.nil _ _ _) (by simp) hu (hua _ ⟨by simp; omega, conT_away _ [66, 111, 111, 108], by simp only [List.mem_cons, List.not_mem_nil, or_false]; rintro k (rfl | rfl) <;> exact conT_away _ [73, 110, 116]⟩))
    have HU := hide hup
    clear hu hup hua hx6
    go_wp2
    refine bodyPost_ret (v := .tuple #[.agg #[.slice none 0 0, encStr u.con, .int .i64 u.var, .slice u.A u.args.length u.cap], .bool true]) ?_ rfl ⟨⟨⟨[], none, 0, u⟩, rfl, ⟨HR.out.1, rfl, HU.out⟩⟩, HR.out.2⟩
    simp [results, Tryz.f7, go_sem, z0, z1, z2, z3]

end Go.Proofs.YtnomibjbjplieaaGreat

/- Contract of chapter 33: a field's type. -/
namespace Go.Proofs.YtnomibjbjplieaaGreat
open Go.RowKit

/-- A field's type. -/
noncomputable def fieldC (c : KlD) (n : Int) : Option (List Int × Ty.Pure) :=
  if n < 0 then none else match c.sups[n.toNat]? with
    | some s => some ([], dictP s Ty.zero.pure)
    | none => match c.meths[n.toNat - c.sups.length]? with
      | some m => some (rowF 1 m.n.toNat, m.ty.pure)
      | none => none
noncomputable def fieldF (cls : List KlD) (name : Str) (n : Int) : Option (List Int × Ty.Pure) := (clF cls name).bind fun c => fieldC c n
structure FieldOk (w : World) (F : Option (List Int × Ty.Pure)) (p : Po) : Prop where
  po : PoIn w p
  vars : p.vars = (F.map Prod.fst).getD []
  ty : p.ty.pure = (F.map Prod.snd).getD Ty.zero.pure
def KlFew (c : KlD) : Prop := c.sups.length ≤ 100000 ∧ c.meths.length ≤ 100000 ∧ ∀ m ∈ c.meths, m.n ≤ 100 ∧ m.ty.size ≤ 20000

set_option maxRecDepth 10000 in
set_option maxHeartbeats 8000000 in
theorem f_field (x : EnD) (name : Str) (n : Int) (w : World) (h : EnIn w x) (hf : ∀ c ∈ x.classes, KlFew c) (hn0 : -1000000 ≤ n) (hn1 : n ≤ 1000000) :
    Calls Tryz.prog 23 #[enV x, encStr name, .int .i64 n] w fun e w' => (∃ p : Po, e = .returned (.tuple #[poV p, .bool (fieldF x.classes name n).isSome]) ∧ FieldOk w' (fieldF x.classes name n) p) ∧ Ext w w' := by
  obtain ⟨W, hW⟩ : ∃ W, W = (w.alloc (.cells #[.slice x.D x.datas.length x.dc, .slice x.C x.classes.length x.cc, .slice x.I x.insts.length x.ic] 26)).alloc (.cells #[.slice none 0 0, .string ⟨#[]⟩, .int .i64 0, .slice none 0 0] 34) := ⟨_, rfl⟩
  have HW := hide hW.symm
  have X0 : Hid (Ext w W) := hide (by rw [hW]; exact ((Ext.refl _).alloc _).alloc _)
  have B1 : Hid (EnBox W w.heap.size x) := hide (by rw [hW]; exact (EnBox.new w _).ext ((Ext.refl _).alloc _))
  have B2 : Hid (W.heap[w.heap.size + 1]? = some (.cells zeroPo 34 (0, 0))) := hide (by rw [hW]; exact at_newB _ _ _ (by simp))
  have HC := hide (f_klass x name W (h.ext X0.out))
  have HAll := hide (fun c (e : clF x.classes name = some c) => And.intro (h.classes.all c (clF_mem e)) (hf c (clF_mem e)))
  have HF : Hid (fieldF x.classes name n = (clF x.classes name).bind fun c => fieldC c n) := hide rfl
  obtain ⟨c0, c1, c2⟩ := B1.out.cells
  have hbl := B1.out.lt
  clear hW h hf
  generalize fieldF x.classes name n = F at *
  generalize clF x.classes name = G at *
  unfold enV klV poV at *
  go_enter Tryz.func23, Tryz.ntmps23
  go_upto_region 1 with fail
  rw [HW.out]
  clear HW
  go_wp2_with fail
  refine HC.out.mono ?_
  rintro e w2 ⟨rfl, hx⟩
  have X2 := hide hx
  clear hx HC
  cases G with
  | none =>
    have hF : F = none := HF.out
    clear HF
    subst hF
    simp only [Option.getD_none, Option.isSome_none]
    obtain ⟨z0, z1, z2, z3, z4, z5, z6, z7, z8⟩ := zpo X2.out B2.out
    go_wp2
    refine bodyPost_ret (v := .tuple #[.agg #[.slice none 0 0, .string ⟨#[]⟩, .int .i64 0, .slice none 0 0], .bool false]) ?_ rfl ⟨⟨⟨[], none, 0, Ty.zero⟩, rfl, ⟨⟨Nat.le_refl _, Nat.zero_le _, RowOf.nil _ _ _, TyIn.zero _⟩, rfl, rfl⟩⟩, ?_⟩
    · simp [results, Tryz.f23, go_sem, z0, z1, z2, z3, z8]
    · exact (((((X0.out.trans X2.out).setCell (by simp) _).setCell (by simp) _).setCell (by simp) _).setCell (by simp) _).alloc _
  | some c =>
    have HF2 : Hid (F = fieldC c n) := hide HF.out
    clear HF
    obtain ⟨hk, hf1, hf2, hf3⟩ := HAll.out c rfl
    clear HAll
    simp only [Option.getD_some, Option.isSome_some]
    go_upto_region 2 with fail
    obtain ⟨W4, hW4⟩ : ∃ W4, W4 = w2.alloc (.cells #[encStr c.name, .slice c.S c.sups.length c.sc, .slice c.A c.meths.length c.cap] 64) := ⟨_, rfl⟩
    have X24 : Hid (Ext w2 W4) := hide (by rw [hW4]; exact (Ext.refl _).alloc _)
    have HB4 : Hid (KlBox W4 w2.heap.size c) := hide (by rw [hW4]; exact at_newB _ _ _ rfl)
    rw [← hW4]
    clear hW4
    have X4 := hide (X0.out.trans (X2.out.trans X24.out))
    have B4 := hide (((X2.out.trans X24.out).heap (lt_of_obj B2.out)).trans B2.out)
    have hlo4 : w.heap.size + 1 < W4.heap.size := lt_of_obj B4.out
    have hb6 := HB4.out.lt
    have hb6lo : w.heap.size + 1 < w2.heap.size := Nat.lt_of_lt_of_le (lt_of_obj B2.out) X2.out.size
    obtain ⟨s0, s1, s2⟩ := HB4.out.cells
    generalize w2.heap.size = b6 at *
    obtain ⟨cn, S, sc, sups, A, cap, meths⟩ := c
    have h1 : sups.length ≤ sc := hk.sle
    have h2 : sc ≤ 9223372036854775807 := hk.smax
    have h3 : meths.length ≤ cap := hk.le
    have h4 : cap ≤ 9223372036854775807 := hk.max
    have HS := hide (strs_iff.1 hk.srow)
    have HSt := hide hk.stxt
    have HM := hide hk.row
    have HMf := hide hf3
    have hf1 : sups.length ≤ 100000 := hf1
    have hf2 : meths.length ≤ 100000 := hf2
    simp only [] at s0 s1 s2 HS HSt HM HMf
    clear hk hf3
    by_cases hneg : n < 0
    · have hF : F = none := by rw [HF2.out]; unfold fieldC; rw [if_pos hneg]
      clear HF2
      subst hF
      obtain ⟨z0, z1, z2, z3, z4, z5, z6, z7, z8⟩ := zpo (Ext.refl _) B4.out
      go_wp2
      refine bodyPost_ret (v := .tuple #[.agg #[.slice none 0 0, .string ⟨#[]⟩, .int .i64 0, .slice none 0 0], .bool false]) ?_ rfl ⟨⟨⟨[], none, 0, Ty.zero⟩, rfl, ⟨⟨Nat.le_refl _, Nat.zero_le _, RowOf.nil _ _ _, TyIn.zero _⟩, rfl, rfl⟩⟩, ?_⟩
      · simp [results, Tryz.f23, go_sem, z0, z1, z2, z3]
      · exact (((X4.out.setCell (by simp) _).setCell (by simp) _).setCell (by simp) _).setCell (by simp) _
    · obtain ⟨m, rfl⟩ : ∃ m : Nat, n = (m : Int) := ⟨n.toNat, by omega⟩
      have HF3 : Hid (F = match sups[m]? with | some s => some ([], dictP s Ty.zero.pure) | none => match meths[m - sups.length]? with | some m => some (rowF 1 m.n.toNat, m.ty.pure) | none => none) := hide (by rw [HF2.out]; unfold fieldC; rw [if_neg hneg]; rfl)
      clear HF2
      by_cases hhi : (m : Int) - (sups.length : Int) ≥ (meths.length : Int)
      · have hF : F = none := by rw [HF3.out, List.getElem?_eq_none (by omega), List.getElem?_eq_none (by omega)]
        clear HF3
        subst hF
        obtain ⟨z0, z1, z2, z3, z4, z5, z6, z7, z8⟩ := zpo (Ext.refl _) B4.out
        go_wp2
        refine bodyPost_ret (v := .tuple #[.agg #[.slice none 0 0, .string ⟨#[]⟩, .int .i64 0, .slice none 0 0], .bool false]) ?_ rfl ⟨⟨⟨[], none, 0, Ty.zero⟩, rfl, ⟨⟨Nat.le_refl _, Nat.zero_le _, RowOf.nil _ _ _, TyIn.zero _⟩, rfl, rfl⟩⟩, ?_⟩
        · simp [results, Tryz.f23, go_sem, z0, z1, z2, z3]
        · exact (((X4.out.setCell (by simp) _).setCell (by simp) _).setCell (by simp) _).setCell (by simp) _
      · by_cases hlo : (m : Int) - (sups.length : Int) < 0
        · have hms : m < sups.length := by omega
          have hm0 : (0 : Int) ≤ (m : Int) := by omega
          have hm1 : (m : Int) < (sups.length : Int) := by omega
          obtain ⟨b, o, e0, hb, q⟩ := RowOf.at_ strC (RowOf.ext strC HS.out X4.out) hms
          subst e0
          have hF := HF3.out
          rw [List.getElem?_eq_getElem hms] at hF
          have hst := HSt.out _ (List.getElem_mem hms)
          have q0 := q 0 (by decide)
          clear q HF3 HS HSt
          generalize sups[m]'hms = s at *
          have q1 : W4.cell? ⟨b, o + m, none⟩ = some (.string ⟨s.toArray⟩) := by simpa [strC] using q0
          clear q0
          have hF : F = some ([], dictP s Ty.zero.pure) := hF
          subst hF
          have HDi := hide (f_dict s Ty.zero W4 (TyIn.zero _) hst)
          unfold tyV at HDi
          go_wp2_with fail
          refine HDi.out.mono ?_
          rintro e w6 ⟨⟨bd, rfl, hd, hbd⟩, hx6⟩
          obtain ⟨z0, z1, z2, z3, z4, z5, z6, z7, z8⟩ := zpo hx6 B4.out
          have HR := hide (po_ret (w := w) (X4.out.trans hx6) (B := w.heap.size + 1) (by omega) (l := []) (A := none) (c := 0) (Nat.le_refl _) (Nat.zero_le _) (RowOf.nil _ _ _) (by simp) hd (dictT_away (by omega) (away_zero _)))
          have HU := hide (dictT_pure s Ty.zero bd)
          clear hd hx6
          generalize dictT s Ty.zero bd = u at *
          go_wp2
          refine bodyPost_ret (v := .tuple #[.agg #[.slice none 0 0, encStr u.con, .int .i64 u.var, .slice u.A u.args.length u.cap], .bool true]) ?_ rfl ⟨⟨⟨[], none, 0, u⟩, rfl, ⟨HR.out.1, rfl, HU.out⟩⟩, HR.out.2⟩
          simp [results, Tryz.f23, go_sem, z0, z1, z2, z3]
        · obtain ⟨j, hj⟩ : ∃ j : Nat, (m : Int) - (sups.length : Int) = (j : Int) := ⟨m - sups.length, by omega⟩
          have hjl : j < meths.length := by omega
          have hj0 : (0 : Int) ≤ (j : Int) := by omega
          have hj1 : (j : Int) < (meths.length : Int) := by omega
          obtain ⟨b, o, e0, hb, q0, q1, q2, q3, q4⟩ := (HM.out.ext X4.out).at_ hjl
          subst e0
          have hF := HF3.out
          rw [List.getElem?_eq_none (by omega), show m - sups.length = j by omega, List.getElem?_eq_getElem hjl] at hF
          have hmf := HMf.out _ (List.getElem_mem hjl)
          have HMt := hide (((HM.out.ext X4.out).all _ (List.getElem_mem hjl)).row)
          have HM0 := hide ((HM.out.all _ (List.getElem_mem hjl)).row)
          clear HM HMf HS HSt HF3
          generalize meths[j]'hjl = d at *
          have hF : F = some (rowF 1 d.n.toNat, d.ty.pure) := hF
          subst hF
          obtain ⟨hd1, hd2⟩ := hmf
          obtain ⟨W7, hW7⟩ : ∃ W7, W7 = W4.alloc (.cells #[encStr d.name, .int .i64 d.n, encStr d.ty.con, .int .i64 d.ty.var, .slice d.ty.A d.ty.args.length d.ty.cap] 66) := ⟨_, rfl⟩
          have X7 : Hid (Ext W4 W7) := hide (by rw [hW7]; exact (Ext.refl _).alloc _)
          have HB7 : Hid (MeBox W7 W4.heap.size d) := hide (by rw [hW7]; exact at_newB _ _ _ rfl)
          go_upto_region 8 with fail
          rw [← hW7]
          clear hW7 q0 q1 q2 q3 q4
          have B7 := hide ((X7.out.heap (lt_of_obj B4.out)).trans B4.out)
          have HRow := hide (fun w' => f_row 1 (by omega) d.n w' (by omega))
          have HCp := hide (fun w' (e : Ext W7 w') => hide (f_copied d.ty w' (HMt.out.ext (X7.out.trans e)) (by omega)))
          have HS2 := hide (fun w' (e : Ext W7 w') => (HB7.out.ext e).cells)
          have hS2 := HS2.out W7 (Ext.refl _)
          obtain ⟨t0, t1, t2, t3, t4⟩ := hS2
          have hb7 := HB7.out.lt
          have r1 : ¬ W4.heap.size = w.heap.size + 1 := by omega
          have r2 : ¬ w.heap.size + 1 = W4.heap.size := by omega
          unfold tyV at HCp
          go_region_held3 (fun w' => w'.cell? ⟨W4.heap.size, 0, none⟩ = some (encStr d.name) ∧ w'.cell? ⟨W4.heap.size, 1, none⟩ = some (.int .i64 d.n) ∧ w'.cell? ⟨W4.heap.size, 2, none⟩ = some (encStr d.ty.con) ∧ w'.cell? ⟨W4.heap.size, 3, none⟩ = some (.int .i64 d.ty.var) ∧ w'.cell? ⟨W4.heap.size, 4, none⟩ = some (.slice d.ty.A d.ty.args.length d.ty.cap)) (first | assumption | go_keep) (first
            | (go_at_call 36
               refine Calls.mono (HRow.out _) ?_
               rintro e y1 ⟨⟨A1, c1, rfl, hr⟩, x1⟩
               have e1 : Ext W7 y1 := by (refine Ext.trans ?_ x1; exact (by repeat (first | exact Ext.refl _ | exact Ext.pre (by simp) | exact Ext.alloc (by assumption) _ | refine Ext.alloc ?_ _ |  refine Ext.more ?_ _ _ | refine Ext.drew ?_ | refine Ext.drewN ?_ _)))
               have kS := HS2.out y1 e1)
            | (go_at_call 44
               refine Calls.mono (HCp.out _ ?e).out ?_
               (case e => exact Ext.trans e1 (by repeat (first | exact Ext.refl _ | exact Ext.pre (by simp) | exact Ext.alloc (by assumption) _ | refine Ext.alloc ?_ _ |  refine Ext.more ?_ _ _ | refine Ext.drew ?_ | refine Ext.drewN ?_ _)))
               rintro e y2 ⟨⟨u2, rfl, hu2, hp2, ha2⟩, x2⟩
               have e2 : Ext y1 y2 := by (refine Ext.trans ?_ x2; exact (by repeat (first | exact Ext.refl _ | exact Ext.pre (by simp) | exact Ext.alloc (by assumption) _ | refine Ext.alloc ?_ _ |  refine Ext.more ?_ _ _ | refine Ext.drew ?_ | refine Ext.drewN ?_ _)))
               have kS2 := HS2.out y2 (e1.trans e2)
               obtain ⟨z0, z1, z2, z3, z4, z5, z6, z7, z8⟩ := zpo (e1.trans e2) B7.out))
          have hsy := e1.size
          have hs7 := X7.out.size
          have R := po_ret (w := w) (X4.out.trans (X7.out.trans (e1.trans e2))) (B := w.heap.size + 1) (by omega) hr.le hr.max (RowOf.ext intC hr.row e2) (fun a ha e => by have := (hr.new a ha).1; simp at this; omega) hu2 (ha2 _ (by omega) (away_new HM0.out (by omega)))
          have HR := hide R
          clear R
          go_wp2
          refine bodyPost_ret (v := .tuple #[.agg #[.slice A1 (rowF 1 d.n.toNat).length c1, encStr u2.con, .int .i64 u2.var, .slice u2.A u2.args.length u2.cap], .bool true]) ?_ rfl ⟨⟨⟨rowF 1 d.n.toNat, A1, c1, u2⟩, rfl, ⟨HR.out.1, rfl, hp2⟩⟩, HR.out.2⟩
          simp [results, Tryz.f23, go_sem, z0, z1, z2, z3]

end Go.Proofs.YtnomibjbjplieaaGreat
