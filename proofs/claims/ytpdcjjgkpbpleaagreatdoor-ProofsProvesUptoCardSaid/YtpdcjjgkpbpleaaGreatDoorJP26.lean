/- Contract: types in new memory (proofs'), of whatever size. -/
import Derived.Test.YtpdcjjgkpbpleaaGreatDoorJP25
/- Contract: types in new memory (proofs'), of whatever size. -/
namespace Go.Proofs.YtpdcjjgkpbpleaaGreatDoor
open Go.RowKit

/-- A world, named. -/
theorem wp_named {P : Program} {c : Code} {Q : Exit → Act → World → Prop} {a : Act} {w : World} (h : ∀ W, W = w → Code.wp P c Q a W) : Code.wp P c Q a w := h w rfl
/-- No type's args take more than memory. -/
noncomputable def wideT : Ty → Bool := Ty.allB fun t => decide (t.args.length ≤ 3000000000000)
theorem wideT_eq (t : Ty) : wideT t = (decide (t.args.length ≤ 3000000000000) && t.args.all wideT) := allB_eq _ t
theorem wideT_len {t : Ty} (h : wideT t = true) : t.args.length ≤ 3000000000000 := by
  rw [wideT_eq, Bool.and_eq_true, decide_eq_true_eq] at h
  exact h.1
theorem wideT_arg {t k : Ty} (h : wideT t = true) (hk : k ∈ t.args) : wideT k = true := by
  rw [wideT_eq, Bool.and_eq_true, List.all_eq_true] at h
  exact h.2 k hk
theorem make_zerosW (m : Nat) (hm : m ≤ 3000000000000) (W : World) : (Instr.makeSlice 28 (.int .i64 m) (.int .i64 m)).run Tryz.prog W = .ok (.slice (some ⟨W.heap.size, 0, none⟩) m m) (W.alloc (.cells (zerosT m) 37)) := by
  obtain ⟨i1, hj, hy0, hy1, hy2⟩ := info_parts ty_info
  have hmk := run_make (P := Tryz.prog) W 28 37 i1 _ Tryz.underlying28 hj hy0 .i64 .i64 m m (by omega) (Int.le_refl _) (by rw [hy2]; omega) (by omega)
  rw [hy1, Int.toNat_natCast, show (Value.agg #[.string ⟨#[]⟩, .int .i64 0, .slice none 0 0]).cells = zero3 from rfl, zerosT_eq] at hmk
  exact hmk
/-- Are these types those, in new memory? -/
structure CpL (w w' : World) (l : List Ty) (g : Nat) (us : List Ty) : Prop where
  len : us.length = l.length
  row : RowOf tyC w' (some ⟨g, 0, none⟩) us
  ty : ∀ u ∈ us, TyIn w' u
  is : us.map Ty.pure = l.map Ty.pure
  new : w.heap.size ≤ g
  away : ∀ u ∈ us, ∀ c, c < w.heap.size → awayB c u = true
theorem CpL.tys {w w' : World} {l us : List Ty} {g : Nat} (h : CpL w w' l g us) : TysIn w' (some ⟨g, 0, none⟩) us := ⟨h.row, h.ty⟩
def TypesC (l : List Ty) : Prop := ∀ (A : Option Addr) (cap : Nat) (w : World), TysIn w A l → l.length ≤ 3000000000000 →
  Calls Tryz.prog 53 #[.slice A l.length cap] w fun e w' => (∃ g us, e = .returned (.slice (some ⟨g, 0, none⟩) l.length l.length) ∧ CpL w w' l g us) ∧ Ext w w'
theorem set_last (us : List Ty) (m : Nat) (x u : Ty) (h1 : u.con = x.con) (h2 : u.var = x.var) : (rowT (us ++ [x]) m).setIfInBounds (us.length * 3 + 2) (.slice u.A u.args.length u.cap) = rowT (us ++ [u]) m := by
  unfold rowT
  have e : ∀ y : Ty, (us ++ [y] ++ List.replicate m Ty.zero).flatMap tyC.f = us.flatMap tyC.f ++ (tyC.f y ++ (List.replicate m Ty.zero).flatMap tyC.f) := by
    intro y
    rw [List.flatMap_append, List.flatMap_append, List.flatMap_cons, List.flatMap_nil, List.append_nil, List.append_assoc]
  have hl : (us.flatMap tyC.f).length = us.length * 3 := flat_len _ _ tyC.hf _
  rw [e, e, ← hl]
  generalize us.flatMap tyC.f = a
  generalize (List.replicate m Ty.zero).flatMap tyC.f = b
  show ((a ++ (([encStr x.con, .int .i64 x.var, .slice x.A x.args.length x.cap] : List Value) ++ b)).toArray.setIfInBounds _ _) = (a ++ (([encStr u.con, .int .i64 u.var, .slice u.A u.args.length u.cap] : List Value) ++ b)).toArray
  rw [List.setIfInBounds_toArray, List.set_append_right _ _ (by omega), h1, h2]
  congr 2
  rw [show a.length + 2 - a.length = 2 by omega]
  rfl

set_option maxRecDepth 10000 in
set_option maxHeartbeats 4000000 in
theorem f_types_of (l : List Ty) (hq : ∀ t ∈ l, t.args.length ≤ 3000000000000 ∧ TypesC t.args) : TypesC l := by
  intro A cap w h hlen
  have H := hide h
  have HQ := hide hq
  have hmk := make_zerosW l.length hlen w
  obtain ⟨W, hW⟩ : ∃ W, W = w.alloc (.cells (zerosT l.length) 37) := ⟨_, rfl⟩
  have X0 : Hid (Ext w W) := hide (by rw [hW]; exact (Ext.refl _).alloc _)
  have B0 : Hid (W.heap[w.heap.size]? = some (.cells (rowT [] l.length) 37 (0, 0))) := hide (by rw [hW]; exact at_newB _ _ _ rfl)
  rw [← hW] at hmk
  clear h hq hW
  go_enter Tryz.func53, Tryz.ntmps53
  go_wp2
  clear hmk
  go_loopw [11] (fun i wr => ∃ (k : Nat) (us : List Ty), k ≤ l.length ∧ i = .int .i64 k ∧ Hid (Ext w wr) ∧ Hid (wr.heap[w.heap.size]? = some (.cells (rowT us (l.length - k)) 37 (0, 0))) ∧ Hid (CpsOk w wr (fun c => c = w.heap.size) (l.take k) us)) (fun i _ => l.length - (intOf i).toNat)
  case atStart => exact ⟨0, [], Nat.zero_le _, rfl, X0, B0, hide (CpsOk.nil _ _ _)⟩
  case round =>
    obtain ⟨k, us, hk, rfl, HX, HR, HP⟩ := hrel
    have hul : us.length = k := by have := HP.out.len; rw [List.length_take] at this; omega
    by_cases hlt : k < l.length
    · have hlt' : (k : Int) < (l.length : Int) := by omega
      have hk0 : (0 : Int) ≤ (k : Int) := by omega
      obtain ⟨b, o, hA, hb, q0, q1, q2⟩ := (H.out.ext HX.out).at_ hlt
      have hkm := List.getElem_mem hlt
      have Hx := hide (H.out.args _ hkm)
      have HQx := hide (HQ.out _ hkm)
      have Htk : Hid (l.take (k + 1) = l.take k ++ [l[k]'hlt]) := hide (List.take_succ_eq_append_getElem hlt)
      obtain ⟨m, hm⟩ : ∃ m, l.length - k = m + 1 := ⟨l.length - k - 1, by omega⟩
      have hm2 : l.length - (k + 1) = m := by omega
      rw [hm] at HR
      generalize l[k]'hlt = x at *
      have hgl : w.heap.size < wr.heap.size := lt_of_obj HR.out
      clear hkm
      rw [hA]
      clear hA
      have f0 := free_block HR.out (us.length * 3)
      have f1 := free_block HR.out (us.length * 3 + 1)
      have f2 := free_block HR.out (us.length * 3 + 2)
      have k0 := (bytes_block HR.out (us.length * 3)).trans (row_at3 us m).1
      have k1 := (bytes_block HR.out (us.length * 3 + 1)).trans (row_at3 us m).2.1
      have k2 := (bytes_block HR.out (us.length * 3 + 2)).trans (row_at3 us m).2.2
      have HRn := hide (put3 x HR.out)
      have HPn := hide (HP.out.grown (put3_grown wr w.heap.size (us.length * 3) (us.length * 3 + 1) (us.length * 3 + 2) (encStr x.con) (.int .i64 x.var) (.slice x.A x.args.length x.cap)) (fun c e => by injection e with e; exact e.symm))
      have Xn : Hid (Ext w (((wr.setCell ⟨w.heap.size, us.length * 3, none⟩ (encStr x.con)).setCell ⟨w.heap.size, us.length * 3 + 1, none⟩ (.int .i64 x.var)).setCell ⟨w.heap.size, us.length * 3 + 2, none⟩ (.slice x.A x.args.length x.cap))) := hide (((HX.out.setCell (by simp) _).setCell (by simp) _).setCell (by simp) _)
      rw [hul] at f0 f1 f2 k0 k1 k2 HRn HPn Xn
      go_upto_region 6 with fail
      refine wp_named ?_
      intro W5 hW5
      have E5 : Hid (Ext (((wr.setCell ⟨w.heap.size, k * 3, none⟩ (encStr x.con)).setCell ⟨w.heap.size, k * 3 + 1, none⟩ (.int .i64 x.var)).setCell ⟨w.heap.size, k * 3 + 2, none⟩ (.slice x.A x.args.length x.cap)) W5) := hide (by rw [hW5]; exact (Ext.refl _).alloc _)
      have hs5 : (((wr.setCell ⟨w.heap.size, k * 3, none⟩ (encStr x.con)).setCell ⟨w.heap.size, k * 3 + 1, none⟩ (.int .i64 x.var)).setCell ⟨w.heap.size, k * 3 + 2, none⟩ (.slice x.A x.args.length x.cap)).heap.size = wr.heap.size := by simp [World.setCell]
      have D1 : Hid (TBox W5 wr.heap.size x) := hide (by rw [hW5]; exact at_newB _ _ _ hs5.symm)
      have X5 := hide (Xn.out.trans E5.out)
      have HR5 := hide ((E5.out.heap (lt_of_obj HRn.out)).trans HRn.out)
      have HP5 := hide (HPn.out.ext E5.out)
      clear hW5 hs5 f0 f1 f2 k0 k1 k2 HRn HPn Xn E5 HR HP q0 q1 q2
      have t2 := D1.out.c2
      have hd := D1.out.lt
      have HC := hide (HQx.out.2 x.A x.cap W5 ((Hx.out.ext X5.out).all) HQx.out.1)
      go_wp2_with fail
      refine HC.out.mono ?_
      rintro e y ⟨⟨g, vs, rfl, hv⟩, hxy⟩
      have HR6 := hide ((hxy.heap (lt_of_obj HR5.out)).trans HR5.out)
      obtain ⟨u, hu⟩ : ∃ u : Ty, u = .mk x.con x.var (some ⟨g, 0, none⟩) x.args.length vs := ⟨_, rfl⟩
      have Hcp : Hid (CpOk W5 y x u) := hide (by
        rw [hu]
        refine ⟨TyIn.of (by rw [hv.len]; exact Nat.le_refl _) (by have := HQx.out.1; omega) Hx.out.txt hv.row hv.ty, ?_, fun c hc => awayB_mk (fun _ a e => by injection e with e; subst e; show g ≠ c; have := hv.new; omega) (fun v hv2 => hv.away v hv2 c hc)⟩
        rw [Ty.pure_eq x, Ty.pure_eq, ← hv.is]
        rfl)
      have HP6 : Hid (CpsOk w y (fun c => c = w.heap.size) (l.take (k + 1)) (us ++ [u])) := hide (by
        rw [Htk.out]
        exact HP5.out.snoc Hcp.out hxy X5.out.size (fun c hc => by rw [hc]; exact lt_of_obj HR5.out))
      have hlv : u.args.length = x.args.length := by rw [hu]; exact hv.len
      have hua : u.A = some ⟨g, 0, none⟩ := by rw [hu]; rfl
      have huc : u.cap = x.args.length := by rw [hu]; rfl
      have HR7 : Hid ((y.setCell ⟨w.heap.size, k * 3 + 2, none⟩ (.slice (some ⟨g, 0, none⟩) x.args.length x.args.length)).heap[w.heap.size]? = some (.cells (rowT (us ++ [u]) m) 37 (0, 0))) := hide (by
        have h1 := blk_setCell HR6.out (us.length * 3 + 2) (.slice (some ⟨g, 0, none⟩) x.args.length x.args.length)
        have h2 := set_last us m x u (by rw [hu]; rfl) (by rw [hu]; rfl)
        rw [hua, hlv, huc] at h2
        rw [h2, hul] at h1
        exact h1)
      have HP7 := hide (HP6.out.grown (grown_cell y w.heap.size (k * 3 + 2) (.slice (some ⟨g, 0, none⟩) x.args.length x.args.length)) (fun c e => by injection e with e; exact e.symm))
      have X7 : Hid (Ext w (y.setCell ⟨w.heap.size, k * 3 + 2, none⟩ (.slice (some ⟨g, 0, none⟩) x.args.length x.args.length))) := hide ((X5.out.trans hxy).setCell (by simp) _)
      have f2 := free_block HR6.out (k * 3 + 2)
      have k2 : y.cell? ⟨w.heap.size, k * 3 + 2, none⟩ = some (.slice x.A x.args.length x.cap) := by
        have h1 := (bytes_block HR6.out (us.length * 3 + 2))
        rw [hul] at h1
        rw [h1]
        unfold rowT
        rw [List.flatMap_append, List.flatMap_append, List.flatMap_cons, List.flatMap_nil, List.append_nil, List.append_assoc]
        have hl : (us.flatMap tyC.f).length = k * 3 := by rw [flat_len _ _ tyC.hf, hul]; rfl
        rw [List.getElem?_toArray, List.getElem?_append_right (by omega), hl, show k * 3 + 2 - k * 3 = 2 by omega]
        rfl
      have hgy : w.heap.size < y.heap.size := lt_of_obj HR6.out
      clear hxy hv hu hlv hua huc HC HP6 HR6 HR5 HP5 t2 hd
      go_wp2
      go_roundw
      case rel => exact ⟨k + 1, us ++ [u], hlt, by go_num, X7, hide (by rw [hm2]; exact HR7.out), HP7⟩
      case measure => simp [intOf]; omega
    · have hge : ¬ (k : Int) < (l.length : Int) := by omega
      have hkn : k = l.length := by omega
      have HRd : Hid (wr.heap[w.heap.size]? = some (.cells (us.flatMap tyC.f).toArray 37 (0, 0))) := hide (by have := HR.out; rw [hkn, Nat.sub_self, row_done] at this; exact this)
      have HF : Hid (CpL w wr l w.heap.size us) := hide (by
        have h := HP.out
        rw [List.take_of_length_le (by omega)] at h
        exact ⟨h.len, RowOf.block tyC us HRd.out, h.ty, h.is, Nat.le_refl _, h.away⟩)
      clear HR HP HRd
      go_wp2
      go_ret
      first | exact ⟨⟨w.heap.size, us, rfl, HF.out⟩, HX.out⟩ | exact ⟨⟨w.heap.size, rfl, us, HF.out⟩, HX.out⟩

theorem f_typesA (t : Ty) : wideT t = true → TypesC t.args := by
  induction t using Ty.ind with
  | h t ih =>
  intro h
  exact f_types_of t.args (fun k hk => ⟨wideT_len (wideT_arg h hk), ih k hk (wideT_arg h hk)⟩)
theorem f_types (l : List Ty) (h : ∀ t ∈ l, wideT t = true) : TypesC l := f_types_of l (fun t ht => ⟨wideT_len (h t ht), f_typesA t (h t ht)⟩)

end Go.Proofs.YtpdcjjgkpbpleaaGreatDoor

/- Proofs in a row, away from blocks; proofs in new memory: plain. -/
namespace Go.Proofs.YtpdcjjgkpbpleaaGreatDoor
open Go.RowKit

def OffF (c : Nat) (A : Option Addr) (n : Nat) : Prop := n ≠ 0 → ∀ a, A = some a → a.block ≠ c
theorem OffF.new {w : World} {A : Option Addr} {k n c : Nat} {l : List Value} (h : Row w A k n l) (hc : w.heap.size ≤ c) : OffF c A n := by
  intro hn a ha
  obtain ⟨b, o, e, hb, -⟩ := h.2 (by omega)
  subst ha
  injection e with e
  subst e
  show b ≠ c
  omega
/-- No part of a proof lies in block c. -/
inductive AwayF (c : Nat) : Pf → Prop
  | mk {t : Pf} (ty : OffF c t.T t.types.length) (tys : ∀ x ∈ t.types, awayB c x = true) (k : OffF c t.A t.kids.length) (kids : ∀ k ∈ t.kids, AwayF c k) : AwayF c t
section
variable {w w' : World} {t : Pf} {c : Nat}
theorem AwayF.ty (h : AwayF c t) : OffF c t.T t.types.length := by cases h; assumption
theorem AwayF.tys (h : AwayF c t) : ∀ x ∈ t.types, awayB c x = true := by cases h; assumption
theorem AwayF.k (h : AwayF c t) : OffF c t.A t.kids.length := by cases h; assumption
theorem AwayF.kids (h : AwayF c t) : ∀ k ∈ t.kids, AwayF c k := by cases h; assumption
theorem awayF_new (h : PfIn w t) (hc : w.heap.size ≤ c) : AwayF c t := by
  induction h with
  | mk h _ ih => exact .mk (OffF.new h.types.row hc) (fun x hx => away_new (h.types.args x hx) hc) (OffF.new h.row hc) ih
theorem PfIn.grown {row : Option Nat} (h : PfIn w t) (hg : w.grownBy w' row) (ha : ∀ c, row = some c → AwayF c t) : PfIn w' t := by
  induction h with
  | mk h _ ih =>
    refine .mk ⟨h.tle, h.tmax, h.le, h.max, ⟨row_grown h.types.row hg (fun hn a hA e => (ha _ e).ty hn a hA rfl), fun x hx => (h.types.args x hx).grown hg (fun c e => (ha c e).tys x hx)⟩, row_grown h.row hg (fun hn a hA e => (ha _ e).k hn a hA rfl)⟩ (fun k hk => ih k hk (fun c e => (ha c e).kids k hk))
end
theorem awayF_zero (c : Nat) : AwayF c Pf.zero := .mk (fun h => absurd rfl h) (by intro x hx; cases hx) (fun h => absurd rfl h) (by intro x hx; cases hx)

/-! ### Proofs in a row -/
def rowPf (us : List Pf) (n : Nat) : Array Value := ((us ++ List.replicate n Pf.zero).flatMap pfC.f).toArray
/-- A proof is written at a place. -/
def putPfAt (w : World) (b o : Nat) (t : Pf) : World :=
  (((w.setCell ⟨b, o, none⟩ (.int .i64 t.kind)).setCell ⟨b, o + 1, none⟩ (.int .i64 t.n)).setCell ⟨b, o + 2, none⟩ (.slice t.T t.types.length t.tc)).setCell ⟨b, o + 3, none⟩ (.slice t.A t.kids.length t.cap)
theorem putPfAt_grown (w : World) (b o : Nat) (t : Pf) : w.grownBy (putPfAt w b o t) (some b) :=
  grown_trans (grown_trans (grown_trans (grown_cell _ _ _ _) (grown_cell _ _ _ _)) (grown_cell _ _ _ _)) (grown_cell _ _ _ _)
theorem putPfAt_size (w : World) (b o : Nat) (t : Pf) : (putPfAt w b o t).heap.size = w.heap.size := by simp [putPfAt, World.setCell]
theorem putPfAt_ext {w W : World} {b : Nat} (x : Ext w W) (h : w.heap.size ≤ b) (o : Nat) (t : Pf) : Ext w (putPfAt W b o t) := (((x.setCell h _).setCell h _).setCell h _).setCell h _
theorem set4f (us : List Pf) (n : Nat) (u : Pf) : ((((rowPf us (n + 1)).setIfInBounds (us.length * 4) (.int .i64 u.kind)).setIfInBounds (us.length * 4 + 1) (.int .i64 u.n)).setIfInBounds (us.length * 4 + 2) (.slice u.T u.types.length u.tc)).setIfInBounds (us.length * 4 + 3) (.slice u.A u.kids.length u.cap) = rowPf (us ++ [u]) n := by
  unfold rowPf
  have h1 : (us ++ List.replicate (n + 1) Pf.zero).flatMap pfC.f = us.flatMap pfC.f ++ (pfC.f Pf.zero ++ (List.replicate n Pf.zero).flatMap pfC.f) := by
    rw [List.flatMap_append, List.replicate_succ, List.flatMap_cons]
  have h2 : (us ++ [u] ++ List.replicate n Pf.zero).flatMap pfC.f = us.flatMap pfC.f ++ (pfC.f u ++ (List.replicate n Pf.zero).flatMap pfC.f) := by
    rw [List.flatMap_append, List.flatMap_append, List.flatMap_cons, List.flatMap_nil, List.append_nil, List.append_assoc]
  have hl : (us.flatMap pfC.f).length = us.length * 4 := flat_len _ _ pfC.hf _
  rw [h1, h2, ← hl]
  generalize us.flatMap pfC.f = a
  generalize (List.replicate n Pf.zero).flatMap pfC.f = b
  show ((((a ++ (([.int .i64 0, .int .i64 0, .slice none 0 0, .slice none 0 0] : List Value) ++ b)).toArray.setIfInBounds _ _).setIfInBounds _ _).setIfInBounds _ _).setIfInBounds _ _ = (a ++ (([.int .i64 u.kind, .int .i64 u.n, .slice u.T u.types.length u.tc, .slice u.A u.kids.length u.cap] : List Value) ++ b)).toArray
  simp only [List.setIfInBounds_toArray]
  congr 1
  rw [List.set_append_right _ _ (Nat.le_refl _), List.set_append_right _ _ (by omega), List.set_append_right _ _ (by omega), List.set_append_right _ _ (by omega)]
  simp
theorem row_at4f (us : List Pf) (n : Nat) : (rowPf us (n + 1))[us.length * 4]? = some (.int .i64 0) ∧ (rowPf us (n + 1))[us.length * 4 + 1]? = some (.int .i64 0) ∧ (rowPf us (n + 1))[us.length * 4 + 2]? = some (.slice none 0 0) ∧ (rowPf us (n + 1))[us.length * 4 + 3]? = some (.slice none 0 0) := by
  unfold rowPf
  have h1 : (us ++ List.replicate (n + 1) Pf.zero).flatMap pfC.f = us.flatMap pfC.f ++ (pfC.f Pf.zero ++ (List.replicate n Pf.zero).flatMap pfC.f) := by
    rw [List.flatMap_append, List.replicate_succ, List.flatMap_cons]
  have hl : (us.flatMap pfC.f).length = us.length * 4 := flat_len _ _ pfC.hf _
  rw [h1, ← hl]
  generalize us.flatMap pfC.f = a
  generalize (List.replicate n Pf.zero).flatMap pfC.f = b
  have e : pfC.f Pf.zero = [.int .i64 0, .int .i64 0, .slice none 0 0, .slice none 0 0] := rfl
  rw [e]
  simp only [List.getElem?_toArray]
  refine ⟨?_, ?_, ?_, ?_⟩ <;> rw [List.getElem?_append_right (by omega)] <;> simp
theorem rowPf_done (us : List Pf) : rowPf us 0 = (us.flatMap pfC.f).toArray := by unfold rowPf; simp
theorem put4f {w : World} {b n : Nat} {us : List Pf} (u : Pf) (h : w.heap[b]? = some (.cells (rowPf us (n + 1)) 31 (0, 0))) :
    (putPfAt w b (us.length * 4) u).heap[b]? = some (.cells (rowPf (us ++ [u]) n) 31 (0, 0)) := by
  rw [← set4f]
  exact blk_setCell (blk_setCell (blk_setCell (blk_setCell h _ _) _ _) _ _) _ _
def zeroF4 : Array Value := #[.int .i64 0, .int .i64 0, .slice none 0 0, .slice none 0 0]
theorem pf_info4 : (Tryz.prog.info? 31).map (fun i => (i.zero, i.size, i.bytes)) = some (some (.agg #[.int .i64 0, .int .i64 0, .slice none 0 0, .slice none 0 0]), 4, 64) := by kernel_rfl
theorem zerosF_eq (m : Nat) : madeCells zeroF4 (m * 4) = rowPf [] m := by
  unfold madeCells rowPf
  rw [List.nil_append]
  apply Array.toList_inj.1
  rw [Array.toList_map, Array.toList_range]
  induction m with
  | zero => rfl
  | succ m ih =>
    rw [List.replicate_succ', List.flatMap_append, show (m + 1) * 4 = m * 4 + 1 + 1 + 1 + 1 by omega, List.range_succ, List.range_succ, List.range_succ, List.range_succ, List.map_append, List.map_append, List.map_append, List.map_append, ih]
    simp only [List.append_assoc]
    congr 1
    have h0 : (m * 4) % 4 = 0 := by omega
    have h1 : (m * 4 + 1) % 4 = 1 := by omega
    have h2 : (m * 4 + 1 + 1) % 4 = 2 := by omega
    have h3 : (m * 4 + 1 + 1 + 1) % 4 = 3 := by omega
    simp only [List.map_cons, List.map_nil, show zeroF4.size = 4 from rfl, h0, h1, h2, h3, List.flatMap_cons, List.flatMap_nil]
    rfl
theorem make_zerosF (m : Nat) (hm : m ≤ 100000) (W : World) : (Instr.makeSlice 29 (.int .i64 m) (.int .i64 m)).run Tryz.prog W = .ok (.slice (some ⟨W.heap.size, 0, none⟩) m m) (W.alloc (.cells (rowPf [] m) 31)) := by
  obtain ⟨i1, hj, hy0, hy1, hy2⟩ := info_parts pf_info4
  have hmk := run_make (P := Tryz.prog) W 29 31 i1 _ Tryz.underlying29 hj hy0 .i64 .i64 m m (by omega) (Int.le_refl _) (by rw [hy2]; omega) (by omega)
  rw [hy1, Int.toNat_natCast, show (Value.agg #[.int .i64 0, .int .i64 0, .slice none 0 0, .slice none 0 0]).cells = zeroF4 from rfl, zerosF_eq] at hmk
  exact hmk

/-! ### Proofs in new memory -/
noncomputable def wideF : Pf → Bool := Pf.fold fun t l => decide (t.types.length ≤ 3000000000000) && t.types.all wideT && l.all id
theorem wideF_eq (t : Pf) : wideF t = (decide (t.types.length ≤ 3000000000000) && t.types.all wideT && t.kids.all wideF) := by
  unfold wideF
  rw [Pf.fold_eq, List.all_map]
  rfl
theorem wideF_parts {t : Pf} (h : wideF t = true) : t.types.length ≤ 3000000000000 ∧ (∀ x ∈ t.types, wideT x = true) ∧ ∀ k ∈ t.kids, wideF k = true := by
  rw [wideF_eq, Bool.and_eq_true, Bool.and_eq_true, decide_eq_true_eq, List.all_eq_true, List.all_eq_true] at h
  exact ⟨h.1.1, h.1.2, h.2⟩
/-- Is this proof that one (what it says), in memory of its own? -/
structure CpF (w w' : World) (x : Pf.Pure) (u : Pf) : Prop where
  inn : PfIn w' u
  is : u.pure = x
  away : ∀ c, c < w.heap.size → AwayF c u
theorem CpF.ext {w w' w2 : World} {x : Pf.Pure} {u : Pf} (h : CpF w w' x u) (e : Ext w' w2) : CpF w w2 x u := ⟨h.inn.ext e, h.is, h.away⟩
theorem CpF.old {w w1 w' : World} {x : Pf.Pure} {u : Pf} (h : CpF w1 w' x u) (hs : w.heap.size ≤ w1.heap.size) : CpF w w' x u := ⟨h.inn, h.is, fun c hc => h.away c (by omega)⟩
/-- Some kids that have been made, away from the blocks that are written meanwhile. -/
structure CpsF (w w' : World) (R : Nat → Prop) (l : List Pf.Pure) (us : List Pf) : Prop where
  inn : ∀ u ∈ us, PfIn w' u
  is : us.map Pf.pure = l
  row : ∀ u ∈ us, ∀ c, R c → AwayF c u
  away : ∀ u ∈ us, ∀ c, c < w.heap.size → AwayF c u
section
variable {w w1 w2 w' : World} {R : Nat → Prop} {l : List Pf.Pure} {us : List Pf} {t : Pf.Pure} {u : Pf}
theorem CpsF.len (h : CpsF w w1 R l us) : us.length = l.length := by rw [← h.is, List.length_map]
theorem CpsF.nil (w w' : World) (R : Nat → Prop) : CpsF w w' R [] [] := ⟨by simp, rfl, by simp, by simp⟩
theorem CpsF.ext (h : CpsF w w1 R l us) (e : Ext w1 w2) : CpsF w w2 R l us := ⟨fun u hu => (h.inn u hu).ext e, h.is, h.row, h.away⟩
theorem CpsF.grown (h : CpsF w w1 R l us) {row : Option Nat} (hg : w1.grownBy w2 row) (hr : ∀ c, row = some c → R c) : CpsF w w2 R l us :=
  ⟨fun u hu => (h.inn u hu).grown hg (fun c e => h.row u hu c (hr c e)), h.is, h.row, h.away⟩
theorem CpsF.snoc (h : CpsF w w1 R l us) (k : CpF w1 w2 t u) (he : Ext w1 w2) (hs : w.heap.size ≤ w1.heap.size) (hr : ∀ c, R c → c < w1.heap.size) : CpsF w w2 R (l ++ [t]) (us ++ [u]) := by
  refine ⟨fun x hx => ?_, by rw [List.map_append, h.is]; simp [k.is], fun x hx c hc => ?_, fun x hx c hc => ?_⟩
  · rcases List.mem_append.1 hx with hx | hx
    · exact (h.inn x hx).ext he
    · rw [List.mem_singleton] at hx; subst hx; exact k.inn
  · rcases List.mem_append.1 hx with hx | hx
    · exact h.row x hx c hc
    · rw [List.mem_singleton] at hx; subst hx
      exact k.away c (hr c hc)
  · rcases List.mem_append.1 hx with hx | hx
    · exact h.away x hx c hc
    · rw [List.mem_singleton] at hx; subst hx
      exact k.away c (by omega)
/-- All kids have been made, and the types: the proof. -/
theorem CpsF.done {kind n : Int} {ts : List Ty} {g : Nat} {vs : List Ty} {b m : Nat} (h : CpsF w w' R l us) (hv : TysIn w' (some ⟨g, 0, none⟩) vs) (hvp : vs.map Ty.pure = ts.map Ty.pure) (hva : ∀ v ∈ vs, ∀ c, c < w.heap.size → awayB c v = true) (hg : w.heap.size ≤ g) (hvl : vs.length ≤ 9223372036854775807)
    (hm : us.length = m) (hml : m ≤ 9223372036854775807) (h3 : RowOf pfC w' (some ⟨b, 0, none⟩) us) (hb : w.heap.size ≤ b) : CpF w w' (.mk kind n (ts.map Ty.pure) l) (.mk kind n (some ⟨g, 0, none⟩) vs.length vs (some ⟨b, 0, none⟩) m us) where
  inn := .mk ⟨Nat.le_refl _, hvl, by show us.length ≤ m; omega, hml, hv, h3⟩ h.inn
  is := by rw [Pf.pure_eq]; show Pf.Pure.mk kind n (vs.map Ty.pure) (us.map Pf.pure) = _; rw [hvp, h.is]
  away c hc := .mk (fun _ a e => by injection e with e; subst e; show g ≠ c; omega) (fun v hv => hva v hv c hc) (fun _ a e => by injection e with e; subst e; show b ≠ c; omega) (fun u hu => h.away u hu c hc)
end

end Go.Proofs.YtpdcjjgkpbpleaaGreatDoor

/- Contract: a proof in new memory. -/
namespace Go.Proofs.YtpdcjjgkpbpleaaGreatDoor
open Go.RowKit

theorem CpL.grown {w w1 w2 : World} {l us : List Ty} {g : Nat} {row : Option Nat} (h : CpL w w1 l g us) (hg : w1.grownBy w2 row) (hr : ∀ c, row = some c → c < w.heap.size) : CpL w w2 l g us := by
  refine ⟨h.len, row_grown h.row hg (fun _ a e e2 => ?_), fun u hu => (h.ty u hu).grown hg (fun c e => h.away u hu c (hr c e)), h.is, h.new, h.away⟩
  injection e with e
  subst e
  have := hr _ e2
  have := h.new
  simp at *
  omega
theorem CpL.ext {w w1 w2 : World} {l us : List Ty} {g : Nat} (h : CpL w w1 l g us) (e : Ext w1 w2) : CpL w w2 l g us := ⟨h.len, RowOf.ext tyC h.row e, fun u hu => (h.ty u hu).ext e, h.is, h.new, h.away⟩
theorem f0_cells {w : World} {b : Nat} (h : w.heap[b]? = some (.cells #[.int .i64 0, .int .i64 0, .slice none 0 0, .slice none 0 0] 31)) : w.cell? ⟨b, 0, none⟩ = some (.int .i64 0) ∧ w.cell? ⟨b, 1, none⟩ = some (.int .i64 0) ∧ w.cell? ⟨b, 2, none⟩ = some (.slice none 0 0) ∧ w.cell? ⟨b, 3, none⟩ = some (.slice none 0 0) ∧ w.frozen? ⟨b, 0, none⟩ = false ∧ w.frozen? ⟨b, 1, none⟩ = false ∧ w.frozen? ⟨b, 2, none⟩ = false ∧ w.frozen? ⟨b, 3, none⟩ = false := by
  refine ⟨?_, ?_, ?_, ?_, ?_, ?_, ?_, ?_⟩ <;> simp [World.cell?, World.frozen?, h]

set_option maxRecDepth 10000 in
set_option maxHeartbeats 4000000 in
theorem f_copiedF (p : Pf) : ∀ (w : World), PfIn w p → wideF p = true → p.size ≤ 100000 →
    Calls Tryz.prog 52 #[pfV p] w fun e w' => (∃ u, e = .returned (pfV u) ∧ CpF w w' p.pure u) ∧ Ext w w' := by
  induction p using Pf.ind with
  | h p ih =>
  intro w h hw hsz
  obtain ⟨hw1, hw2, hw3⟩ := wideF_parts hw
  obtain ⟨W, hW⟩ : ∃ W, W = (w.alloc (.cells #[.int .i64 p.kind, .int .i64 p.n, .slice p.T p.types.length p.tc, .slice p.A p.kids.length p.cap] 31)).alloc (.cells #[.int .i64 0, .int .i64 0, .slice none 0 0, .slice none 0 0] 31) := ⟨_, rfl⟩
  have HW := hide hW.symm
  have X0 : Hid (Ext w W) := hide (by rw [hW]; exact ((Ext.refl _).alloc _).alloc _)
  have B1 : Hid (FBox W w.heap.size p) := hide (by rw [hW]; exact (FBox.new w p).ext ((Ext.refl _).alloc _))
  have B2 : Hid (W.heap[w.heap.size + 1]? = some (.cells #[.int .i64 0, .int .i64 0, .slice none 0 0, .slice none 0 0] 31)) := hide (by rw [hW]; exact at_newB _ _ _ (by simp))
  have HsW : Hid (W.heap.size = w.heap.size + 2) := hide (by rw [hW]; simp)
  have H := hide h
  have IH := hide (fun k (hk : k ∈ p.kids) => ih k hk)
  have HW3 := hide hw3
  have hle := h.hd.le
  have hmx := h.hd.max
  have hlen : p.kids.length < p.size := p.kids_len
  have HSz := hide (fun k (hk : k ∈ p.kids) => Pf.size_kid hk)
  have HT := hide (f_types p.types hw2 p.T p.tc W (h.hd.types.ext X0.out) hw1)
  have Hpu : Hid (p.pure = .mk p.kind p.n (p.types.map Ty.pure) (p.kids.map Pf.pure)) := hide (Pf.pure_eq p)
  obtain ⟨c0, c1, c2, c3⟩ := B1.out.cells
  have cf := B1.out.free 2
  have hcl := B1.out.lt
  clear h hW ih hw hw2 hw3
  generalize p.pure = PP at *
  unfold pfV
  go_enter Tryz.func52, Tryz.ntmps52
  go_upto_region 1 with fail
  rw [HW.out]
  clear HW
  go_wp2_with fail
  refine HT.out.mono ?_
  rintro e y ⟨⟨g, vs, rfl, hv⟩, hxy⟩
  have HV := hide hv
  have X1 := hide hxy
  have B1y := hide (B1.out.ext hxy)
  have B2y := hide ((hxy.heap (lt_of_obj B2.out)).trans B2.out)
  have hyl : W.heap.size ≤ y.heap.size := hxy.size
  obtain ⟨d0, d1, d2, d3⟩ := B1y.out.cells
  have df := B1y.out.free 2
  have hdl := B1y.out.lt
  clear hv hxy c0 c1 c2 c3 cf hcl
  go_upto_region 2 with fail
  refine wp_named ?_
  intro Y hY
  have GY : Hid (y.grownBy Y (some w.heap.size)) := hide (by rw [hY]; exact grown_cell y w.heap.size 2 _)
  have C1 : Hid (Y.heap[w.heap.size]? = some (.cells #[.int .i64 p.kind, .int .i64 p.n, .slice (some ⟨g, 0, none⟩) p.types.length p.types.length, .slice p.A p.kids.length p.cap] 31 (0, 0))) := hide (by
    rw [hY]
    have h1 := blk_setCell (show y.heap[w.heap.size]? = some (.cells #[.int .i64 p.kind, .int .i64 p.n, .slice p.T p.types.length p.tc, .slice p.A p.kids.length p.cap] 31) from B1y.out) 2 (.slice (some ⟨g, 0, none⟩) p.types.length p.types.length)
    exact h1)
  have C2 : Hid (Y.heap[w.heap.size + 1]? = some (.cells #[.int .i64 0, .int .i64 0, .slice none 0 0, .slice none 0 0] 31)) := hide ((GY.out.block _ (lt_of_obj B2y.out) (fun e => by injection e with e; omega)).trans B2y.out)
  have XY : Hid (Ext w Y) := hide (by rw [hY]; exact (X0.out.trans X1.out).setCell (by simp) _)
  have HV2 := hide (HV.out.grown GY.out (fun c e => by injection e with e; have := HsW.out; omega))
  clear hY d0 d1 d2 d3 df hdl HV GY B1y B2y B1 B2
  have hmk := make_zerosF p.kids.length (by omega) Y
  obtain ⟨W2, hW2⟩ : ∃ W2, W2 = Y.alloc (.cells (rowPf [] p.kids.length) 31) := ⟨_, rfl⟩
  have X2 : Hid (Ext w W2) := hide (by rw [hW2]; exact XY.out.alloc _)
  have XY2 : Hid (Ext Y W2) := hide (by rw [hW2]; exact (Ext.refl _).alloc _)
  have C1w := hide ((XY2.out.heap (lt_of_obj C1.out)).trans C1.out)
  have C2w := hide ((XY2.out.heap (lt_of_obj C2.out)).trans C2.out)
  have C3 : Hid (W2.heap[Y.heap.size]? = some (.cells (rowPf [] p.kids.length) 31 (0, 0))) := hide (by rw [hW2]; exact at_newB _ _ _ rfl)
  rw [← hW2] at hmk
  have k3 := bytes_block C1.out 3
  simp only [List.getElem?_toArray, List.getElem?_cons_zero, List.getElem?_cons_succ] at k3
  have k3' := bytes_block C1w.out 3
  simp only [List.getElem?_toArray, List.getElem?_cons_zero, List.getElem?_cons_succ] at k3'
  have HYl : Hid (w.heap.size + 1 < Y.heap.size) := hide (lt_of_obj C2.out)
  clear hW2
  go_wp2
  clear hmk k3 k3'
  go_loopw [17] (fun i wr => ∃ (k : Nat) (us : List Pf), k ≤ p.kids.length ∧ i = .int .i64 k ∧ Hid (Ext Y wr) ∧ Hid (wr.heap[Y.heap.size]? = some (.cells (rowPf us (p.kids.length - k)) 31 (0, 0))) ∧ Hid (CpsF w wr (fun c => w.heap.size ≤ c ∧ c ≤ Y.heap.size) ((p.kids.take k).map Pf.pure) us)) (fun i _ => p.kids.length - (intOf i).toNat)
  case atStart => exact ⟨0, [], Nat.zero_le _, rfl, XY2, C3, hide (CpsF.nil _ _ _)⟩
  case round =>
    obtain ⟨k, us, hk, rfl, HX, HR, HP⟩ := hrel
    have hul : us.length = k := by have := HP.out.len; rw [List.length_map, List.length_take] at this; omega
    by_cases hlt : k < p.kids.length
    · have hlt' : (k : Int) < (p.kids.length : Int) := by omega
      have hk0 : (0 : Int) ≤ (k : Int) := by omega
      have XR := hide (XY.out.trans HX.out)
      obtain ⟨b, o, hA, hb, q0, q1, q2, q3⟩ := (H.out.all.ext XR.out).at_ hlt
      have hkm := List.getElem_mem hlt
      have hszk := HSz.out _ hkm
      have HIH := hide (IH.out _ hkm (wr.alloc (.cells #[.int .i64 (p.kids[k]'hlt).kind, .int .i64 (p.kids[k]'hlt).n, .slice (p.kids[k]'hlt).T (p.kids[k]'hlt).types.length (p.kids[k]'hlt).tc, .slice (p.kids[k]'hlt).A (p.kids[k]'hlt).kids.length (p.kids[k]'hlt).cap] 31)) ((H.out.all.kids _ hkm).ext (XR.out.alloc _)) (HW3.out _ hkm) (by omega))
      have Htk : Hid ((p.kids.take (k + 1)).map Pf.pure = (p.kids.take k).map Pf.pure ++ [(p.kids[k]'hlt).pure]) := hide (by rw [List.take_succ_eq_append_getElem hlt, List.map_append]; rfl)
      obtain ⟨m, hm⟩ : ∃ m, p.kids.length - k = m + 1 := ⟨p.kids.length - k - 1, by omega⟩
      have hm2 : p.kids.length - (k + 1) = m := by omega
      rw [hm] at HR
      generalize p.kids[k]'hlt = x at *
      have hgl : Y.heap.size < wr.heap.size := lt_of_obj HR.out
      clear hkm
      rw [hA]
      clear hA
      unfold pfV at HIH
      go_wp2_with fail
      refine HIH.out.mono ?_
      rintro e w3 ⟨⟨u, rfl, hu⟩, hx3⟩
      have E3 := hide (((Ext.refl wr).alloc (.cells #[.int .i64 x.kind, .int .i64 x.n, .slice x.T x.types.length x.tc, .slice x.A x.kids.length x.cap] 31)).trans hx3)
      have HR3 := hide ((E3.out.heap (lt_of_obj HR.out)).trans HR.out)
      have HP3 : Hid (CpsF w w3 (fun c => w.heap.size ≤ c ∧ c ≤ Y.heap.size) ((p.kids.take (k + 1)).map Pf.pure) (us ++ [u])) := hide (by
        rw [Htk.out]
        exact (HP.out.ext ((Ext.refl wr).alloc (.cells #[.int .i64 x.kind, .int .i64 x.n, .slice x.T x.types.length x.tc, .slice x.A x.kids.length x.cap] 31))).snoc hu hx3 (by have := XR.out.size; simp; omega) (fun c hc => by simp; omega))
      have X3 := hide (HX.out.trans E3.out)
      have HRn := hide (put4f u HR3.out)
      have HPn := hide (HP3.out.grown (putPfAt_grown w3 Y.heap.size (us.length * 4) u) (fun c e => by injection e with e; have := HYl.out; omega))
      have Xn : Hid (Ext Y (putPfAt w3 Y.heap.size (us.length * 4) u)) := hide (putPfAt_ext X3.out (Nat.le_refl _) _ u)
      have f0 := free_block HR3.out (us.length * 4)
      have f1 := free_block HR3.out (us.length * 4 + 1)
      have f2 := free_block HR3.out (us.length * 4 + 2)
      have f3 := free_block HR3.out (us.length * 4 + 3)
      have k0 := (bytes_block HR3.out (us.length * 4)).trans (row_at4f us m).1
      have k1 := (bytes_block HR3.out (us.length * 4 + 1)).trans (row_at4f us m).2.1
      have k2 := (bytes_block HR3.out (us.length * 4 + 2)).trans (row_at4f us m).2.2.1
      have k3 := (bytes_block HR3.out (us.length * 4 + 3)).trans (row_at4f us m).2.2.2
      rw [hul] at f0 f1 f2 f3 k0 k1 k2 k3 HRn HPn Xn
      clear E3 hx3 hu HR3 HP3
      go_wp2
      go_roundw
      case rel => exact ⟨k + 1, us ++ [u], hlt, by go_num, Xn, hide (by rw [hm2]; exact HRn.out), HPn⟩
      case measure => simp [intOf]; omega
    · have hge : ¬ (k : Int) < (p.kids.length : Int) := by omega
      have hkn : k = p.kids.length := by omega
      have HRd : Hid (wr.heap[Y.heap.size]? = some (.cells (us.flatMap pfC.f).toArray 31 (0, 0))) := hide (by have := HR.out; rw [hkn, Nat.sub_self, rowPf_done] at this; exact this)
      have HPd : Hid (CpsF w wr (fun c => w.heap.size ≤ c ∧ c ≤ Y.heap.size) (p.kids.map Pf.pure) us) := hide (by have := HP.out; rwa [List.take_of_length_le (by omega)] at this)
      have D1 := hide ((HX.out.heap (lt_of_obj C1.out)).trans C1.out)
      have D2 := hide ((HX.out.heap (lt_of_obj C2.out)).trans C2.out)
      have HVd := hide (HV2.out.ext HX.out)
      have hun : us.length = p.kids.length := by omega
      have hd1 := lt_of_obj D1.out
      have hd2 := lt_of_obj D2.out
      clear HR HP hkn
      have g0 := bytes_block D1.out 0
      have g1 := bytes_block D1.out 1
      have g2 := bytes_block D1.out 2
      have g3 := bytes_block D1.out 3
      have fb := free_block D1.out 3
      simp only [List.getElem?_toArray, List.getElem?_cons_zero, List.getElem?_cons_succ] at g0 g1 g2 g3
      obtain ⟨y0, y1, y2, y3, yf0, yf1, yf2, yf3⟩ := f0_cells D2.out
      obtain ⟨U, hU⟩ : ∃ U : Pf, U = .mk p.kind p.n (some ⟨g, 0, none⟩) vs.length vs (some ⟨Y.heap.size, 0, none⟩) p.kids.length us := ⟨_, rfl⟩
      obtain ⟨WF, hWF⟩ : ∃ WF, WF = ((((wr.setCell ⟨w.heap.size, 3, none⟩ (.slice (some ⟨Y.heap.size, 0, none⟩) p.kids.length p.kids.length)).setCell ⟨w.heap.size + 1, 0, none⟩ (.int .i64 p.kind)).setCell ⟨w.heap.size + 1, 1, none⟩ (.int .i64 p.n)).setCell ⟨w.heap.size + 1, 2, none⟩ (.slice (some ⟨g, 0, none⟩) p.types.length p.types.length)).setCell ⟨w.heap.size + 1, 3, none⟩ (.slice (some ⟨Y.heap.size, 0, none⟩) p.kids.length p.kids.length) := ⟨_, rfl⟩
      have XF : Hid (Ext w WF) := hide (by rw [hWF]; exact (((((XY.out.trans HX.out).setCell (by simp) _).setCell (by simp) _).setCell (by simp) _).setCell (by simp) _).setCell (by simp) _)
      have PF : Hid (CpF w WF PP U) := hide (by
        have hg1 := grown_cell wr w.heap.size 3 (.slice (some ⟨Y.heap.size, 0, none⟩) p.kids.length p.kids.length)
        have hg2 : (wr.setCell ⟨w.heap.size, 3, none⟩ (.slice (some ⟨Y.heap.size, 0, none⟩) p.kids.length p.kids.length)).grownBy WF (some (w.heap.size + 1)) := by
          rw [hWF]
          exact grown_trans (grown_trans (grown_trans (grown_cell _ _ _ _) (grown_cell _ _ _ _)) (grown_cell _ _ _ _)) (grown_cell _ _ _ _)
        have h1 := (HPd.out.grown hg1 (fun c e => by injection e with e; have := HYl.out; omega)).grown hg2 (fun c e => by injection e with e; have := HYl.out; omega)
        have h2 := (HVd.out.grown hg1 (fun c e => by injection e with e; have := HsW.out; omega)).grown hg2 (fun c e => by injection e with e; have := HsW.out; omega)
        rw [hU, Hpu.out]
        have hblk : WF.heap[Y.heap.size]? = some (.cells (us.flatMap pfC.f).toArray 31 (0, 0)) := by
          have a1 : Y.heap.size ≠ w.heap.size := by have := HYl.out; omega
          have a2 : Y.heap.size ≠ w.heap.size + 1 := by have := HYl.out; omega
          rw [hWF, Below.heap_setCell _ _ _ _ a2, Below.heap_setCell _ _ _ _ a2, Below.heap_setCell _ _ _ _ a2, Below.heap_setCell _ _ _ _ a2, Below.heap_setCell _ _ _ _ a1]
          exact HRd.out
        exact h1.done h2.tys h2.is (fun v hv c hc => h2.away v hv c (by have := X0.out.size; omega)) (by have := h2.new; have := X0.out.size; omega) (by rw [h2.len]; omega) hun (by omega) (RowOf.block pfC us hblk) (by have := XY.out.size; omega))
      have hvl : vs.length = p.types.length := HVd.out.len
      have hUv : pfV U = .agg #[.int .i64 p.kind, .int .i64 p.n, .slice (some ⟨g, 0, none⟩) p.types.length p.types.length, .slice (some ⟨Y.heap.size, 0, none⟩) p.kids.length p.kids.length] := by
        rw [hU]; unfold pfV; show Value.agg #[_, _, .slice _ vs.length vs.length, .slice _ us.length _] = _; rw [hun, hvl]; rfl
      clear HRd HPd hU HVd hvl hun
      go_wp2
      rw [← hWF]
      refine bodyPost_ret (v := .agg #[.int .i64 p.kind, .int .i64 p.n, .slice (some ⟨g, 0, none⟩) p.types.length p.types.length, .slice (some ⟨Y.heap.size, 0, none⟩) p.kids.length p.kids.length]) ?_ rfl ⟨⟨U, by rw [← hUv]; rfl, PF.out⟩, XF.out⟩
      rw [hWF]
      simp [results, Tryz.f52, go_sem, y0, y1, y2, y3]

end Go.Proofs.YtpdcjjgkpbpleaaGreatDoor
