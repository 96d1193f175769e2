/- The law of schemes' types. -/
import Derived.Test.YtifbkknijialgaaGreatJF27
import Derived.Deep.DeepCutAuto
import Derived.RegionTactic
/- The law of schemes' types. -/
namespace Go.Proofs.YtifbkknijialgaaGreat
open Go.RowKit

theorem ty_size {t : Ty} {q : Ty.Pure} (h : t.pure = q) : t.size = szP q := by rw [size_pure, h]
theorem sz_drew (w : World) : w.drew.heap.size = w.heap.size := rfl
theorem hd_drew (w : World) (n : Nat) : w.drew.heap[n]? = w.heap[n]? := rfl
theorem ha_hit {w : World} {o : Obj} {n : Nat} (h : n = w.heap.size) : (w.alloc o).heap[n]? = some o := by subst h; exact heap_alloc_new w o
theorem ha_miss {w : World} {o o' : Obj} {n : Nat} (_h : n ≠ w.heap.size) (k : w.heap[n]? = some o') : (w.alloc o).heap[n]? = some o' := (((Ext.refl w).alloc o).heap (lt_of_obj k)).trans k
theorem zb {v y : World} {B : Nat} (hx : Ext v y) (h : v.heap[B]? = some (.cells #[.slice none 0 0, .string ⟨#[]⟩, .int .i64 0, .slice none 0 0] 32 (0, 0))) : y.heap[B]? = some (.cells #[.slice none 0 0, .string ⟨#[]⟩, .int .i64 0, .slice none 0 0] 32 (0, 0)) := (hx.heap (lt_of_obj h)).trans h
theorem zb_all {y : World} {B : Nat} (h : y.heap[B]? = some (.cells #[.slice none 0 0, .string ⟨#[]⟩, .int .i64 0, .slice none 0 0] 32 (0, 0))) :
    y.cell? ⟨B, 0, none⟩ = some (.slice none 0 0) ∧ y.cell? ⟨B, 1, none⟩ = some (.string ⟨#[]⟩) ∧ y.cell? ⟨B, 2, none⟩ = some (.int .i64 0) ∧ y.cell? ⟨B, 3, none⟩ = some (.slice none 0 0) ∧ y.frozen? ⟨B, 0, none⟩ = false ∧ y.frozen? ⟨B, 1, none⟩ = false ∧ y.frozen? ⟨B, 2, none⟩ = false ∧ y.frozen? ⟨B, 3, none⟩ = false ∧ B < y.heap.size :=
  ⟨bytes_block h 0, bytes_block h 1, bytes_block h 2, bytes_block h 3, free_block h 0, free_block h 1, free_block h 2, free_block h 3, lt_of_obj h⟩
theorem row_lt {w : World} {A : Option Addr} {l : List Int} (h : Ints w A l) (hl : l ≠ []) {a : Addr} (ha : A = some a) : a.block < w.heap.size := by
  obtain ⟨b, o, e, hb, -⟩ := h.2 (List.length_pos_iff.2 hl)
  rw [ha] at e
  injection e with e
  subst e
  exact hb
/-- What has been made lies in no block that was made ahead of it, nor in one that comes behind it. -/
theorem of_away {w v y : World} {s : Sc} {p : Po} (hp : OfOk v y s p) (H : ScIn w s) : ∀ c, w.heap.size ≤ c → (c < v.heap.size ∨ y.heap.size ≤ c) → awayB c p.ty = true ∧ (p.vars ≠ [] → ∀ a, p.A = some a → a.block ≠ c) := by
  intro c h1 h2
  refine ⟨?_, fun hn a ha => ?_⟩
  · rcases h2 with h2 | h2
    · exact hp.away c h2 (away_new H.ty h1) (fun x hx => away_new (H.row.all x hx).ty h1)
    · exact away_new hp.po.ty h2
  · have k1 := hp.new hn a ha
    have k2 := row_lt hp.po.row hn ha
    omega
theorem po_grown {w w' : World} {p : Po} {c : Nat} (h : PoIn w p) (hg : w.grownBy w' (some c)) (ha : awayB c p.ty = true ∧ (p.vars ≠ [] → ∀ a, p.A = some a → a.block ≠ c)) : PoIn w' p :=
  ⟨h.le, h.max, row_grown h.row hg (fun hn a e e2 => by injection e2 with e2; exact ha.2 (fun h0 => hn (by rw [h0]; rfl)) a e e2.symm), h.ty.grown hg (fun d e => by injection e with e; subst e; exact ha.1)⟩
/-- One is stored into a new block. -/
def putPo (V : World) (b : Nat) (p : Po) : World := (((V.setCell ⟨b, 0, none⟩ (.slice p.A p.vars.length p.cap)).setCell ⟨b, 1, none⟩ (encStr p.ty.con)).setCell ⟨b, 2, none⟩ (.int .i64 p.ty.var)).setCell ⟨b, 3, none⟩ (.slice p.ty.A p.ty.args.length p.ty.cap)
theorem putPo_grown (V : World) (b : Nat) (p : Po) : V.grownBy (putPo V b p) (some b) := grown2 (grown_cell _ _ _ _) (put3_grown _ _ _ _ _ _ _ _)
theorem putPo_box {V : World} {b : Nat} {p : Po} (h : V.heap[b]? = some (.cells #[.slice none 0 0, .string ⟨#[]⟩, .int .i64 0, .slice none 0 0] 32 (0, 0))) : PBox (putPo V b p) b p := by
  have := blk_setCell (blk_setCell (blk_setCell (blk_setCell h 0 (.slice p.A p.vars.length p.cap)) 1 (encStr p.ty.con)) 2 (.int .i64 p.ty.var)) 3 (.slice p.ty.A p.ty.args.length p.ty.cap)
  unfold putPo PBox
  simpa using this
theorem fin_of {W V : World} {b3 b4 : Nat} {p q : Po} (hV : Ext W V) (z3 : V.heap[b3]? = some (.cells #[.slice none 0 0, .string ⟨#[]⟩, .int .i64 0, .slice none 0 0] 32 (0, 0))) (z4 : V.heap[b4]? = some (.cells #[.slice none 0 0, .string ⟨#[]⟩, .int .i64 0, .slice none 0 0] 32 (0, 0))) (hne : b3 ≠ b4) (h3 : W.heap.size ≤ b3) (h4 : W.heap.size ≤ b4)
    (hp : PoIn V p) (hq : PoIn V q) (p3 : awayB b3 p.ty = true ∧ (p.vars ≠ [] → ∀ a, p.A = some a → a.block ≠ b3)) (p4 : awayB b4 p.ty = true ∧ (p.vars ≠ [] → ∀ a, p.A = some a → a.block ≠ b4))
    (q3 : awayB b3 q.ty = true ∧ (q.vars ≠ [] → ∀ a, q.A = some a → a.block ≠ b3)) (q4 : awayB b4 q.ty = true ∧ (q.vars ≠ [] → ∀ a, q.A = some a → a.block ≠ b4)) :
    Ext W (putPo (putPo V b3 p) b4 q) ∧ PBox (putPo (putPo V b3 p) b4 q) b3 p ∧ PBox (putPo (putPo V b3 p) b4 q) b4 q ∧ PoIn (putPo (putPo V b3 p) b4 q) p ∧ PoIn (putPo (putPo V b3 p) b4 q) q := by
  have g1 := putPo_grown V b3 p
  have g2 := putPo_grown (putPo V b3 p) b4 q
  have z4' := (g1.block b4 (lt_of_obj z4) (fun e => hne (by injection e with e; exact e.symm))).trans z4
  have b1 : PBox (putPo V b3 p) b3 p := putPo_box z3
  refine ⟨(hV.grown g1 (fun c e => by injection e with e; omega)).grown g2 (fun c e => by injection e with e; omega), (g2.block b3 (lt_of_obj b1) (fun e => hne (by injection e with e))).trans b1, putPo_box z4', po_grown (po_grown hp g1 p3) g2 p4, po_grown (po_grown hq g1 q3) g2 q4⟩

/-- Where the cut lies: both are in memory. -/
def RelOf (W wx : World) (b3 b4 : Nat) (p q : Po) : Prop := Ext W wx ∧ PBox wx b3 p ∧ PBox wx b4 q ∧ PoIn wx p ∧ PoIn wx q
section
variable {W y : World} {b3 b4 : Nat} {p q : Po}
theorem endA (hV : Ext W y) (z3 : y.heap[b3]? = some (.cells #[.slice none 0 0, .string ⟨#[]⟩, .int .i64 0, .slice none 0 0] 32 (0, 0))) (z4 : y.heap[b4]? = some (.cells #[.slice none 0 0, .string ⟨#[]⟩, .int .i64 0, .slice none 0 0] 32 (0, 0))) (hne : b3 ≠ b4) (h3 : W.heap.size ≤ b3) (h4 : W.heap.size ≤ b4)
    (hp : PoIn y p) (hq : PoIn y q) (p3 : awayB b3 p.ty = true ∧ (p.vars ≠ [] → ∀ a, p.A = some a → a.block ≠ b3)) (p4 : awayB b4 p.ty = true ∧ (p.vars ≠ [] → ∀ a, p.A = some a → a.block ≠ b4))
    (q3 : awayB b3 q.ty = true ∧ (q.vars ≠ [] → ∀ a, q.A = some a → a.block ≠ b3)) (q4 : awayB b4 q.ty = true ∧ (q.vars ≠ [] → ∀ a, q.A = some a → a.block ≠ b4)) :
    RelOf W (((((((((y).setCell ⟨b3, 0, none⟩ (.slice p.A p.vars.length p.cap)).setCell ⟨b3, 1, none⟩ (.string ⟨p.ty.con.toArray⟩)).setCell ⟨b3, 2, none⟩ (.int .i64 p.ty.var)).setCell ⟨b3, 3, none⟩ (.slice p.ty.A p.ty.args.length p.ty.cap)).setCell ⟨b4, 0, none⟩ (.slice q.A q.vars.length q.cap)).setCell ⟨b4, 1, none⟩ (.string ⟨q.ty.con.toArray⟩)).setCell ⟨b4, 2, none⟩ (.int .i64 q.ty.var)).setCell ⟨b4, 3, none⟩ (.slice q.ty.A q.ty.args.length q.ty.cap)) b3 b4 p q := fin_of hV z3 z4 hne h3 h4 hp hq p3 p4 q3 q4
theorem endB (hV : Ext W y) (z3 : y.heap[b3]? = some (.cells #[.slice none 0 0, .string ⟨#[]⟩, .int .i64 0, .slice none 0 0] 32 (0, 0))) (h3 : W.heap.size ≤ b3)
    (hp : PoIn y p) (hq : PoIn y q) (p3 : awayB b3 p.ty = true ∧ (p.vars ≠ [] → ∀ a, p.A = some a → a.block ≠ b3)) (q3 : awayB b3 q.ty = true ∧ (q.vars ≠ [] → ∀ a, q.A = some a → a.block ≠ b3)) :
    RelOf W ((((((y).setCell ⟨b3, 0, none⟩ (.slice p.A p.vars.length p.cap)).setCell ⟨b3, 1, none⟩ (.string ⟨p.ty.con.toArray⟩)).setCell ⟨b3, 2, none⟩ (.int .i64 p.ty.var)).setCell ⟨b3, 3, none⟩ (.slice p.ty.A p.ty.args.length p.ty.cap)).alloc (.cells #[.slice q.A q.vars.length q.cap, (.string ⟨q.ty.con.toArray⟩), .int .i64 q.ty.var, .slice q.ty.A q.ty.args.length q.ty.cap] 32)) b3 y.heap.size p q := by
  have g := putPo_grown y b3 p
  have b1 : PBox (putPo y b3 p) b3 p := putPo_box z3
  have E : Ext (putPo y b3 p) ((putPo y b3 p).alloc (.cells #[.slice q.A q.vars.length q.cap, (.string ⟨q.ty.con.toArray⟩), .int .i64 q.ty.var, .slice q.ty.A q.ty.args.length q.ty.cap] 32)) := (Ext.refl _).alloc _
  exact ⟨(hV.grown g (fun c e => by injection e with e; omega)).trans E, b1.ext E, at_newB _ _ _ (by simp [World.setCell]), (po_grown hp g p3).ext E, (po_grown hq g q3).ext E⟩
theorem endC (hV : Ext W y) (z4 : y.heap[b4]? = some (.cells #[.slice none 0 0, .string ⟨#[]⟩, .int .i64 0, .slice none 0 0] 32 (0, 0))) (h4 : W.heap.size ≤ b4)
    (hp : PoIn y p) (hq : PoIn y q) (p4 : awayB b4 p.ty = true ∧ (p.vars ≠ [] → ∀ a, p.A = some a → a.block ≠ b4)) (q4 : awayB b4 q.ty = true ∧ (q.vars ≠ [] → ∀ a, q.A = some a → a.block ≠ b4)) :
    RelOf W ((((((y).setCell ⟨b4, 0, none⟩ (.slice q.A q.vars.length q.cap)).setCell ⟨b4, 1, none⟩ (.string ⟨q.ty.con.toArray⟩)).setCell ⟨b4, 2, none⟩ (.int .i64 q.ty.var)).setCell ⟨b4, 3, none⟩ (.slice q.ty.A q.ty.args.length q.ty.cap)).alloc (.cells #[.slice p.A p.vars.length p.cap, (.string ⟨p.ty.con.toArray⟩), .int .i64 p.ty.var, .slice p.ty.A p.ty.args.length p.ty.cap] 32)) y.heap.size b4 p q := by
  have h := endB hV z4 h4 hq hp q4 p4
  exact ⟨h.1, h.2.2.1, h.2.1, h.2.2.2.2, h.2.2.2.1⟩
theorem endD (hV : Ext W y) (hp : PoIn y p) (hq : PoIn y q) : RelOf W ((y.alloc (.cells #[.slice p.A p.vars.length p.cap, (.string ⟨p.ty.con.toArray⟩), .int .i64 p.ty.var, .slice p.ty.A p.ty.args.length p.ty.cap] 32)).alloc (.cells #[.slice q.A q.vars.length q.cap, (.string ⟨q.ty.con.toArray⟩), .int .i64 q.ty.var, .slice q.ty.A q.ty.args.length q.ty.cap] 32)) y.heap.size (y.heap.size + 1) p q := by
  have E1 : Ext y (y.alloc (.cells #[.slice p.A p.vars.length p.cap, (.string ⟨p.ty.con.toArray⟩), .int .i64 p.ty.var, .slice p.ty.A p.ty.args.length p.ty.cap] 32)) := (Ext.refl _).alloc _
  have E2 : Ext (y.alloc (.cells #[.slice p.A p.vars.length p.cap, (.string ⟨p.ty.con.toArray⟩), .int .i64 p.ty.var, .slice p.ty.A p.ty.args.length p.ty.cap] 32)) ((y.alloc (.cells #[.slice p.A p.vars.length p.cap, (.string ⟨p.ty.con.toArray⟩), .int .i64 p.ty.var, .slice p.ty.A p.ty.args.length p.ty.cap] 32)).alloc (.cells #[.slice q.A q.vars.length q.cap, (.string ⟨q.ty.con.toArray⟩), .int .i64 q.ty.var, .slice q.ty.A q.ty.args.length q.ty.cap] 32)) := (Ext.refl _).alloc _
  exact ⟨hV.trans (E1.trans E2), (PBox.new y p).ext E2, at_newB _ _ _ (by simp), hp.ext (E1.trans E2), hq.ext (E1.trans E2)⟩
theorem endE (hV : Ext W y) (hp : PoIn y p) (hq : PoIn y q) : RelOf W ((y.alloc (.cells #[.slice q.A q.vars.length q.cap, (.string ⟨q.ty.con.toArray⟩), .int .i64 q.ty.var, .slice q.ty.A q.ty.args.length q.ty.cap] 32)).alloc (.cells #[.slice p.A p.vars.length p.cap, (.string ⟨p.ty.con.toArray⟩), .int .i64 p.ty.var, .slice p.ty.A p.ty.args.length p.ty.cap] 32)) (y.heap.size + 1) y.heap.size p q := by
  have h := endD hV hq hp
  exact ⟨h.1, h.2.2.1, h.2.1, h.2.2.2.2, h.2.2.2.1⟩
end

set_option maxRecDepth 10000 in
set_option maxHeartbeats 8000000 in
theorem law_of (s : Sc) (w : World) (h : ScIn w s) : Calls Tryz.prog 3 #[scV s] w fun e w' => e = .returned (.bool true) ∧ Ext w w' := by
  obtain ⟨W, hW⟩ : ∃ W, W = w.alloc (.cells #[.int .i64 s.n, .slice s.A s.preds.length s.cap, encStr s.ty.con, .int .i64 s.ty.var, .slice s.ty.A s.ty.args.length s.ty.cap] 27) := ⟨_, rfl⟩
  have HW := hide hW.symm
  have X0 : Hid (Ext w W) := hide (by rw [hW]; exact (Ext.refl _).alloc _)
  have B1 : Hid (ScBox W w.heap.size s) := hide (by rw [hW]; exact ScBox.new w s)
  have HF := hide (l_few21 s W (h.ext X0.out))
  have HAw := hide (fun w' => hide (l_awake31 w'))
  have H := hide h
  have hmx := h.max
  have hle := h.le
  obtain ⟨c0, c1, c2, c3, c4⟩ := B1.out.cells
  clear h hW
  unfold scV at *
  go_enter Tryz.func3, Tryz.ntmps3
  go_upto_region 1 with fail
  rw [HW.out]
  go_wp2_with fail
  refine HF.out.mono ?_
  rintro e w2 ⟨⟨r, rfl, hr⟩, hx2⟩
  have X2 := hide hx2
  clear hx2 HF
  rcases hr with rfl | ⟨rfl, hnp, hn5, hsz⟩
  · go_wp2_with fail
    refine (HAw.out _).out.mono ?_
    rintro e w3 ⟨rfl, hx⟩
    go_wp2
    go_ret
    exact ⟨rfl, X0.out.trans (X2.out.trans hx)⟩
  have HCl : Hid (∀ p ∈ s.preds, p.cls.length ≤ 1000000000000000000) := hide (fun p hp => (H.out.row.all p hp).cls)
  have HO1 := hide (fun w' (e : Ext w w') => hide (f_of s w' (H.out.ext e) (by omega) (by omega) HCl.out))
  have HO2 := hide (fun w' (e : Ext w w') => hide (r_of31 s w' (H.out.ext e) (by omega) (by omega) HCl.out))
  have HS := hide (fun w' (e : Ext W w') => (B1.out.ext e).cells)
  clear c0 c1 c2 c3 c4
  unfold scV poV at HO1 HO2
  obtain ⟨s0, s1, s2, s3, s4⟩ := HS.out w2 X2.out
  go_wp2
  have hw0 := X0.out.size
  have hw2 := X2.out.size
  go_cut [3, 4] (fun s3 s4 wx => ∃ (b3 b4 : Nat) (p q : Po), s3 = .pointer (some ⟨b3, 0, none⟩) ∧ s4 = .pointer (some ⟨b4, 0, none⟩) ∧ Hid (RelOf W wx b3 b4 p q) ∧ Hid ((p.vars = ofVs s ∧ p.ty.pure = ofTyP s) ∧ (q.vars = ofVs s ∧ q.ty.pure = ofTyP s)))
  case first =>
    go_region_held3 (fun w' => w'.cell? ⟨w.heap.size, 0, none⟩ = some (.int .i64 s.n) ∧ w'.cell? ⟨w.heap.size, 1, none⟩ = some (.slice s.A s.preds.length s.cap) ∧ w'.cell? ⟨w.heap.size, 2, none⟩ = some (encStr s.ty.con) ∧ w'.cell? ⟨w.heap.size, 3, none⟩ = some (.int .i64 s.ty.var) ∧ w'.cell? ⟨w.heap.size, 4, none⟩ = some (.slice s.ty.A s.ty.args.length s.ty.cap))
     (exact HS.out _ (by repeat (first | with_reducible exact Y2.out | with_reducible exact Y1.out | with_reducible exact X2.out | with_reducible refine Ext.setCell ?_ (by first | omega | (dsimp only; omega)) _ | with_reducible refine Ext.alloc ?_ _ | with_reducible refine Ext.drew ?_)))
     (first
    | (go_at_call 10
       with_reducible refine Calls.mono (HO1.out _ ?e).out ?_
       case e => refine X0.out.trans ?_; (refine Ext.trans X2.out ?_; (repeat (first | exact Ext.refl _ | exact Ext.pre (by simp) | exact Ext.alloc (by assumption) _ | refine Ext.alloc ?_ _ | refine Ext.more ?_ _ _ | refine Ext.drew ?_ | refine Ext.drewN ?_ _)); done)
       rintro e y1 ⟨⟨p, rfl, hp⟩, hx1⟩
       have Y1 : Hid (Ext W y1) := hide (by refine Ext.trans ?_ hx1; (refine Ext.trans X2.out ?_; (repeat (first | exact Ext.refl _ | exact Ext.pre (by simp) | exact Ext.alloc (by assumption) _ | refine Ext.alloc ?_ _ | refine Ext.more ?_ _ _ | refine Ext.drew ?_ | refine Ext.drewN ?_ _)); done))
       have V1 := hx1.size
       have AP := of_away hp H.out
       try rw [sz_drew] at V1 AP
       try rw [World.size_alloc] at V1 AP
       try rw [World.size_alloc] at V1 AP
       have HAP := hide AP
       have HP := hide (And.intro hp.vars hp.ty)
       have HPo := hide hp.po
       try (have zh := zb hx1 (B := w2.heap.size) (by first | assumption | with_reducible exact ha_hit (by first | omega | exact (World.size_alloc _ _).symm | (rw [World.size_alloc]; omega) | (rw [World.size_alloc, World.size_alloc]; omega)) | with_reducible exact ha_miss (by first | omega | exact (World.size_alloc _ _).symm | (rw [World.size_alloc]; omega) | (rw [World.size_alloc, World.size_alloc]; omega)) (by assumption) | with_reducible exact ha_miss (by first | omega | exact (World.size_alloc _ _).symm | (rw [World.size_alloc]; omega) | (rw [World.size_alloc, World.size_alloc]; omega)) (ha_hit (by first | omega | exact (World.size_alloc _ _).symm | (rw [World.size_alloc]; omega) | (rw [World.size_alloc, World.size_alloc]; omega))) | with_reducible exact ha_miss (by first | omega | exact (World.size_alloc _ _).symm | (rw [World.size_alloc]; omega) | (rw [World.size_alloc, World.size_alloc]; omega)) (ha_miss (by first | omega | exact (World.size_alloc _ _).symm | (rw [World.size_alloc]; omega) | (rw [World.size_alloc, World.size_alloc]; omega)) (by assumption)) | with_reducible exact (hd_drew _ _).trans (by assumption) | with_reducible exact (hd_drew _ _).trans (ha_hit (by first | omega | exact (World.size_alloc _ _).symm | (rw [World.size_alloc]; omega) | (rw [World.size_alloc, World.size_alloc]; omega))) | with_reducible exact (hd_drew _ _).trans (ha_miss (by first | omega | exact (World.size_alloc _ _).symm | (rw [World.size_alloc]; omega) | (rw [World.size_alloc, World.size_alloc]; omega)) (by assumption)) | with_reducible exact (hd_drew _ _).trans (ha_miss (by first | omega | exact (World.size_alloc _ _).symm | (rw [World.size_alloc]; omega) | (rw [World.size_alloc, World.size_alloc]; omega)) (ha_hit (by first | omega | exact (World.size_alloc _ _).symm | (rw [World.size_alloc]; omega) | (rw [World.size_alloc, World.size_alloc]; omega)))) | with_reducible exact (hd_drew _ _).trans (ha_miss (by first | omega | exact (World.size_alloc _ _).symm | (rw [World.size_alloc]; omega) | (rw [World.size_alloc, World.size_alloc]; omega)) (ha_miss (by first | omega | exact (World.size_alloc _ _).symm | (rw [World.size_alloc]; omega) | (rw [World.size_alloc, World.size_alloc]; omega)) (by assumption)))); obtain ⟨zc0, zc1, zc2, zc3, zf0, zf1, zf2, zf3, zlt⟩ := zb_all zh)
       try (have zh := zb hx1 (B := w2.heap.size + 1) (by first | assumption | with_reducible exact ha_hit (by first | omega | exact (World.size_alloc _ _).symm | (rw [World.size_alloc]; omega) | (rw [World.size_alloc, World.size_alloc]; omega)) | with_reducible exact ha_miss (by first | omega | exact (World.size_alloc _ _).symm | (rw [World.size_alloc]; omega) | (rw [World.size_alloc, World.size_alloc]; omega)) (by assumption) | with_reducible exact ha_miss (by first | omega | exact (World.size_alloc _ _).symm | (rw [World.size_alloc]; omega) | (rw [World.size_alloc, World.size_alloc]; omega)) (ha_hit (by first | omega | exact (World.size_alloc _ _).symm | (rw [World.size_alloc]; omega) | (rw [World.size_alloc, World.size_alloc]; omega))) | with_reducible exact ha_miss (by first | omega | exact (World.size_alloc _ _).symm | (rw [World.size_alloc]; omega) | (rw [World.size_alloc, World.size_alloc]; omega)) (ha_miss (by first | omega | exact (World.size_alloc _ _).symm | (rw [World.size_alloc]; omega) | (rw [World.size_alloc, World.size_alloc]; omega)) (by assumption)) | with_reducible exact (hd_drew _ _).trans (by assumption) | with_reducible exact (hd_drew _ _).trans (ha_hit (by first | omega | exact (World.size_alloc _ _).symm | (rw [World.size_alloc]; omega) | (rw [World.size_alloc, World.size_alloc]; omega))) | with_reducible exact (hd_drew _ _).trans (ha_miss (by first | omega | exact (World.size_alloc _ _).symm | (rw [World.size_alloc]; omega) | (rw [World.size_alloc, World.size_alloc]; omega)) (by assumption)) | with_reducible exact (hd_drew _ _).trans (ha_miss (by first | omega | exact (World.size_alloc _ _).symm | (rw [World.size_alloc]; omega) | (rw [World.size_alloc, World.size_alloc]; omega)) (ha_hit (by first | omega | exact (World.size_alloc _ _).symm | (rw [World.size_alloc]; omega) | (rw [World.size_alloc, World.size_alloc]; omega)))) | with_reducible exact (hd_drew _ _).trans (ha_miss (by first | omega | exact (World.size_alloc _ _).symm | (rw [World.size_alloc]; omega) | (rw [World.size_alloc, World.size_alloc]; omega)) (ha_miss (by first | omega | exact (World.size_alloc _ _).symm | (rw [World.size_alloc]; omega) | (rw [World.size_alloc, World.size_alloc]; omega)) (by assumption)))); obtain ⟨zc0, zc1, zc2, zc3, zf0, zf1, zf2, zf3, zlt⟩ := zb_all zh)
       try (have d1 : w2.heap.size ≠ y1.heap.size := by omega)
       try (have d2 : y1.heap.size ≠ w2.heap.size := by omega)
       clear hp AP hx1)
    | (go_at_call 11
       with_reducible refine Calls.mono (HO2.out _ ?e).out ?_
       case e => refine X0.out.trans ?_; (refine Ext.trans Y1.out ?_; (repeat (first | exact Ext.refl _ | exact Ext.pre (by simp) | exact Ext.alloc (by assumption) _ | refine Ext.alloc ?_ _ | refine Ext.more ?_ _ _ | refine Ext.drew ?_ | refine Ext.drewN ?_ _)); done)
       rintro e y2 ⟨⟨q, rfl, hq⟩, hx2⟩
       have Y2 : Hid (Ext W y2) := hide (by refine Ext.trans ?_ hx2; (refine Ext.trans Y1.out ?_; (repeat (first | exact Ext.refl _ | exact Ext.pre (by simp) | exact Ext.alloc (by assumption) _ | refine Ext.alloc ?_ _ | refine Ext.more ?_ _ _ | refine Ext.drew ?_ | refine Ext.drewN ?_ _)); done))
       have Y12 : Hid (Ext y1 y2) := hide (by refine Ext.trans ?_ hx2; exact (by repeat (first | exact Ext.refl _ | exact Ext.pre (by simp) | exact Ext.alloc (by assumption) _ | refine Ext.alloc ?_ _ |  refine Ext.more ?_ _ _ | refine Ext.drew ?_ | refine Ext.drewN ?_ _)))
       have V2 := hx2.size
       have AQ := of_away hq H.out
       try rw [sz_drew] at V2 AQ
       try rw [World.size_alloc] at V2 AQ
       try rw [World.size_alloc] at V2 AQ
       have HAQ := hide AQ
       have HQ := hide (And.intro hq.vars hq.ty)
       have HPo2 := hide (HPo.out.ext Y12.out)
       have HQo2 := hide hq.po
       try (have zh := zb hx2 (B := w2.heap.size) (by first | assumption | with_reducible exact ha_hit (by first | omega | exact (World.size_alloc _ _).symm | (rw [World.size_alloc]; omega) | (rw [World.size_alloc, World.size_alloc]; omega)) | with_reducible exact ha_miss (by first | omega | exact (World.size_alloc _ _).symm | (rw [World.size_alloc]; omega) | (rw [World.size_alloc, World.size_alloc]; omega)) (by assumption) | with_reducible exact ha_miss (by first | omega | exact (World.size_alloc _ _).symm | (rw [World.size_alloc]; omega) | (rw [World.size_alloc, World.size_alloc]; omega)) (ha_hit (by first | omega | exact (World.size_alloc _ _).symm | (rw [World.size_alloc]; omega) | (rw [World.size_alloc, World.size_alloc]; omega))) | with_reducible exact ha_miss (by first | omega | exact (World.size_alloc _ _).symm | (rw [World.size_alloc]; omega) | (rw [World.size_alloc, World.size_alloc]; omega)) (ha_miss (by first | omega | exact (World.size_alloc _ _).symm | (rw [World.size_alloc]; omega) | (rw [World.size_alloc, World.size_alloc]; omega)) (by assumption)) | with_reducible exact (hd_drew _ _).trans (by assumption) | with_reducible exact (hd_drew _ _).trans (ha_hit (by first | omega | exact (World.size_alloc _ _).symm | (rw [World.size_alloc]; omega) | (rw [World.size_alloc, World.size_alloc]; omega))) | with_reducible exact (hd_drew _ _).trans (ha_miss (by first | omega | exact (World.size_alloc _ _).symm | (rw [World.size_alloc]; omega) | (rw [World.size_alloc, World.size_alloc]; omega)) (by assumption)) | with_reducible exact (hd_drew _ _).trans (ha_miss (by first | omega | exact (World.size_alloc _ _).symm | (rw [World.size_alloc]; omega) | (rw [World.size_alloc, World.size_alloc]; omega)) (ha_hit (by first | omega | exact (World.size_alloc _ _).symm | (rw [World.size_alloc]; omega) | (rw [World.size_alloc, World.size_alloc]; omega)))) | with_reducible exact (hd_drew _ _).trans (ha_miss (by first | omega | exact (World.size_alloc _ _).symm | (rw [World.size_alloc]; omega) | (rw [World.size_alloc, World.size_alloc]; omega)) (ha_miss (by first | omega | exact (World.size_alloc _ _).symm | (rw [World.size_alloc]; omega) | (rw [World.size_alloc, World.size_alloc]; omega)) (by assumption)))); obtain ⟨zc0, zc1, zc2, zc3, zf0, zf1, zf2, zf3, zlt⟩ := zb_all zh)
       try (have zh := zb hx2 (B := w2.heap.size + 1) (by first | assumption | with_reducible exact ha_hit (by first | omega | exact (World.size_alloc _ _).symm | (rw [World.size_alloc]; omega) | (rw [World.size_alloc, World.size_alloc]; omega)) | with_reducible exact ha_miss (by first | omega | exact (World.size_alloc _ _).symm | (rw [World.size_alloc]; omega) | (rw [World.size_alloc, World.size_alloc]; omega)) (by assumption) | with_reducible exact ha_miss (by first | omega | exact (World.size_alloc _ _).symm | (rw [World.size_alloc]; omega) | (rw [World.size_alloc, World.size_alloc]; omega)) (ha_hit (by first | omega | exact (World.size_alloc _ _).symm | (rw [World.size_alloc]; omega) | (rw [World.size_alloc, World.size_alloc]; omega))) | with_reducible exact ha_miss (by first | omega | exact (World.size_alloc _ _).symm | (rw [World.size_alloc]; omega) | (rw [World.size_alloc, World.size_alloc]; omega)) (ha_miss (by first | omega | exact (World.size_alloc _ _).symm | (rw [World.size_alloc]; omega) | (rw [World.size_alloc, World.size_alloc]; omega)) (by assumption)) | with_reducible exact (hd_drew _ _).trans (by assumption) | with_reducible exact (hd_drew _ _).trans (ha_hit (by first | omega | exact (World.size_alloc _ _).symm | (rw [World.size_alloc]; omega) | (rw [World.size_alloc, World.size_alloc]; omega))) | with_reducible exact (hd_drew _ _).trans (ha_miss (by first | omega | exact (World.size_alloc _ _).symm | (rw [World.size_alloc]; omega) | (rw [World.size_alloc, World.size_alloc]; omega)) (by assumption)) | with_reducible exact (hd_drew _ _).trans (ha_miss (by first | omega | exact (World.size_alloc _ _).symm | (rw [World.size_alloc]; omega) | (rw [World.size_alloc, World.size_alloc]; omega)) (ha_hit (by first | omega | exact (World.size_alloc _ _).symm | (rw [World.size_alloc]; omega) | (rw [World.size_alloc, World.size_alloc]; omega)))) | with_reducible exact (hd_drew _ _).trans (ha_miss (by first | omega | exact (World.size_alloc _ _).symm | (rw [World.size_alloc]; omega) | (rw [World.size_alloc, World.size_alloc]; omega)) (ha_miss (by first | omega | exact (World.size_alloc _ _).symm | (rw [World.size_alloc]; omega) | (rw [World.size_alloc, World.size_alloc]; omega)) (by assumption)))); obtain ⟨zc0, zc1, zc2, zc3, zf0, zf1, zf2, zf3, zlt⟩ := zb_all zh)
       try (have zh := zb hx2 (B := y1.heap.size) (by first | assumption | with_reducible exact ha_hit (by first | omega | exact (World.size_alloc _ _).symm | (rw [World.size_alloc]; omega) | (rw [World.size_alloc, World.size_alloc]; omega)) | with_reducible exact ha_miss (by first | omega | exact (World.size_alloc _ _).symm | (rw [World.size_alloc]; omega) | (rw [World.size_alloc, World.size_alloc]; omega)) (by assumption) | with_reducible exact ha_miss (by first | omega | exact (World.size_alloc _ _).symm | (rw [World.size_alloc]; omega) | (rw [World.size_alloc, World.size_alloc]; omega)) (ha_hit (by first | omega | exact (World.size_alloc _ _).symm | (rw [World.size_alloc]; omega) | (rw [World.size_alloc, World.size_alloc]; omega))) | with_reducible exact ha_miss (by first | omega | exact (World.size_alloc _ _).symm | (rw [World.size_alloc]; omega) | (rw [World.size_alloc, World.size_alloc]; omega)) (ha_miss (by first | omega | exact (World.size_alloc _ _).symm | (rw [World.size_alloc]; omega) | (rw [World.size_alloc, World.size_alloc]; omega)) (by assumption)) | with_reducible exact (hd_drew _ _).trans (by assumption) | with_reducible exact (hd_drew _ _).trans (ha_hit (by first | omega | exact (World.size_alloc _ _).symm | (rw [World.size_alloc]; omega) | (rw [World.size_alloc, World.size_alloc]; omega))) | with_reducible exact (hd_drew _ _).trans (ha_miss (by first | omega | exact (World.size_alloc _ _).symm | (rw [World.size_alloc]; omega) | (rw [World.size_alloc, World.size_alloc]; omega)) (by assumption)) | with_reducible exact (hd_drew _ _).trans (ha_miss (by first | omega | exact (World.size_alloc _ _).symm | (rw [World.size_alloc]; omega) | (rw [World.size_alloc, World.size_alloc]; omega)) (ha_hit (by first | omega | exact (World.size_alloc _ _).symm | (rw [World.size_alloc]; omega) | (rw [World.size_alloc, World.size_alloc]; omega)))) | with_reducible exact (hd_drew _ _).trans (ha_miss (by first | omega | exact (World.size_alloc _ _).symm | (rw [World.size_alloc]; omega) | (rw [World.size_alloc, World.size_alloc]; omega)) (ha_miss (by first | omega | exact (World.size_alloc _ _).symm | (rw [World.size_alloc]; omega) | (rw [World.size_alloc, World.size_alloc]; omega)) (by assumption)))); obtain ⟨zc0, zc1, zc2, zc3, zf0, zf1, zf2, zf3, zlt⟩ := zb_all zh)
       try (have zh := zb hx2 (B := y1.heap.size + 1) (by first | assumption | with_reducible exact ha_hit (by first | omega | exact (World.size_alloc _ _).symm | (rw [World.size_alloc]; omega) | (rw [World.size_alloc, World.size_alloc]; omega)) | with_reducible exact ha_miss (by first | omega | exact (World.size_alloc _ _).symm | (rw [World.size_alloc]; omega) | (rw [World.size_alloc, World.size_alloc]; omega)) (by assumption) | with_reducible exact ha_miss (by first | omega | exact (World.size_alloc _ _).symm | (rw [World.size_alloc]; omega) | (rw [World.size_alloc, World.size_alloc]; omega)) (ha_hit (by first | omega | exact (World.size_alloc _ _).symm | (rw [World.size_alloc]; omega) | (rw [World.size_alloc, World.size_alloc]; omega))) | with_reducible exact ha_miss (by first | omega | exact (World.size_alloc _ _).symm | (rw [World.size_alloc]; omega) | (rw [World.size_alloc, World.size_alloc]; omega)) (ha_miss (by first | omega | exact (World.size_alloc _ _).symm | (rw [World.size_alloc]; omega) | (rw [World.size_alloc, World.size_alloc]; omega)) (by assumption)) | with_reducible exact (hd_drew _ _).trans (by assumption) | with_reducible exact (hd_drew _ _).trans (ha_hit (by first | omega | exact (World.size_alloc _ _).symm | (rw [World.size_alloc]; omega) | (rw [World.size_alloc, World.size_alloc]; omega))) | with_reducible exact (hd_drew _ _).trans (ha_miss (by first | omega | exact (World.size_alloc _ _).symm | (rw [World.size_alloc]; omega) | (rw [World.size_alloc, World.size_alloc]; omega)) (by assumption)) | with_reducible exact (hd_drew _ _).trans (ha_miss (by first | omega | exact (World.size_alloc _ _).symm | (rw [World.size_alloc]; omega) | (rw [World.size_alloc, World.size_alloc]; omega)) (ha_hit (by first | omega | exact (World.size_alloc _ _).symm | (rw [World.size_alloc]; omega) | (rw [World.size_alloc, World.size_alloc]; omega)))) | with_reducible exact (hd_drew _ _).trans (ha_miss (by first | omega | exact (World.size_alloc _ _).symm | (rw [World.size_alloc]; omega) | (rw [World.size_alloc, World.size_alloc]; omega)) (ha_miss (by first | omega | exact (World.size_alloc _ _).symm | (rw [World.size_alloc]; omega) | (rw [World.size_alloc, World.size_alloc]; omega)) (by assumption)))); obtain ⟨zc0, zc1, zc2, zc3, zf0, zf1, zf2, zf3, zlt⟩ := zb_all zh)
       try (have d3 : w2.heap.size ≠ y2.heap.size := by omega)
       try (have d4 : y2.heap.size ≠ w2.heap.size := by omega)
       try (have d5 : y1.heap.size ≠ y2.heap.size := by omega)
       try (have d6 : y2.heap.size ≠ y1.heap.size := by omega)
       clear hq AQ hx2))
    all_goals (go_wp2_with fail; go_meet)
    all_goals (first
      | (with_reducible refine ⟨y2.heap.size, y2.heap.size + 1, p, q, rfl, rfl, ?_, hide ⟨HP.out, HQ.out⟩⟩; exact hide (endD Y2.out HPo2.out HQo2.out))
      | (with_reducible refine ⟨y2.heap.size + 1, y2.heap.size, p, q, rfl, rfl, ?_, hide ⟨HP.out, HQ.out⟩⟩; exact hide (endE Y2.out HPo2.out HQo2.out))
      | (with_reducible refine ⟨w2.heap.size, w2.heap.size + 1, p, q, rfl, rfl, ?_, hide ⟨HP.out, HQ.out⟩⟩; 
         have z3 : y2.heap[w2.heap.size]? = some (.cells #[.slice none 0 0, .string ⟨#[]⟩, .int .i64 0, .slice none 0 0] 32 (0, 0)) := by with_reducible assumption
         have z4 : y2.heap[w2.heap.size + 1]? = some (.cells #[.slice none 0 0, .string ⟨#[]⟩, .int .i64 0, .slice none 0 0] 32 (0, 0)) := by with_reducible assumption
         have pa := HAP.out (w2.heap.size) (by omega) (by omega)
         have pb := HAP.out (w2.heap.size + 1) (by omega) (by omega)
         have qa := HAQ.out (w2.heap.size) (by omega) (by omega)
         have qb := HAQ.out (w2.heap.size + 1) (by omega) (by omega)
         have g1 : w2.heap.size ≠ w2.heap.size + 1 := by omega
         have g2 : W.heap.size ≤ w2.heap.size := by omega
         have g3 : W.heap.size ≤ w2.heap.size + 1 := by omega
         exact hide (endA Y2.out z3 z4 g1 g2 g3 HPo2.out HQo2.out pa pb qa qb))
      | (with_reducible refine ⟨w2.heap.size + 1, w2.heap.size, p, q, rfl, rfl, ?_, hide ⟨HP.out, HQ.out⟩⟩; 
         have z3 : y2.heap[w2.heap.size + 1]? = some (.cells #[.slice none 0 0, .string ⟨#[]⟩, .int .i64 0, .slice none 0 0] 32 (0, 0)) := by with_reducible assumption
         have z4 : y2.heap[w2.heap.size]? = some (.cells #[.slice none 0 0, .string ⟨#[]⟩, .int .i64 0, .slice none 0 0] 32 (0, 0)) := by with_reducible assumption
         have pa := HAP.out (w2.heap.size + 1) (by omega) (by omega)
         have pb := HAP.out (w2.heap.size) (by omega) (by omega)
         have qa := HAQ.out (w2.heap.size + 1) (by omega) (by omega)
         have qb := HAQ.out (w2.heap.size) (by omega) (by omega)
         have g1 : w2.heap.size + 1 ≠ w2.heap.size := by omega
         have g2 : W.heap.size ≤ w2.heap.size + 1 := by omega
         have g3 : W.heap.size ≤ w2.heap.size := by omega
         exact hide (endA Y2.out z3 z4 g1 g2 g3 HPo2.out HQo2.out pa pb qa qb))
      | (with_reducible refine ⟨w2.heap.size, y1.heap.size, p, q, rfl, rfl, ?_, hide ⟨HP.out, HQ.out⟩⟩; 
         have z3 : y2.heap[w2.heap.size]? = some (.cells #[.slice none 0 0, .string ⟨#[]⟩, .int .i64 0, .slice none 0 0] 32 (0, 0)) := by with_reducible assumption
         have z4 : y2.heap[y1.heap.size]? = some (.cells #[.slice none 0 0, .string ⟨#[]⟩, .int .i64 0, .slice none 0 0] 32 (0, 0)) := by with_reducible assumption
         have pa := HAP.out (w2.heap.size) (by omega) (by omega)
         have pb := HAP.out (y1.heap.size) (by omega) (by omega)
         have qa := HAQ.out (w2.heap.size) (by omega) (by omega)
         have qb := HAQ.out (y1.heap.size) (by omega) (by omega)
         have g1 : w2.heap.size ≠ y1.heap.size := by omega
         have g2 : W.heap.size ≤ w2.heap.size := by omega
         have g3 : W.heap.size ≤ y1.heap.size := by omega
         exact hide (endA Y2.out z3 z4 g1 g2 g3 HPo2.out HQo2.out pa pb qa qb))
      | (with_reducible refine ⟨y1.heap.size, w2.heap.size, p, q, rfl, rfl, ?_, hide ⟨HP.out, HQ.out⟩⟩; 
         have z3 : y2.heap[y1.heap.size]? = some (.cells #[.slice none 0 0, .string ⟨#[]⟩, .int .i64 0, .slice none 0 0] 32 (0, 0)) := by with_reducible assumption
         have z4 : y2.heap[w2.heap.size]? = some (.cells #[.slice none 0 0, .string ⟨#[]⟩, .int .i64 0, .slice none 0 0] 32 (0, 0)) := by with_reducible assumption
         have pa := HAP.out (y1.heap.size) (by omega) (by omega)
         have pb := HAP.out (w2.heap.size) (by omega) (by omega)
         have qa := HAQ.out (y1.heap.size) (by omega) (by omega)
         have qb := HAQ.out (w2.heap.size) (by omega) (by omega)
         have g1 : y1.heap.size ≠ w2.heap.size := by omega
         have g2 : W.heap.size ≤ y1.heap.size := by omega
         have g3 : W.heap.size ≤ w2.heap.size := by omega
         exact hide (endA Y2.out z3 z4 g1 g2 g3 HPo2.out HQo2.out pa pb qa qb))
      | (with_reducible refine ⟨y1.heap.size, y1.heap.size + 1, p, q, rfl, rfl, ?_, hide ⟨HP.out, HQ.out⟩⟩; 
         have z3 : y2.heap[y1.heap.size]? = some (.cells #[.slice none 0 0, .string ⟨#[]⟩, .int .i64 0, .slice none 0 0] 32 (0, 0)) := by with_reducible assumption
         have z4 : y2.heap[y1.heap.size + 1]? = some (.cells #[.slice none 0 0, .string ⟨#[]⟩, .int .i64 0, .slice none 0 0] 32 (0, 0)) := by with_reducible assumption
         have pa := HAP.out (y1.heap.size) (by omega) (by omega)
         have pb := HAP.out (y1.heap.size + 1) (by omega) (by omega)
         have qa := HAQ.out (y1.heap.size) (by omega) (by omega)
         have qb := HAQ.out (y1.heap.size + 1) (by omega) (by omega)
         have g1 : y1.heap.size ≠ y1.heap.size + 1 := by omega
         have g2 : W.heap.size ≤ y1.heap.size := by omega
         have g3 : W.heap.size ≤ y1.heap.size + 1 := by omega
         exact hide (endA Y2.out z3 z4 g1 g2 g3 HPo2.out HQo2.out pa pb qa qb))
      | (with_reducible refine ⟨y1.heap.size + 1, y1.heap.size, p, q, rfl, rfl, ?_, hide ⟨HP.out, HQ.out⟩⟩; 
         have z3 : y2.heap[y1.heap.size + 1]? = some (.cells #[.slice none 0 0, .string ⟨#[]⟩, .int .i64 0, .slice none 0 0] 32 (0, 0)) := by with_reducible assumption
         have z4 : y2.heap[y1.heap.size]? = some (.cells #[.slice none 0 0, .string ⟨#[]⟩, .int .i64 0, .slice none 0 0] 32 (0, 0)) := by with_reducible assumption
         have pa := HAP.out (y1.heap.size + 1) (by omega) (by omega)
         have pb := HAP.out (y1.heap.size) (by omega) (by omega)
         have qa := HAQ.out (y1.heap.size + 1) (by omega) (by omega)
         have qb := HAQ.out (y1.heap.size) (by omega) (by omega)
         have g1 : y1.heap.size + 1 ≠ y1.heap.size := by omega
         have g2 : W.heap.size ≤ y1.heap.size + 1 := by omega
         have g3 : W.heap.size ≤ y1.heap.size := by omega
         exact hide (endA Y2.out z3 z4 g1 g2 g3 HPo2.out HQo2.out pa pb qa qb))
      | (with_reducible refine ⟨w2.heap.size, y2.heap.size, p, q, rfl, rfl, ?_, hide ⟨HP.out, HQ.out⟩⟩; 
         have z3 : y2.heap[w2.heap.size]? = some (.cells #[.slice none 0 0, .string ⟨#[]⟩, .int .i64 0, .slice none 0 0] 32 (0, 0)) := by with_reducible assumption
         have pa := HAP.out (w2.heap.size) (by omega) (by omega)
         have qa := HAQ.out (w2.heap.size) (by omega) (by omega)
         have g2 : W.heap.size ≤ w2.heap.size := by omega
         exact hide (endB Y2.out z3 g2 HPo2.out HQo2.out pa qa))
      | (with_reducible refine ⟨y2.heap.size, w2.heap.size, p, q, rfl, rfl, ?_, hide ⟨HP.out, HQ.out⟩⟩; 
         have z3 : y2.heap[w2.heap.size]? = some (.cells #[.slice none 0 0, .string ⟨#[]⟩, .int .i64 0, .slice none 0 0] 32 (0, 0)) := by with_reducible assumption
         have pa := HAP.out (w2.heap.size) (by omega) (by omega)
         have qa := HAQ.out (w2.heap.size) (by omega) (by omega)
         have g2 : W.heap.size ≤ w2.heap.size := by omega
         exact hide (endC Y2.out z3 g2 HPo2.out HQo2.out pa qa))
      | (with_reducible refine ⟨w2.heap.size + 1, y2.heap.size, p, q, rfl, rfl, ?_, hide ⟨HP.out, HQ.out⟩⟩; 
         have z3 : y2.heap[w2.heap.size + 1]? = some (.cells #[.slice none 0 0, .string ⟨#[]⟩, .int .i64 0, .slice none 0 0] 32 (0, 0)) := by with_reducible assumption
         have pa := HAP.out (w2.heap.size + 1) (by omega) (by omega)
         have qa := HAQ.out (w2.heap.size + 1) (by omega) (by omega)
         have g2 : W.heap.size ≤ w2.heap.size + 1 := by omega
         exact hide (endB Y2.out z3 g2 HPo2.out HQo2.out pa qa))
      | (with_reducible refine ⟨y2.heap.size, w2.heap.size + 1, p, q, rfl, rfl, ?_, hide ⟨HP.out, HQ.out⟩⟩; 
         have z3 : y2.heap[w2.heap.size + 1]? = some (.cells #[.slice none 0 0, .string ⟨#[]⟩, .int .i64 0, .slice none 0 0] 32 (0, 0)) := by with_reducible assumption
         have pa := HAP.out (w2.heap.size + 1) (by omega) (by omega)
         have qa := HAQ.out (w2.heap.size + 1) (by omega) (by omega)
         have g2 : W.heap.size ≤ w2.heap.size + 1 := by omega
         exact hide (endC Y2.out z3 g2 HPo2.out HQo2.out pa qa))
      | (with_reducible refine ⟨y1.heap.size, y2.heap.size, p, q, rfl, rfl, ?_, hide ⟨HP.out, HQ.out⟩⟩; 
         have z3 : y2.heap[y1.heap.size]? = some (.cells #[.slice none 0 0, .string ⟨#[]⟩, .int .i64 0, .slice none 0 0] 32 (0, 0)) := by with_reducible assumption
         have pa := HAP.out (y1.heap.size) (by omega) (by omega)
         have qa := HAQ.out (y1.heap.size) (by omega) (by omega)
         have g2 : W.heap.size ≤ y1.heap.size := by omega
         exact hide (endB Y2.out z3 g2 HPo2.out HQo2.out pa qa))
      | (with_reducible refine ⟨y2.heap.size, y1.heap.size, p, q, rfl, rfl, ?_, hide ⟨HP.out, HQ.out⟩⟩; 
         have z3 : y2.heap[y1.heap.size]? = some (.cells #[.slice none 0 0, .string ⟨#[]⟩, .int .i64 0, .slice none 0 0] 32 (0, 0)) := by with_reducible assumption
         have pa := HAP.out (y1.heap.size) (by omega) (by omega)
         have qa := HAQ.out (y1.heap.size) (by omega) (by omega)
         have g2 : W.heap.size ≤ y1.heap.size := by omega
         exact hide (endC Y2.out z3 g2 HPo2.out HQo2.out pa qa))
      | (with_reducible refine ⟨y1.heap.size + 1, y2.heap.size, p, q, rfl, rfl, ?_, hide ⟨HP.out, HQ.out⟩⟩; 
         have z3 : y2.heap[y1.heap.size + 1]? = some (.cells #[.slice none 0 0, .string ⟨#[]⟩, .int .i64 0, .slice none 0 0] 32 (0, 0)) := by with_reducible assumption
         have pa := HAP.out (y1.heap.size + 1) (by omega) (by omega)
         have qa := HAQ.out (y1.heap.size + 1) (by omega) (by omega)
         have g2 : W.heap.size ≤ y1.heap.size + 1 := by omega
         exact hide (endB Y2.out z3 g2 HPo2.out HQo2.out pa qa))
      | (with_reducible refine ⟨y2.heap.size, y1.heap.size + 1, p, q, rfl, rfl, ?_, hide ⟨HP.out, HQ.out⟩⟩; 
         have z3 : y2.heap[y1.heap.size + 1]? = some (.cells #[.slice none 0 0, .string ⟨#[]⟩, .int .i64 0, .slice none 0 0] 32 (0, 0)) := by with_reducible assumption
         have pa := HAP.out (y1.heap.size + 1) (by omega) (by omega)
         have qa := HAQ.out (y1.heap.size + 1) (by omega) (by omega)
         have g2 : W.heap.size ≤ y1.heap.size + 1 := by omega
         exact hide (endC Y2.out z3 g2 HPo2.out HQo2.out pa qa)))
  case rest =>
    obtain ⟨b3, b4, ⟨vs, A, cp, t⟩, ⟨vs', B, cq, u⟩, rfl, rfl, HM, HP⟩ := hcut
    obtain ⟨⟨hv1, ht1⟩, hv2, ht2⟩ := HP.out
    obtain ⟨XC, hbp, hbq, hp, hq⟩ := HM.out
    simp only at hv1 ht1 hv2 ht2
    obtain rfl : vs' = vs := hv2.trans hv1.symm
    have XC := hide XC
    have HBp := hide hbp
    have HBq := hide hbq
    have hsz2 : t.size ≤ 30000 := by rw [ty_size ht1]; have := sz_of s; omega
    have hln : vs'.length ≤ 4096 := by rw [hv1]; exact ofVs_len s
    have halk := alike_self ⟨vs', A, cp, t⟩ (by show vs'.Nodup; rw [hv1]; exact ofVs_nodup s) (by show POk t.pure; rw [ht1]; exact pok_of s)
    have HAl := hide (fun w' (e : Ext wc w') => hide (f_alike ⟨vs', A, cp, t⟩ ⟨vs', A, cp, t⟩ w' (hp.ext e) (hp.ext e) (by show t.size ≤ 90000; omega) (by show t.size ≤ 90000; omega) (by show vs'.length ≤ 90000; omega) (by show vs'.length ≤ 90000; omega)))
    simp only [halk] at HAl
    have HS1 := hide (r_psame31 vs' A B cp cq t u wc hp hq (sameB_iff.2 (by rw [ht1, ht2])))
    simp only [poV] at HS1 HAl
    have hmx2 := hp.max
    have hle2 := hp.le
    simp only at hmx2 hle2
    clear hp hq hbp hbq HM HP hv1 hv2 ht1 ht2 halk s0 s1 s2 s3 s4
    obtain ⟨a0, a1, a2, a3⟩ := HBp.out.cells
    obtain ⟨d0, d1, d2, d3⟩ := HBq.out.cells
    simp only at a0 a1 a2 a3 d0 d1 d2 d3
    go_wp2_with fail
    refine HS1.out.mono ?_
    rintro e w5 ⟨rfl, hx5⟩
    have X5 := hide hx5
    clear hx5 a0 a1 a2 a3 d0 d1 d2 d3
    obtain ⟨a0, a1, a2, a3⟩ := (HBp.out.ext X5.out).cells
    simp only at a0 a1 a2 a3
    obtain ⟨s0, -, -, -, -⟩ := HS.out _ (XC.out.trans X5.out)
    cases hc : ((vs'.length : Int) != s.n)
    · have hge : ¬ s.n < 0 := by simp only [bne_eq_false_iff_eq] at hc; omega
      go_wp2_with fail
      refine (HAl.out _ X5.out).out.mono ?_
      rintro e w6 ⟨rfl, hx6⟩
      have X6 := hide (X5.out.trans hx6)
      clear hx6
      go_wp2_with fail
      refine (HAw.out _).out.mono ?_
      rintro e w7 ⟨rfl, hx⟩
      go_wp2
      go_ret
      exact ⟨rfl, X0.out.trans (XC.out.trans (X6.out.trans hx))⟩
    · go_wp2_with fail
      refine (HAw.out _).out.mono ?_
      rintro e w7 ⟨rfl, hx⟩
      go_wp2
      go_ret
      exact ⟨rfl, X0.out.trans (XC.out.trans (X5.out.trans hx))⟩

end Go.Proofs.YtifbkknijialgaaGreat
