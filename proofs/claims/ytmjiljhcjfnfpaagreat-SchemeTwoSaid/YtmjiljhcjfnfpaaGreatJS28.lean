/- Contracts on slices.Grow from nil, and slices.Concat of two, of texts. -/
import Derived.Test.YtmjiljhcjfnfpaaGreatJS27
import Derived.Lib.AppendZeros
import Derived.WalkSpells
import Derived.WalkLawsBesides
import Derived.RegionTactic
import Derived.Deep.DeepCutAuto
import Derived.BigQuiet
/- Contracts on slices.Grow from nil, and slices.Concat of two, of texts. -/
namespace Go.Proofs.YtmjiljhcjfnfpaaGreat
open Go.RowKit Go.Sort

theorem str_infoB : (Tryz.prog.info? 9).map (fun i => (i.zero, i.size, i.bytes)) = some (some (.string ⟨#[]⟩), 1, 16) := by kernel_rfl




end Go.Proofs.YtmjiljhcjfnfpaaGreat

/- Contracts: the text of a variable, wherever its args would lie; of one predicate of a variable. -/
namespace Go.Proofs.YtmjiljhcjfnfpaaGreat
open Go.RowKit

theorem varU_size (v : Int) (A : Option Addr) (cap : Nat) : (Ty.mk [] v A cap []).size = 1 := by rw [Ty.size_eq]; rfl
theorem varU_legal (v : Int) (A : Option Addr) (cap : Nat) : legalT (Ty.mk [] v A cap []) = true := by
  have h1 := varU_size v A cap
  have h2 : (Ty.mk [] v A cap []).depth = 1 := by rw [Ty.depth_eq]; rfl
  have h3 : shapeT (Ty.mk [] v A cap []) = true := by unfold shapeT; rw [allB_eq]; rfl
  unfold legalT
  rw [h1, h2, h3]
  rfl
set_option maxRecDepth 10000 in
set_option maxHeartbeats 2000000 in
/-- A variable's text. -/
theorem t_textU (v : Int) (A : Option Addr) (cap : Nat) (h0 : -9223372036854775808 ≤ v) (h1 : v ≤ 9223372036854775807) (w : World) : Calls Tryz.prog 45 #[.agg #[.string ⟨#[]⟩, .int .i64 v, .slice A 0 cap]] w fun e w' => e = .returned (encStr (varS v)) ∧ Ext w w' := by
  obtain ⟨W, hW⟩ : ∃ W, W = (w.alloc (.cells #[.string ⟨#[]⟩, .int .i64 v, .slice A 0 cap] 25)).alloc (.cells #[.pointer none, .slice none 0 0] 109) := ⟨_, rfl⟩
  have X0 : Hid (Ext w W) := hide (by rw [hW]; exact ((Ext.refl w).alloc _).alloc _)
  have hsz : W.heap.size = w.heap.size + 2 := by rw [hW]; simp
  have XB : Hid (W.heap[w.heap.size]? = some (.cells #[.string ⟨#[]⟩, .int .i64 v, .slice A 0 cap] 25 (0, 0))) := hide (by rw [hW]; exact ((Ext.refl _).alloc _).heap (by simp) |>.trans (at_newB _ _ _ rfl))
  have BB : Hid (W.heap[w.heap.size + 1]? = some (.cells #[.pointer none, .slice none 0 0] 109 (0, 0))) := hide (by rw [hW]; exact at_newB _ _ _ (by simp))
  have HO := hide (fun w' => t_of (Ty.mk [] v A cap []) w')
  have HN := hide (fun w' => t_name v 0 h0 h1 w')
  unfold headV tyV at HO
  simp only [Ty.con, Ty.var, Ty.A, Ty.cap, Ty.args, List.length_nil, encStr] at HO
  have HL := hide (varS_len h0 h1)
  have HE := hide (varS_ne v)
  generalize varS v = s at *
  have b0 : (w.alloc (.cells #[.string ⟨#[]⟩, .int .i64 v, .slice A 0 cap] 25)).cell? ⟨w.heap.size, 0, none⟩ = some (.string ⟨#[]⟩) := bytes_block (at_newB _ _ _ rfl) 0
  have c0 := bytes_block XB.out 0
  have c1 := bytes_block XB.out 1
  have c2 := bytes_block XB.out 2
  simp only [List.getElem?_toArray, List.getElem?_cons_zero, List.getElem?_cons_succ] at c0 c1 c2
  go_enter Tryz.func45, Tryz.ntmps45
  go_wp2_with fail
  rw [← hW]
  clear b0 hW
  refine (HO.out _).mono ?_
  rintro e w2 ⟨rfl, hx2⟩
  have X2 := hide hx2
  clear hx2
  go_wp2_with fail
  refine (HN.out _).mono ?_
  rintro e w3 ⟨rfl, hx3⟩
  have X3 := hide (X2.out.trans hx3)
  have IB : Lib.IsBuilder 109 5 (w.heap.size + 1) (w.heap.size + 1) [] w3 := .inl ⟨Nat.le_refl _, _, (X3.out.heap (by omega)).trans BB.out, World.ownsRow_nil _ _ _ _, fun e => by cases e⟩
  have hs3 := X3.out.size
  have HW := hide (b_write (w.heap.size + 1) (w.heap.size + 1) [] ⟨s.toArray⟩ w3 IB (by have := HL.out; rw [ba_size]; show 0 + s.length ≤ _; omega) (by omega))
  clear IB hx3
  go_wp2_with fail
  refine HW.out.mono ?_
  rintro e w4 ⟨rfl, hb4, hx4⟩
  rw [List.nil_append, Lib.strCells_eq] at hb4
  have XB4 : Hid (w4.heap[w.heap.size]? = some (.cells #[.string ⟨#[]⟩, .int .i64 v, .slice A 0 cap] 25 (0, 0))) := hide ((hx4.block _ (by omega)).trans ((X3.out.heap (by omega)).trans XB.out))
  have HS := hide (b_string (w.heap.size + 1) (w.heap.size + 1) s w4 (.inr hb4) HE.out)
  have X4 : Hid (Below w.heap.size w w4) := hide ((X0.out.trans X3.out).below.trans (hx4.mono (by omega)))
  clear hb4 hx4 c0 c1 c2
  have c2 := bytes_block XB4.out 2
  simp only [List.getElem?_toArray, List.getElem?_cons_zero, List.getElem?_cons_succ] at c2
  go_wp2
  go_loopw [34] (fun i wr => i = .int .i64 0 ∧ wr = w4) (fun _ _ => 0)
  case atStart => exact ⟨rfl, rfl⟩
  case round =>
    obtain ⟨rfl, rfl⟩ := hrel
    go_wp2_with fail
    refine HS.out.mono ?_
    rintro e w5 ⟨rfl, hx5⟩
    go_wp2
    go_ret
    exact ⟨rfl, Ext.of_below (X4.out.trans (hx5.mono (by omega))) (Nat.le_refl _)⟩

set_option maxRecDepth 10000 in
set_option maxHeartbeats 2000000 in
theorem t_TextU (v : Int) (A : Option Addr) (cap : Nat) (hcap : cap ≤ 9223372036854775807) (h0 : -9223372036854775808 ≤ v) (h1 : v ≤ 9223372036854775807) (w : World) : Calls Tryz.prog 18 #[.agg #[.string ⟨#[]⟩, .int .i64 v, .slice A 0 cap]] w fun e w' => e = .returned (encStr (varS v)) ∧ Ext w w' := by
  have X0 : Hid (Ext w (w.alloc (.cells #[.string ⟨#[]⟩, .int .i64 v, .slice A 0 cap] 25))) := hide ((Ext.refl w).alloc _)
  have HB : Hid (∀ w', Ext (w.alloc (.cells #[.string ⟨#[]⟩, .int .i64 v, .slice A 0 cap] 25)) w' → w'.cell? ⟨w.heap.size, 0, none⟩ = some (.string ⟨#[]⟩) ∧ w'.cell? ⟨w.heap.size, 1, none⟩ = some (.int .i64 v) ∧ w'.cell? ⟨w.heap.size, 2, none⟩ = some (.slice A 0 cap)) := hide (fun w' e => ⟨e.cell (bytes_block (at_newB _ _ _ rfl) 0), e.cell (bytes_block (at_newB _ _ _ rfl) 1), e.cell (bytes_block (at_newB _ _ _ rfl) 2)⟩)
  obtain ⟨c0, c1, c2⟩ := HB.out _ (Ext.refl _)
  have HL := hide (fun w' => t_legal (Ty.mk [] v A cap []) w' (TyIn.of (Nat.zero_le _) hcap (by decide) (RowOf.nil _ _ _) (by simp)) (by rw [varU_size v A cap]; omega))
  have HT := hide (fun w' => t_textU v A cap h0 h1 w')
  rw [varU_legal] at HL
  unfold tyV at HL
  simp only [Ty.con, Ty.var, Ty.A, Ty.cap, Ty.args, List.length_nil, encStr] at HL
  go_enter Tryz.func18, Tryz.ntmps18
  go_wp2_with fail
  refine (HL.out _).mono ?_
  rintro e w2 ⟨rfl, hx2⟩
  have X2 := hide hx2
  obtain ⟨d0, d1, d2⟩ := HB.out _ X2.out
  clear hx2 c0 c1 c2
  go_wp2_with fail
  refine (HT.out _).mono ?_
  rintro e w3 ⟨rfl, hx3⟩
  go_wp2
  go_ret
  exact ⟨rfl, X0.out.trans (X2.out.trans hx3)⟩

/-- The text of one predicate of a variable. -/
def oneS (c : Str) (v : Int) : Str := c ++ ([32] : Str) ++ varS v

set_option maxRecDepth 10000 in
set_option maxHeartbeats 2000000 in
theorem p_one (c : Str) (v : Int) (A : Option Addr) (cap : Nat) (w : World) (hc : c.length ≤ 1000000000000000000) (hcap : cap ≤ 9223372036854775807) (h0 : -9223372036854775808 ≤ v) (h1 : v ≤ 9223372036854775807) :
    Calls Tryz.prog 75 #[.agg #[encStr c, .string ⟨#[]⟩, .int .i64 v, .slice A 0 cap]] w fun e w' => e = .returned (encStr (oneS c v)) ∧ Ext w w' := by
  have X0 : Hid (Ext w (w.alloc (.cells #[encStr c, .string ⟨#[]⟩, .int .i64 v, .slice A 0 cap] 40))) := hide ((Ext.refl w).alloc _)
  have HB := hide (PdBox.new w ⟨c, Ty.mk [] v A cap []⟩)
  have hbl : w.heap.size < (w.alloc (.cells #[encStr c, .string ⟨#[]⟩, .int .i64 v, .slice A 0 cap] 40)).heap.size := by simp
  obtain ⟨c0, c1, c2, c3⟩ := HB.out.cells
  have HT := hide (fun w' => t_TextU v A cap hcap h0 h1 w')
  have HC := hide (fun w' (e : Ext (w.alloc (.cells #[encStr c, .string ⟨#[]⟩, .int .i64 v, .slice A 0 cap] 40)) w') => (HB.out.ext e).cells)
  simp only [Ty.con, Ty.var, Ty.A, Ty.cap, Ty.args, List.length_nil] at c0 c1 c2 c3 HC
  have HL := hide (varS_len h0 h1)
  have HS : Hid (oneS c v = c ++ ([32] : Str) ++ varS v) := hide rfl
  generalize oneS c v = R at *
  generalize varS v = s at *
  have hl := HL.out
  have hs1 : ¬ ((⟨c.toArray⟩ : ByteArray).size + (⟨[(32 : UInt8)].toArray⟩ : ByteArray).size > 9223372036854775807) := by rw [ba_size, ba_size]; simp; omega
  have e1 := ByteArray.mk_append_mk c [(32 : UInt8)]
  have hs2 : ¬ ((⟨(c ++ [32]).toArray⟩ : ByteArray).size + (⟨s.toArray⟩ : ByteArray).size > 9223372036854775807) := by rw [ba_size, ba_size]; simp; omega
  have e2 := ByteArray.mk_append_mk (c ++ [32]) s
  go_enter Tryz.func75, Tryz.ntmps75
  go_wp2_with fail
  refine (HT.out _).mono ?_
  rintro e w2 ⟨rfl, hx2⟩
  have X2 := hide hx2
  obtain ⟨d0, d1, d2, d3⟩ := HC.out _ hx2
  have hbl2 := Nat.lt_of_lt_of_le hbl hx2.size
  clear hx2 c0 c1 c2 c3
  go_wp2
  go_ret
  exact ⟨by rw [HS.out, List.append_assoc]; rfl, X0.out.trans X2.out⟩

theorem s_joinC (g o cap : Nat) (s sep : Str) (w : World) (h : w.cell? ⟨g, o, none⟩ = some (encStr s)) : Calls Tryz.prog 76 #[.slice (some ⟨g, o, none⟩) 1 cap, encStr sep] w fun e w' => e = .returned (encStr s) ∧ w' = w := by
  go_enter Tryz.func76, Tryz.ntmps76
  go_wp2
  go_ret
  exact ⟨rfl, rfl⟩

set_option maxRecDepth 10000 in
set_option maxHeartbeats 4000000 in
theorem p_text1 (c : Str) (v : Int) (A : Option Addr) (cap : Nat) (B : Option Addr) (bc : Nat) (w : World) (hp : pdB ⟨c, .mk [] v A cap []⟩ = true) (h : PdsIn w B [⟨c, .mk [] v A cap []⟩]) (h0 : -9223372036854775808 ≤ v) (h1 : v ≤ 9223372036854775807) :
    Calls Tryz.prog 46 #[.slice B 1 bc] w fun e w' => e = .returned (encStr (oneS c v)) ∧ Ext w w' := by
  obtain ⟨i1, hj, hy0, hy1, hy2⟩ := info_parts str_infoB
  obtain ⟨b, o, e0, hb, q0, q1, q2, q3⟩ := h.at_ (i := 0) (by simp)
  subst e0
  have hpd := h.all ⟨c, .mk [] v A cap []⟩ (by simp)
  have hcap : cap ≤ 9223372036854775807 := hpd.ty.max
  have hc : c.length ≤ 1000000000000000000 := hpd.cls
  simp only [List.getElem_cons_zero, Ty.con, Ty.var, Ty.A, Ty.cap, Ty.args, List.length_nil, Nat.zero_mul, Nat.add_zero] at q0 q1 q2 q3
  obtain ⟨W, hW⟩ : ∃ W, W = w.alloc (.cells #[encStr c, .string ⟨#[]⟩, .int .i64 v, .slice A 0 cap] 40) := ⟨_, rfl⟩
  have HW := hide hW.symm
  have X0 : Hid (Ext w W) := hide (by rw [hW]; exact (Ext.refl _).alloc _)
  have HB : Hid (PdBox W w.heap.size ⟨c, .mk [] v A cap []⟩) := hide (by rw [hW]; exact at_newB _ _ _ rfl)
  have HL := hide (p_legal ⟨c, .mk [] v A cap []⟩ W (hpd.ext X0.out) (by rw [varU_size]; omega))
  rw [hp] at HL
  have HO := hide (fun w' => p_one c v A cap w' hc hcap h0 h1)
  have HC := hide (fun w' (e : Ext W w') => (HB.out.ext e).cells)
  simp only [Ty.con, Ty.var, Ty.A, Ty.cap, Ty.args, List.length_nil, pdV] at HC HL
  have hbl := HB.out.lt
  obtain ⟨d0, d1, d2, d3⟩ := HC.out W (Ext.refl _)
  generalize oneS c v = s at *
  clear hW hpd h hp
  have hbb : b < w.heap.size := hb
  go_enter Tryz.func46, Tryz.ntmps46
  go_wp2
  go_loopw [3, 9] (fun u i wr => (i = .int .i64 0 ∧ u = .slice none 0 0 ∧ wr = w) ∨ (i = .int .i64 1 ∧ ∃ g o1 c1, u = .slice (some ⟨g, o1, none⟩) 1 c1 ∧ Hid (Ext w wr) ∧ wr.cell? ⟨g, o1, none⟩ = some (encStr s) ∧ 1 ≤ c1 ∧ c1 ≤ 9223372036854775807 ∧ g < wr.heap.size)) (fun _ i _ => 1 - (intOf i).toNat)
  case atStart => exact .inl ⟨rfl, rfl, rfl⟩
  case round =>
    rcases hrel with ⟨rfl, rfl, rfl⟩ | ⟨rfl, g, o1, c1, rfl, HX, hg, hg1, hg2, hg3⟩
    · have h01 : (0 : Int) < 1 := by omega
      go_upto_region 5 with fail
      rw [HW.out]
      go_wp2_with fail
      refine HL.out.mono ?_
      rintro e w2 ⟨rfl, hx2⟩
      have X2 := hide hx2
      obtain ⟨d0, d1, d2, d3⟩ := HC.out w2 hx2
      have hb2 := Nat.lt_of_lt_of_le hbl hx2.size
      go_wp2_with fail
      refine (HO.out w2).mono ?_
      rintro e w3 ⟨rfl, hx3⟩
      have X3 := hide (X0.out.trans (X2.out.trans hx3))
      have O0 : w3.ownsRow wr.heap.size 9 1 (.slice none 0 0) 0 [] := World.ownsRow_nil _ _ _ _
      go_wp2_with (at_builtin; refine wpList_append_row _ rfl _ _ 115 rfl wr.heap.size 9 i1 _ 1 16 Tryz.underlying115 hj hy0 hy1 hy2 rfl (by decide) (.slice none 0 0) 0 [] rfl (O0.alloc _) _ 1 1 [encStr s] rfl ?c2 ?c3 ?c4 ?c5 ?c6 ?_)
      case c2 => exact Row.boxI _ (at_newB _ _ _ (by simp))
      case c3 => first | rfl | (intro y hy; simp at hy; subst hy; rfl)
      case c4 => unfold maxLen; omega
      case c5 => omega
      case c6 => have := X3.out.size; simp; omega
      intro v4 w4 hown4 hg4 _
      have X4 := hide (Ext.app (X3.out.alloc _) hg4 (O0.alloc _) (Nat.le_refl _))
      obtain ⟨A4, c4, rfl, h4, h5, h6, -⟩ := RowOf.own strC (l := [s]) (by simpa [strC] using hown4)
      obtain ⟨g, o1, e4, hgl, hq⟩ := RowOf.at_ strC h6 (i := 0) (by simp)
      subst e4
      have hq0 := hq 0 (by decide)
      have hq1 : w4.cell? ⟨g, o1, none⟩ = some (encStr s) := by simpa [strC] using hq0
      have h4' : 1 ≤ c4 := h4
      clear hown4 hg4 hq hq0 h6 hx2 hx3
      simp only [List.length_cons, List.length_nil, Nat.zero_add]
      go_wp2
      go_roundw
      case rel => exact .inr ⟨by go_num, g, o1, c4, rfl, X4, hq1, h4', h5, hgl⟩
      case measure => simp [intOf]
    · have h11 : ¬ (1 : Int) < 1 := by omega
      have HJ := hide (s_joinC g o1 c1 s [44, 32] wr hg)
      go_wp2_with fail
      refine HJ.out.mono ?_
      rintro e w3 ⟨rfl, rfl⟩
      go_wp2
      go_ret
      exact ⟨rfl, HX.out⟩

/-- A scheme of one predicate of a variable, and any type. -/
def scG (n : Int) (B : Option Addr) (bc : Nat) (c : Str) (v : Int) (A : Option Addr) (cap : Nat) (t : Ty) : Sc := ⟨n, B, bc, [⟨c, .mk [] v A cap []⟩], t⟩

set_option maxRecDepth 10000 in
set_option maxHeartbeats 4000000 in
theorem sc_textG (n : Int) (B : Option Addr) (bc : Nat) (c : Str) (v : Int) (A : Option Addr) (cap : Nat) (t : Ty) (r : Str) (hr : r.length ≤ 1000) (hts : t.size ≤ 1000) (w : World) (h : ScIn w (scG n B bc c v A cap t)) (hs : scB (scG n B bc c v A cap t) = true) (hp : pdB ⟨c, .mk [] v A cap []⟩ = true)
    (h0 : -9223372036854775808 ≤ v) (h1 : v ≤ 9223372036854775807) (hT : ∀ w', Ext w w' → Calls Tryz.prog 18 #[tyV t] w' fun e w'' => e = .returned (encStr r) ∧ Ext w' w'') :
    Calls Tryz.prog 19 #[scV (scG n B bc c v A cap t)] w fun e w' => e = .returned (encStr (oneS c v ++ ([32, 61, 62, 32] : Str) ++ r)) ∧ Ext w w' := by
  have hcl : c.length ≤ 1000000000000000000 := (h.row.all ⟨c, .mk [] v A cap []⟩ (by simp [scG])).cls
  obtain ⟨W, hW⟩ : ∃ W, W = w.alloc (.cells #[.int .i64 n, .slice B 1 bc, encStr t.con, .int .i64 t.var, .slice t.A t.args.length t.cap] 27) := ⟨_, rfl⟩
  have HW := hide hW.symm
  have X0 : Hid (Ext w W) := hide (by rw [hW]; exact (Ext.refl _).alloc _)
  have HB : Hid (ScBox W w.heap.size (scG n B bc c v A cap t)) := hide (by rw [hW]; exact at_newB _ _ _ rfl)
  have hpz : psz (scG n B bc c v A cap t).preds = 1 := by unfold psz scG; simp [varU_size]
  have hts2 : (scG n B bc c v A cap t).ty.size ≤ 1000 := hts
  have HL := hide (s_legal (scG n B bc c v A cap t) W (h.ext X0.out) (by simp [scG]) (by omega))
  rw [hs] at HL
  have HPs : Hid (PdsIn w B [⟨c, .mk [] v A cap []⟩]) := hide h.row
  have HP := hide (fun w' (e : Ext w w') => p_text1 c v A cap B bc w' hp (HPs.out.ext e) h0 h1)
  have HT := hide (fun w' (e : Ext w w') => hT w' e)
  unfold tyV at HT
  have HC := hide (fun w' (e : Ext W w') => (HB.out.ext e).cells)
  unfold scV at *
  simp only [scG, List.length_nil, List.length_cons, Nat.zero_add] at HC HL ⊢
  have hbl := HB.out.lt
  have hl1 := varS_len h0 h1
  have HS : Hid ((oneS c v).length ≤ c.length + 40) := hide (by unfold oneS; simp; omega)
  generalize oneS c v = s at *
  have hsl := HS.out
  have hs1 : ¬ ((⟨s.toArray⟩ : ByteArray).size + (⟨[(32 : UInt8), 61, 62, 32].toArray⟩ : ByteArray).size > 9223372036854775807) := by rw [ba_size, ba_size]; simp; omega
  have e1 := ByteArray.mk_append_mk s [(32 : UInt8), 61, 62, 32]
  have hs2 : ¬ ((⟨(s ++ [32, 61, 62, 32]).toArray⟩ : ByteArray).size + (⟨r.toArray⟩ : ByteArray).size > 9223372036854775807) := by rw [ba_size, ba_size]; simp; omega
  have e2 := ByteArray.mk_append_mk (s ++ [32, 61, 62, 32]) r
  obtain ⟨d0, d1, d2, d3, d4⟩ := HC.out W (Ext.refl _)
  clear hW h hs hp HB hpz hts hl1 hT hts2
  go_enter Tryz.func19, Tryz.ntmps19
  go_upto_region 1 with fail
  rw [HW.out]
  clear HW
  go_wp2_with fail
  refine HL.out.mono ?_
  rintro e w2 ⟨rfl, hx2⟩
  have X2 := hide hx2
  obtain ⟨d0, d1, d2, d3, d4⟩ := HC.out w2 hx2
  have hb2 := Nat.lt_of_lt_of_le hbl hx2.size
  clear hx2 HL
  go_upto_region 5 with fail
  go_wp2
  have hS0 := (HC.out w2.drew (X2.out.trans (Ext.refl _).drew)).2
  refine but_startN 8 9 #[false, false, false, false, false, false, false, false, false] (fun w' => w'.cell? ⟨w.heap.size, 1, none⟩ = some (.slice B 1 bc) ∧ w'.cell? ⟨w.heap.size, 2, none⟩ = some (encStr t.con) ∧ w'.cell? ⟨w.heap.size, 3, none⟩ = some (.int .i64 t.var) ∧ w'.cell? ⟨w.heap.size, 4, none⟩ = some (.slice t.A t.args.length t.cap)) (by kernel_rfl) (by kernel_rfl) (by kernel_rfl) ?_
  (refine but_takeL (i := 0) (v := ?_) rfl (by kernel_rfl) (by kernel_rfl) (by kernel_rfl) (by kernel_rfl) (fun _ _ _ h => h) (Or.inl ⟨by kernel_rfl, ?_⟩) (by assumption) ?_; rotate_left 1; (focus (intro w hSw; (try dsimp only at hSw); (try obtain ⟨g1, g2, g3⟩ := hSw); (try obtain ⟨g1, g2⟩ := hSw); go_simp; try with_reducible rfl)); simp only [Act.put, List.setIfInBounds_toArray, List.set_cons_zero, List.set_cons_succ])
  (refine but_takeL (i := 1) (v := ?_) rfl (by kernel_rfl) (by kernel_rfl) (by kernel_rfl) (by kernel_rfl) (fun _ _ _ h => h) (Or.inl ⟨by kernel_rfl, ?_⟩) (by assumption) ?_; rotate_left 1; (focus (intro w hSw; (try dsimp only at hSw); (try obtain ⟨g1, g2, g3⟩ := hSw); (try obtain ⟨g1, g2⟩ := hSw); go_simp; try with_reducible rfl)); simp only [Act.put, List.setIfInBounds_toArray, List.set_cons_zero, List.set_cons_succ])
  (refine but_takeL (i := 4) (v := ?_) rfl (by kernel_rfl) (by kernel_rfl) (by kernel_rfl) (by kernel_rfl) (fun _ _ _ h => h) (Or.inl ⟨by kernel_rfl, ?_⟩) (by assumption) ?_; rotate_left 1; (focus (intro w hSw; (try dsimp only at hSw); (try obtain ⟨g1, g2, g3⟩ := hSw); (try obtain ⟨g1, g2⟩ := hSw); go_simp; try with_reducible rfl)); simp only [Act.put, List.setIfInBounds_toArray, List.set_cons_zero, List.set_cons_succ])
  (refine but_takeL (i := 5) (v := ?_) rfl (by kernel_rfl) (by kernel_rfl) (by kernel_rfl) (by kernel_rfl) (fun _ _ _ h => h) (Or.inl ⟨by kernel_rfl, ?_⟩) (by assumption) ?_; rotate_left 1; (focus (intro w hSw; (try dsimp only at hSw); (try obtain ⟨g1, g2, g3⟩ := hSw); (try obtain ⟨g1, g2⟩ := hSw); go_simp; try with_reducible rfl)); simp only [Act.put, List.setIfInBounds_toArray, List.set_cons_zero, List.set_cons_succ])
  refine but_step (i := 2) (by kernel_rfl) rfl (fun KK hK => ?_)
  go_simp
  refine Calls.mono (HP.out _ ((X0.out.trans X2.out).trans (Ext.refl _).drew)) ?_
  rintro e y1 ⟨rfl, x1⟩
  have f1 : Ext w2 y1 := by (refine Ext.trans ?_ x1; exact (by repeat (first | exact Ext.refl _ | exact Ext.pre (by simp) | exact Ext.alloc (by assumption) _ | refine Ext.alloc ?_ _ |  refine Ext.more ?_ _ _ | refine Ext.drew ?_ | refine Ext.drewN ?_ _)))
  have hS1 := (HC.out y1 (X2.out.trans f1)).2
  refine hK.out _ _ (fun _ => hS1) ?_
  clear hK KK hS0
  simp only [List.setIfInBounds_toArray, List.set_cons_zero, List.set_cons_succ]
  refine but_takeL (i := 3) (v := .string ⟨(s ++ [32, 61, 62, 32]).toArray⟩) rfl (by kernel_rfl) (by kernel_rfl) (by kernel_rfl) (by kernel_rfl) (fun _ _ _ h => h) (Or.inl ⟨by kernel_rfl, ?_⟩) (by assumption) ?_
  · intro w' hSw
    go_simp
    omega
  simp only [Act.put, List.setIfInBounds_toArray, List.set_cons_zero, List.set_cons_succ]
  refine but_step (i := 6) (by kernel_rfl) rfl (fun KK hK => ?_)
  go_simp
  refine Calls.mono (HT.out _ (X0.out.trans (X2.out.trans (f1.trans (by repeat (first | exact Ext.refl _ | exact Ext.pre (by simp) | exact Ext.alloc (by assumption) _ | refine Ext.alloc ?_ _ |  refine Ext.more ?_ _ _ | refine Ext.drew ?_ | refine Ext.drewN ?_ _)))))) ?_
  rintro e y2 ⟨rfl, x2⟩
  have f2 : Ext y1 y2 := by (refine Ext.trans ?_ x2; exact (by repeat (first | exact Ext.refl _ | exact Ext.pre (by simp) | exact Ext.alloc (by assumption) _ | refine Ext.alloc ?_ _ |  refine Ext.more ?_ _ _ | refine Ext.drew ?_ | refine Ext.drewN ?_ _)))
  have hS2 := (HC.out y2 (X2.out.trans (f1.trans f2))).2
  refine hK.out _ _ (fun _ => hS2) ?_
  clear hK KK hS1
  simp only [List.setIfInBounds_toArray, List.set_cons_zero, List.set_cons_succ]
  refine but_takeL (i := 7) (v := .string ⟨(s ++ [32, 61, 62, 32] ++ r).toArray⟩) rfl (by kernel_rfl) (by kernel_rfl) (by kernel_rfl) (by kernel_rfl) (fun _ _ _ h => h) (Or.inl ⟨by kernel_rfl, ?_⟩) (by assumption) ?_
  · intro w' hSw
    go_simp
    omega
  simp only [Act.put, List.setIfInBounds_toArray, List.set_cons_zero, List.set_cons_succ]
  refine but_step (i := 8) (by kernel_rfl) rfl (fun KK hK => ?_)
  go_simp
  refine hK.out _ _ (fun h => absurd rfl h) ?_
  clear hK KK
  try simp only [Act.put]
  refine but_done (by kernel_rfl) ?_ _
  go_wp2
  go_ret
  exact ⟨by rw [List.append_assoc]; rfl, X0.out.trans (X2.out.trans (f1.trans f2))⟩

end Go.Proofs.YtmjiljhcjfnfpaaGreat

/- Chapter 21's example, plain. -/
namespace Go.Proofs.YtmjiljhcjfnfpaaGreat
open Go.RowKit

theorem lf_vars (v : Int) (A : Option Addr) (c : Nat) : (lfT v A c).vars = [v] := by rw [vars_eq]; rfl
theorem fn_vars (a b : Ty) (A : Option Addr) (c : Nat) : (fnT a b A c).vars = a.vars ++ b.vars := by
  rw [vars_eq, if_neg (show ¬ (fnT a b A c).con = [] from (show ¬ ([45, 62] : Str) = [] by decide))]
  show ([] : List Int) ++ ([a, b].map Ty.vars).flatten = _
  simp
theorem inv_lf {t : Ty} {v : Int} (h : t.pure = .mk [] v []) : ∃ A c, t = lfT v A c := by
  cases t with
  | mk s u A c l =>
    rw [Ty.pure_eq] at h
    injection h with h1 h2 h3
    obtain rfl : s = [] := h1
    obtain rfl : u = v := h2
    have h4 : l.map Ty.pure = [] := h3
    obtain rfl : l = [] := by simpa using h4
    exact ⟨A, c, rfl⟩
theorem inv_fn {t : Ty} {p q : Ty.Pure} (h : t.pure = .mk [45, 62] 0 [p, q]) : ∃ a b A c, t = fnT a b A c ∧ a.pure = p ∧ b.pure = q := by
  cases t with
  | mk s u A c l =>
    rw [Ty.pure_eq] at h
    injection h with h1 h2 h3
    obtain rfl : s = [45, 62] := h1
    obtain rfl : u = 0 := h2
    have h4 : l.map Ty.pure = [p, q] := h3
    cases l with
    | nil => simp at h4
    | cons a l =>
      cases l with
      | nil => simp at h4
      | cons b l =>
        simp only [List.map_cons, List.cons.injEq] at h4
        obtain rfl : l = [] := by simpa using h4.2.2
        exact ⟨a, b, A, c, rfl, h4.1, h4.2.1⟩
theorem ren_lf (r : Int → Int) (v : Int) (A : Option Addr) (c : Nat) : renP r (lfT v A c) = .mk [] (r v) [] := ren_var r rfl
theorem ren_fn (r : Int → Int) (a b : Ty) (A : Option Addr) (c : Nat) : renP r (fnT a b A c) = .mk [45, 62] 0 [renP r a, renP r b] := ren_con r (show ([45, 62] : Str) ≠ [] by decide)
theorem lf_legal (v : Int) (A : Option Addr) (c : Nat) : legalT (lfT v A c) = true := by kernel_rfl
theorem fn_legal (u v : Int) (A : Option Addr) (c : Nat) (B : Option Addr) (d : Nat) (C : Option Addr) (e : Nat) : legalT (fnT (lfT u A c) (lfT v B d) C e) = true := by kernel_rfl
theorem cl_pd (v : Int) (A : Option Addr) (c : Nat) : pdB ⟨[67], lfT v A c⟩ = true := by kernel_rfl

/-- What the example is closed from. -/
def e21T (g : Nat) : Ty := fnT (lfT 7 none 0) (lfT 5 none 0) (some ⟨g, 0, none⟩) 2
def e21P : Pd := ⟨[67], lfT 7 none 0⟩
theorem e21_vars (g : Nat) : sVars (e21T g) [e21P] = [7, 5] := by
  rw [sVars_allV]
  have h : allV (e21T g :: [e21P].map Pd.ty) = [7, 5, 7] := by
    unfold e21T e21P
    rw [allV_cons, fn_vars, lf_vars, lf_vars]
    show _ ++ allV [lfT 7 none 0] = _
    rw [allV_cons, lf_vars]
    rfl
  rw [h]
  decide
/-- The example's scheme. -/
def ex21 (A : Option Addr) (cap : Nat) (E : Option Addr) (e : Nat) (C : Option Addr) (c : Nat) (D : Option Addr) (d : Nat) (B : Option Addr) (bc : Nat) : Sc := scG 1 A cap [67] 0 E e (fnT (lfT 0 C c) (lfT (-6) D d) B bc)
theorem ex21_of {g : Nat} {sc : Sc} (h : CloseIs [5] (e21T g) [e21P] sc) : ∃ A cap E e C c D d B bc, sc = ex21 A cap E e C c D d B bc := by
  have hok : (legalT (e21T g) && [e21P].all pdB) = true := by kernel_rfl
  have h1 := h.n hok
  have h2 := h.ty hok
  have h3 := h.ps hok
  rw [e21_vars] at h1 h2 h3
  have er : rOf [7, 5] (closeGo [5] 0 [7, 5]) 7 = 0 := by decide
  have er2 : rOf [7, 5] (closeGo [5] 0 [7, 5]) 5 = -6 := by decide
  have hn : closeN [5] [7, 5] = 1 := by decide
  rw [hn] at h1
  unfold e21T at h2
  rw [ren_fn, ren_lf, ren_lf, er, er2] at h2
  obtain ⟨a, b, B, bc, e1, ha, hb⟩ := inv_fn h2
  obtain ⟨C, c, rfl⟩ := inv_lf ha
  obtain ⟨D, d, rfl⟩ := inv_lf hb
  unfold e21P at h3
  simp only [List.map_cons, List.map_nil] at h3
  rw [ren_lf, er] at h3
  cases sc with
  | mk n A cap ps ty =>
    have h3' : ps.map (fun d => (d.cls, d.ty.pure)) = [([67], .mk [] 0 [])] := h3
    clear h h3
    cases ps with
    | nil => simp at h3'
    | cons x ps =>
      simp only [List.map_cons, List.cons.injEq, Prod.mk.injEq] at h3'
      obtain ⟨⟨hk, ht⟩, h4⟩ := h3'
      obtain rfl : ps = [] := by simpa using h4
      obtain ⟨E, e, h5⟩ := inv_lf ht
      obtain ⟨xc, xt⟩ := x
      have hk : xc = [67] := hk
      have h5 : xt = lfT 0 E e := h5
      have h1' : n = 1 := h1
      have e1' : ty = fnT (lfT 0 C c) (lfT (-6) D d) B bc := e1
      subst h1' e1' hk h5
      exact ⟨A, cap, E, e, C, c, D, d, B, bc, rfl⟩
section
variable (A : Option Addr) (cap : Nat) (E : Option Addr) (e : Nat) (C : Option Addr) (c : Nat) (D : Option Addr) (d : Nat) (B : Option Addr) (bc : Nat)
theorem ex21_SV : SV (ex21 A cap E e C c D d B bc) = [0, -6, 0] := by
  show allV (fnT (lfT 0 C c) (lfT (-6) D d) B bc :: [lfT 0 E e]) = _
  rw [allV_cons, fn_vars, lf_vars, lf_vars, allV_cons, lf_vars]
  rfl
theorem ex21_legal : scB (ex21 A cap E e C c D d B bc) = true := by
  refine leg_scB ⟨fn_legal _ _ _ _ _ _ _ _, fun p hp => ?_, by show (0 : Int) ≤ 1; decide, by show (1 : Int) ≤ 4096; decide, ?_⟩
  · have hp : p ∈ [(⟨[67], lfT 0 E e⟩ : Pd)] := hp
    rw [List.mem_singleton] at hp
    subst hp
    exact cl_pd _ _ _
  · rw [ex21_SV]
    show ((owns 1 [0, -6, 0]).length : Int) = 1
    decide
theorem ex21_free : frS (ex21 A cap E e C c D d B bc) = [-6] := by
  unfold frS
  rw [sVars_SV, ex21_SV]
  show (onceI [0, -6, 0]).filter (fun v => !ownB 1 v) = [-6]
  decide
theorem ex21_size : (ex21 A cap E e C c D d B bc).ty.size = 3 := by
  show (fnT (lfT 0 C c) (lfT (-6) D d) B bc).size = 3
  rw [fn_size, lf_size, lf_size]
theorem ex21_psz : psz (ex21 A cap E e C c D d B bc).preds = 1 := by
  show psz [(⟨[67], lfT 0 E e⟩ : Pd)] = 1
  unfold psz
  simp [lf_size]
theorem ex21_same : sameS (ex21 A cap E e C c D d B bc) (ex21 A cap E e C c D d B bc) = true := by rw [same_self, ex21_legal]
theorem ex21_open {u : Ty} (h : u.pure = renP (openF 1 10) (ex21 A cap E e C c D d B bc).ty) : ∃ C' c' D' d' B' bc', u = fnT (lfT 10 C' c') (lfT (-6) D' d') B' bc' := by
  have h : u.pure = renP (openF 1 10) (fnT (lfT 0 C c) (lfT (-6) D d) B bc) := h
  rw [ren_fn, ren_lf, ren_lf] at h
  have e1 : openF 1 10 0 = 10 := by decide
  have e2 : openF 1 10 (-6) = -6 := by decide
  rw [e1, e2] at h
  obtain ⟨a, b, B', bc', e1, ha, hb⟩ := inv_fn h
  obtain ⟨C', c', rfl⟩ := inv_lf ha
  obtain ⟨D', d', rfl⟩ := inv_lf hb
  exact ⟨C', c', D', d', B', bc', e1⟩
/-- The scheme of a variable alone. -/
def al21 : Sc := ⟨1, none, 0, [], Ty.zero⟩
theorem zero_lf : Ty.zero = lfT 0 none 0 := rfl
theorem al21_SV : SV al21 = [0] := by
  show allV [Ty.zero] = _
  rw [zero_lf, allV_cons, lf_vars]
  rfl
theorem al21_legal : scB al21 = true := by
  refine leg_scB ⟨lf_legal _ _ _, (fun p hp => by cases hp), by show (0 : Int) ≤ 1; decide, by show (1 : Int) ≤ 4096; decide, ?_⟩
  rw [al21_SV]
  show ((owns 1 [0]).length : Int) = 1
  decide
theorem al21_free : frS al21 = [] := by
  unfold frS
  rw [sVars_SV, al21_SV]
  show (onceI [0]).filter (fun v => !ownB 1 v) = []
  decide
theorem ex21_below : abvB al21 (ex21 A cap E e C c D d B bc) = true := by
  unfold abvB
  rw [al21_legal, ex21_legal]
  have hm : m0S al21 al21.ty.var = none := by unfold m0S; rw [al21_free]; simp
  have h : onT al21.ty (ex21 A cap E e C c D d B bc).ty (m0S al21) = some (fun v => if v = 0 then some (ex21 A cap E e C c D d B bc).ty.pure else m0S al21 v) := by
    rw [onT_eq, if_pos (show al21.ty.con = [] from rfl)]
    rw [hm]
    rfl
  rw [h]
  rfl
theorem ex21_notabove : abvB (ex21 A cap E e C c D d B bc) al21 = false := by
  unfold abvB
  have h : onT (ex21 A cap E e C c D d B bc).ty al21.ty (m0S (ex21 A cap E e C c D d B bc)) = none := by
    rw [onT_eq, if_neg (show (ex21 A cap E e C c D d B bc).ty.con ≠ [] from (show ([45, 62] : Str) ≠ [] by decide)), if_neg (fun h => absurd h.1 (show ([45, 62] : Str) ≠ [] by decide))]
  rw [h]
  simp
end

end Go.Proofs.YtmjiljhcjfnfpaaGreat

/- Contracts: a scheme with fresh variables (scheme's Open); the function values of Open and of plain. -/
namespace Go.Proofs.YtmjiljhcjfnfpaaGreat
open Go.RowKit Go.Shelf Go.Sort

set_option maxRecDepth 10000 in
set_option maxHeartbeats 1000000 in
theorem sc_open1 (x first : Int) (s : Sc) (bs bf : Nat) (w : World) (h : ScBox w bs s) (hf : w.heap[bf]? = some (.cells #[.int .i64 first] 3 (0, 0))) (h0 : 0 ≤ first) (h1 : first ≤ 1099511627776) (hn : s.n ≤ 4096) :
    Calls Tryz.prog 37 #[.int .i64 x, .pointer (some ⟨bs, 0, none⟩), .pointer (some ⟨bf, 0, none⟩)] w fun e w' => e = .returned (.int .i64 (openF s.n first x)) ∧ w' = w := by
  obtain ⟨c0, -⟩ := h.cells
  have lb := h.lt
  have f0 : w.cell? ⟨bf, 0, none⟩ = some (.int .i64 first) := bytes_block hf 0
  have lf := lt_of_obj hf
  have HO := hide (s_own x s.n w)
  unfold openF
  cases ho : ownB s.n x
  · rw [ho] at HO
    clear ho
    go_enter Tryz.func37, Tryz.ntmps37
    go_wp2_with fail
    refine HO.out.mono ?_
    rintro e w2 ⟨rfl, rfl⟩
    go_wp2
    go_ret
    exact ⟨rfl, rfl⟩
  · have hb := ownB_iff.1 ho
    have hw : IntKind.i64.wrap (first + x) = first + x := IntWalk.i64_in _ (by omega)
    rw [ho] at HO
    clear ho hb
    go_enter Tryz.func37, Tryz.ntmps37
    go_wp2_with fail
    refine HO.out.mono ?_
    rintro e w2 ⟨rfl, rfl⟩
    go_wp2
    go_ret
    exact ⟨rfl, rfl⟩

set_option maxRecDepth 10000 in
set_option maxHeartbeats 1000000 in
theorem sc_plain1 (x c : Int) (s : Sc) (bs bn : Nat) (w : World) (h : ScBox w bs s) (hf : w.heap[bn]? = some (.cells #[.int .i64 c] 3 (0, 0))) (h0 : 0 ≤ c) (h1 : c ≤ 1000000) :
    Calls Tryz.prog 47 #[.int .i64 x, .pointer (some ⟨bs, 0, none⟩), .pointer (some ⟨bn, 0, none⟩)] w fun e w' => e = .returned (.int .i64 (if ownB s.n x = true then c else x)) ∧ w'.heap[bn]? = some (.cells #[.int .i64 (if ownB s.n x = true then c + 1 else c)] 3 (0, 0)) ∧ w.grownBy w' (some bn) := by
  obtain ⟨c0, -⟩ := h.cells
  have lb := h.lt
  have f0 : w.cell? ⟨bn, 0, none⟩ = some (.int .i64 c) := bytes_block hf 0
  have ff := free_block hf 0
  have lf := lt_of_obj hf
  have HF := hide hf
  have HO := hide (s_own x s.n w)
  cases ho : ownB s.n x
  · rw [ho] at HO
    clear ho hf
    go_enter Tryz.func47, Tryz.ntmps47
    go_wp2_with fail
    refine HO.out.mono ?_
    rintro e w2 ⟨rfl, rfl⟩
    go_wp2
    go_ret
    exact ⟨rfl, HF.out, World.grownBy.refl _ _⟩
  · have hw : IntKind.i64.wrap (c + 1) = c + 1 := IntWalk.i64_in _ (by omega)
    have hw2 : IntKind.i64.wrap (c + 1 - 1) = c := by rw [IntWalk.i64_in _ (by omega)]; omega
    rw [ho] at HO
    clear ho hf
    go_enter Tryz.func47, Tryz.ntmps47
    go_wp2_with fail
    refine HO.out.mono ?_
    rintro e w2 ⟨rfl, rfl⟩
    go_wp2
    go_ret
    exact ⟨by first | rfl | (congr 2; omega), blk_setCell HF.out 0 _, grown_cell _ _ _ _⟩

theorem ext_s3 {w W : World} {b : Nat} (x : Ext w W) (h : w.heap.size ≤ b) (v0 v1 v2 : Value) : Ext w (((W.setCell ⟨b, 0, none⟩ v0).setCell ⟨b, 1, none⟩ v1).setCell ⟨b, 2, none⟩ v2) := ((x.setCell h _).setCell h _).setCell h _
theorem put3_c {W : World} {b : Nat} {x0 x1 x2 : Value} {t : TypeId} (h : W.heap[b]? = some (.cells #[x0, x1, x2] t (0, 0))) (v0 v1 v2 : Value) : (((W.setCell ⟨b, 0, none⟩ v0).setCell ⟨b, 1, none⟩ v1).setCell ⟨b, 2, none⟩ v2).heap[b]? = some (.cells #[v0, v1, v2] t (0, 0)) := by
  have h1 := blk_setCell h 0 v0
  have h2 := blk_setCell h1 1 v1
  have h3 := blk_setCell h2 2 v2
  exact h3
theorem put3_c0 {W : World} {b : Nat} {x0 x1 x2 : Value} {t : TypeId} (h : W.heap[b]? = some (.cells #[x0, x1, x2] t (0, 0))) (v0 v1 v2 : Value) : (((W.setCell ⟨b, 0, none⟩ v0).setCell ⟨b, 1, none⟩ v1).setCell ⟨b, 2, none⟩ v2).cell? ⟨b, 0, none⟩ = some v0 := bytes_block (put3_c h v0 v1 v2) 0
theorem put3_c1 {W : World} {b : Nat} {x0 x1 x2 : Value} {t : TypeId} (h : W.heap[b]? = some (.cells #[x0, x1, x2] t (0, 0))) (v0 v1 v2 : Value) : (((W.setCell ⟨b, 0, none⟩ v0).setCell ⟨b, 1, none⟩ v1).setCell ⟨b, 2, none⟩ v2).cell? ⟨b, 1, none⟩ = some v1 := bytes_block (put3_c h v0 v1 v2) 1
theorem put3_c2 {W : World} {b : Nat} {x0 x1 x2 : Value} {t : TypeId} (h : W.heap[b]? = some (.cells #[x0, x1, x2] t (0, 0))) (v0 v1 v2 : Value) : (((W.setCell ⟨b, 0, none⟩ v0).setCell ⟨b, 1, none⟩ v1).setCell ⟨b, 2, none⟩ v2).cell? ⟨b, 2, none⟩ = some v2 := bytes_block (put3_c h v0 v1 v2) 2
theorem open1_opens : Opens 37 := enters_of Tryz.func37 (by kernel_rfl) rfl
theorem plain1_opens : Opens 47 := enters_of Tryz.func47 (by kernel_rfl) rfl
theorem getD_map (L : List Int) (g : Int → Int) {k : Nat} (hk : k < L.length) : (L.map g).getD k 0 = g (L[k]'hk) := by simp [List.getD, hk]
/-- Open's function value tells what is to be told. -/
theorem open_tells (s : Sc) (first : Int) (bs bf N0 : Nat) (L : List Int) (h0 : 0 ≤ first) (h1 : first ≤ 1099511627776) (hn : s.n ≤ 4096) (hb : bs < N0) (hf : bf < N0) :
    TellsR 37 #[.pointer (some ⟨bs, 0, none⟩), .pointer (some ⟨bf, 0, none⟩)] L (L.map (openF s.n first)) (fun _ w => ScBox w bs s ∧ w.heap[bf]? = some (.cells #[.int .i64 first] 3 (0, 0))) bf N0 where
  op := open1_opens
  step k hk w hS := by
    refine (sc_open1 (L[k]'hk) first s bs bf w hS.1 hS.2 h0 h1 hn).mono ?_
    rintro e w' ⟨rfl, rfl⟩
    exact ⟨by rw [getD_map L _ hk], hS, World.grownBy.refl _ _⟩
  keep k w w' hS hB := ⟨(hB.block bs hb).trans hS.1, (hB.block bf hf).trans hS.2⟩
  lt := hf
/-- Plain's function value tells the numbers. -/
theorem plain_tells (s : Sc) (bs bn N0 : Nat) (hb : bs < N0) (hn : bn < N0) (hbb : bs ≠ bn) (hL : (sVars s.ty s.preds).length ≤ 100000) :
    TellsR 47 #[.pointer (some ⟨bs, 0, none⟩), .pointer (some ⟨bn, 0, none⟩)] (sVars s.ty s.preds) ((sVars s.ty s.preds).map (numS s)) (fun k w => ScBox w bs s ∧ w.heap[bn]? = some (.cells #[.int .i64 ((((sVars s.ty s.preds).take k).filter (ownB s.n)).length : Nat)] 3 (0, 0))) bn N0 where
  op := plain1_opens
  step k hk w hS := by
    have hc := List.length_filter_le (ownB s.n) ((sVars s.ty s.preds).take k)
    rw [List.length_take] at hc
    refine (sc_plain1 ((sVars s.ty s.preds)[k]'hk) ((((sVars s.ty s.preds).take k).filter (ownB s.n)).length : Nat) s bs bn w hS.1 hS.2 (by omega) (by omega)).mono ?_
    rintro e w' ⟨rfl, h2, hg⟩
    refine ⟨?_, ⟨(hg.block bs hS.1.lt (fun e => by injection e with e; omega)).trans hS.1, ?_⟩, hg⟩
    · rw [getD_map _ _ hk]
      unfold numS numV owns
      rw [← sVars_SV]
      cases ho : ownB s.n ((sVars s.ty s.preds)[k]'hk)
      · rfl
      · rw [if_pos rfl, if_pos rfl, idx_filter (ownB s.n) (sVars s.ty s.preds) (sVars_nodup _ _) hk ho]
    · rw [h2, List.take_succ_eq_append_getElem hk, List.filter_append, List.filter_cons, List.length_append]
      cases ho : ownB s.n ((sVars s.ty s.preds)[k]'hk)
      · simp
      · simp
  keep k w w' hS hB := ⟨(hB.block bs hb).trans hS.1, (hB.block bn hn).trans hS.2⟩
  lt := hn

/-- What Open tells. -/
structure OpnOk (w' : World) (s : Sc) (first : Int) (u : Ty) (A : Option Addr) (c : Nat) (ds : List Pd) (m n : Int) : Prop where
  le : ds.length ≤ c
  max : c ≤ 9223372036854775807
  ty : TyIn w' u
  ps : PdsIn w' A ds
  no : (scB s && decide (0 ≤ first) && decide (first ≤ 1099511627776)) = false → n = 1
  yes : (scB s && decide (0 ≤ first) && decide (first ≤ 1099511627776)) = true → n = 0 ∧ m = first + s.n ∧ u.pure = renP (openF s.n first) s.ty ∧ ds.map (fun d => (d.cls, d.ty.pure)) = s.preds.map fun x => (x.cls, renP (openF s.n first) x.ty)
theorem OpnOk.ext {w w' : World} {s : Sc} {first : Int} {u : Ty} {A : Option Addr} {c : Nat} {ds : List Pd} {m n : Int} (h : OpnOk w s first u A c ds m n) (e : Ext w w') : OpnOk w' s first u A c ds m n := ⟨h.le, h.max, h.ty.ext e, h.ps.ext e, h.no, h.yes⟩
theorem opened {s : Sc} {first : Int} {w w' : World} {u : Ty} {ds : List Pd} {v : Value} (h : RenOk w w' (sVars s.ty s.preds) ((sVars s.ty s.preds).map (openF s.n first)) s.ty u s.preds ds v) : u.pure = renP (openF s.n first) s.ty ∧ ds.map (fun d => (d.cls, d.ty.pure)) = s.preds.map fun x => (x.cls, renP (openF s.n first) x.ty) := by
  have hm := sv_mem s.ty s.preds
  have e : ∀ t, (∀ v ∈ t.vars, v ∈ sVars s.ty s.preds) → renP (rOf (sVars s.ty s.preds) ((sVars s.ty s.preds).map (openF s.n first))) t = renP (openF s.n first) t := fun t ht => ren_congr _ _ t fun v hv => rOf_map _ (sVars_nodup _ _) _ (ht v hv)
  refine ⟨by rw [h.is, e _ hm.1], ?_⟩
  rw [h.dis]
  exact List.map_congr_left fun x hx => by rw [e _ (hm.2 x hx)]

set_option maxRecDepth 10000 in
set_option maxHeartbeats 8000000 in
theorem s_open (s : Sc) (first : Int) (w : World) (h : ScIn w s) (hl : s.preds.length ≤ 40000) (hsz : s.ty.size + psz s.preds ≤ 50000) :
    Calls Tryz.prog 13 #[scV s, .int .i64 first] w fun e w' => (∃ u A c ds m n, e = .returned (.tuple #[tyV u, .slice A ds.length c, .int .i64 m, .int .i64 n]) ∧ OpnOk w' s first u A c ds m n) ∧ Ext w w' := by
  obtain ⟨W, hW⟩ : ∃ W, W = ((w.alloc (.cells #[.int .i64 s.n, .slice s.A s.preds.length s.cap, encStr s.ty.con, .int .i64 s.ty.var, .slice s.ty.A s.ty.args.length s.ty.cap] 27)).alloc (.cells #[.int .i64 first] 3)).alloc (.cells #[.string ⟨#[]⟩, .int .i64 0, .slice none 0 0] 25) := ⟨_, rfl⟩
  have HW := hide hW.symm
  have X0 : Hid (Ext w W) := hide (by rw [hW]; exact (((Ext.refl _).alloc _).alloc _).alloc _)
  have B1 : Hid (ScBox W w.heap.size s) := hide (by rw [hW]; exact (ScBox.new w s).ext (((Ext.refl _).alloc _).alloc _))
  have B2 : Hid (W.heap[w.heap.size + 1]? = some (.cells #[.int .i64 first] 3 (0, 0))) := hide (by rw [hW]; exact (((Ext.refl _).alloc _).heap (by simp)).trans (at_newB _ _ _ (by simp)))
  have B3 : Hid (W.heap[w.heap.size + 1 + 1]? = some (.cells #[.string ⟨#[]⟩, .int .i64 0, .slice none 0 0] 25 (0, 0))) := hide (by rw [hW]; exact at_newB _ _ _ (by simp))
  have HsW : Hid (W.heap.size = w.heap.size + 3) := hide (by rw [hW]; simp)
  have HLg := hide (s_legal s W (h.ext X0.out) hl hsz)
  have H := hide h
  obtain ⟨c0, c1, c2, c3, c4⟩ := B1.out.cells
  have lb1 := B1.out.lt
  have f0 : W.cell? ⟨w.heap.size + 1, 0, none⟩ = some (.int .i64 first) := bytes_block B2.out 0
  have lb2 := lt_of_obj B2.out
  clear hW h
  obtain ⟨D, hD⟩ : ∃ D, D = (scB s && decide (0 ≤ first) && decide (first ≤ 1099511627776)) := ⟨_, rfl⟩
  have HD := hide hD
  clear hD
  unfold scV tyV at *
  go_enter Tryz.func13, Tryz.ntmps13
  go_upto_region 1 with fail
  rw [HW.out]
  go_wp2_with fail
  refine HLg.out.mono ?_
  rintro e w2 ⟨rfl, hx⟩
  have X2 := hide hx
  have XW := hide (X0.out.trans hx)
  have B1 := hide (B1.out.ext hx)
  have B2 := hide ((hx.heap (lt_of_obj B2.out)).trans B2.out)
  have B3 := hide ((hx.heap (lt_of_obj B3.out)).trans B3.out)
  clear hx c0 c1 c2 c3 c4 lb1 f0 lb2 HLg
  obtain ⟨c0, c1, c2, c3, c4⟩ := B1.out.cells
  have lb1 := B1.out.lt
  have f0 : w2.cell? ⟨w.heap.size + 1, 0, none⟩ = some (.int .i64 first) := bytes_block B2.out 0
  have lb2 := lt_of_obj B2.out
  have lb3 := lt_of_obj B3.out
  cases hs : scB s
  · have Hd : Hid (D = false) := hide (by rw [HD.out, hs]; rfl)
    have k0 := free_block B3.out 0
    have k1 := free_block B3.out 1
    have k2 := free_block B3.out 2
    have j0 := bytes_block B3.out 0
    have j1 := bytes_block B3.out 1
    have j2 := bytes_block B3.out 2
    simp only [List.getElem?_toArray, List.getElem?_cons_zero, List.getElem?_cons_succ] at j0 j1 j2
    go_wp2
    refine bodyPost_ret (v := .tuple #[.agg #[.string ⟨#[]⟩, .int .i64 0, .slice none 0 0], .slice none 0 0, .int .i64 0, .int .i64 1]) ?_ rfl ⟨⟨Ty.zero, none, 0, [], 0, 1, rfl, ⟨Nat.le_refl _, by decide, TyIn.zero _, ⟨RowOf.nil _ _ _, by simp⟩, fun _ => rfl, fun h => by rw [← HD.out, Hd.out] at h; cases h⟩⟩, ?_⟩
    · simp [results, Tryz.f13, go_sem, j0, j1, j2]
    · exact ext_s3 XW.out (by omega) _ _ _
  by_cases h0 : first < 0
  · have Hd : Hid (D = false) := hide (by rw [HD.out, decide_eq_false (by omega)]; simp)
    have k0 := free_block B3.out 0
    have k1 := free_block B3.out 1
    have k2 := free_block B3.out 2
    have j0 := bytes_block B3.out 0
    have j1 := bytes_block B3.out 1
    have j2 := bytes_block B3.out 2
    simp only [List.getElem?_toArray, List.getElem?_cons_zero, List.getElem?_cons_succ] at j0 j1 j2
    go_wp2
    refine bodyPost_ret (v := .tuple #[.agg #[.string ⟨#[]⟩, .int .i64 0, .slice none 0 0], .slice none 0 0, .int .i64 0, .int .i64 1]) ?_ rfl ⟨⟨Ty.zero, none, 0, [], 0, 1, rfl, ⟨Nat.le_refl _, by decide, TyIn.zero _, ⟨RowOf.nil _ _ _, by simp⟩, fun _ => rfl, fun h => by rw [← HD.out, Hd.out] at h; cases h⟩⟩, ?_⟩
    · simp [results, Tryz.f13, go_sem, j0, j1, j2]
    · exact ext_s3 XW.out (by omega) _ _ _
  by_cases h1 : first > 1099511627776
  · have Hd : Hid (D = false) := hide (by rw [HD.out, decide_eq_false (show ¬ first ≤ 1099511627776 by omega)]; simp)
    have k0 := free_block B3.out 0
    have k1 := free_block B3.out 1
    have k2 := free_block B3.out 2
    have j0 := bytes_block B3.out 0
    have j1 := bytes_block B3.out 1
    have j2 := bytes_block B3.out 2
    simp only [List.getElem?_toArray, List.getElem?_cons_zero, List.getElem?_cons_succ] at j0 j1 j2
    go_wp2
    refine bodyPost_ret (v := .tuple #[.agg #[.string ⟨#[]⟩, .int .i64 0, .slice none 0 0], .slice none 0 0, .int .i64 0, .int .i64 1]) ?_ rfl ⟨⟨Ty.zero, none, 0, [], 0, 1, rfl, ⟨Nat.le_refl _, by decide, TyIn.zero _, ⟨RowOf.nil _ _ _, by simp⟩, fun _ => rfl, fun h => by rw [← HD.out, Hd.out] at h; cases h⟩⟩, ?_⟩
    · simp [results, Tryz.f13, go_sem, j0, j1, j2]
    · exact ext_s3 XW.out (by omega) _ _ _
  have Hleg := hide (scB_leg hs)
  have hn0 := Hleg.out.n0
  have hn1 := Hleg.out.n1
  have hw : IntKind.i64.wrap (first + s.n) = first + s.n := IntWalk.i64_in _ (by omega)
  have HRen := hide (sc_renamed 37 #[.pointer (some ⟨w.heap.size, 0, none⟩), .pointer (some ⟨w.heap.size + 1, 0, none⟩)] (w.heap.size + 1) ((sVars s.ty s.preds).map (openF s.n first)) _ s.ty s.A s.cap s.preds w2
    (open_tells s first w.heap.size (w.heap.size + 1) w2.heap.size (sVars s.ty s.preds) (by omega) (by omega) hn1 (by omega) (by omega)) ⟨B1.out, B2.out⟩ (H.out.ty.ext XW.out) (H.out.row.ext XW.out) hl hsz Hleg.out.ty (fun x hx => pdB_ty (Hleg.out.ps x hx)) (away_new H.out.ty (by omega)) (fun x hx => away_new (H.out.row.all x hx).ty (by omega)) (fun hn a ha => by
      obtain ⟨b, o, e, hb, -⟩ := H.out.row.row.2 (Nat.pos_of_ne_zero hn)
      rw [e] at ha
      injection ha with ha
      subst ha
      show b ≠ _
      omega))
  clear hs
  unfold tyV at HRen
  go_wp2_with fail
  refine HRen.out.mono ?_
  rintro e w8 ⟨u, v8, ds, rfl, hR, hS, hg8⟩
  obtain ⟨A8, c8, rfl, d1, d2, d3, -⟩ := RowOf.own pdC hR.own
  have HR := hide hR
  have HS8 := hide hS
  have HG8 := hide hg8
  have hs8 := hg8.size
  have BZ := hide ((hg8.block (w.heap.size + 1 + 1) (by omega) (fun e => by injection e with e; omega)).trans B3.out)
  have XG : Hid (Ext w w8) := hide (XW.out.grown hg8 (fun k e => by injection e with e; omega))
  have HDs : Hid (PdsIn w8 A8 ds) := hide ⟨d3, fun d hd => ⟨by
    have hmem : (d.cls, d.ty.pure) ∈ s.preds.map fun x => (x.cls, renP (openF s.n first) x.ty) := by rw [← (opened hR).2]; exact List.mem_map.2 ⟨d, hd, rfl⟩
    obtain ⟨x, hx, ex⟩ := List.mem_map.1 hmem
    injection ex with ex
    rw [← ex]
    exact (H.out.row.all x hx).cls, hR.dty d hd⟩⟩
  clear hR hS hg8 HRen c0 c1 c2 c3 c4 f0 d3
  go_upto_region 4 with fail
  refine wp_named ?_
  intro W9 hW9
  have X9 : Hid (Ext w8 W9) := hide (by rw [hW9]; exact (Ext.refl _).alloc _)
  have B9 : Hid (TBox W9 w8.heap.size u) := hide (by rw [hW9]; exact TBox.new w8 u)
  clear hW9
  have B1 := hide (HS8.out.1.ext X9.out)
  have B2 := hide ((X9.out.heap (lt_of_obj HS8.out.2)).trans HS8.out.2)
  have B3 := hide ((X9.out.heap (lt_of_obj BZ.out)).trans BZ.out)
  obtain ⟨c0, -⟩ := B1.out.cells
  have f0 : W9.cell? ⟨w.heap.size + 1, 0, none⟩ = some (.int .i64 first) := bytes_block B2.out 0
  have hl1 := B1.out.lt
  have hl2 := lt_of_obj B2.out
  have hl3 := lt_of_obj B3.out
  obtain ⟨b0, b1, b2⟩ := And.intro B9.out.c0 (And.intro B9.out.c1 B9.out.c2)
  have hl9 := B9.out.lt
  have k0 := free_block B3.out 0
  have k1 := free_block B3.out 1
  have k2 := free_block B3.out 2
  have j0 := bytes_block B3.out 0
  have j1 := bytes_block B3.out 1
  have j2 := bytes_block B3.out 2
  simp only [List.getElem?_toArray, List.getElem?_cons_zero, List.getElem?_cons_succ] at j0 j1 j2
  obtain ⟨WF, hWF⟩ : ∃ WF, WF = ((W9.setCell ⟨w.heap.size + 1 + 1, 0, none⟩ (encStr u.con)).setCell ⟨w.heap.size + 1 + 1, 1, none⟩ (.int .i64 u.var)).setCell ⟨w.heap.size + 1 + 1, 2, none⟩ (.slice u.A u.args.length u.cap) := ⟨_, rfl⟩
  have hgF : W9.grownBy WF (some (w.heap.size + 1 + 1)) := by rw [hWF]; exact put3_grown _ _ _ _ _ _ _ _
  have XF : Hid (Ext w WF) := hide ((XG.out.trans X9.out).grown hgF (fun k e => by injection e with e; omega))
  have hoF := ((own_extB HR.out.own X9.out).kept hgF (.inr (fun e => by have := (HR.out.own.lt _ e).1; omega)))
  have HOk : Hid (OpnOk WF s first u A8 c8 ds (first + s.n) 0) := hide (by
    obtain ⟨A', c', e1, _, _, e4, _⟩ := RowOf.own pdC hoF
    injection e1 with e1 _ e3
    subst e1
    refine ⟨d1, d2, ((HR.out.ty.ext X9.out).grown hgF (fun c e => by injection e with e; subst e; exact HR.out.away _ (by omega) (away_new H.out.ty (by omega)))), ⟨e4, fun d hd => ⟨(HDs.out.all d hd).cls, (((HR.out.dty d hd).ext X9.out).grown hgF (fun c e => by injection e with e; subst e; exact HR.out.daway d hd _ (by omega) (fun x hx => away_new (H.out.row.all x hx).ty (by omega))))⟩⟩, fun e => ?_, fun _ => ⟨rfl, rfl, opened HR.out⟩⟩
    rw [(leg_scB Hleg.out), decide_eq_true (show (0 : Int) ≤ first by omega), decide_eq_true (show first ≤ 1099511627776 by omega)] at e
    cases e)
  have l0 : WF.cell? ⟨w.heap.size + 1 + 1, 0, none⟩ = some (encStr u.con) := by rw [hWF]; exact put3_c0 B3.out _ _ _
  have l1 : WF.cell? ⟨w.heap.size + 1 + 1, 1, none⟩ = some (.int .i64 u.var) := by rw [hWF]; exact put3_c1 B3.out _ _ _
  have l2 : WF.cell? ⟨w.heap.size + 1 + 1, 2, none⟩ = some (.slice u.A u.args.length u.cap) := by rw [hWF]; exact put3_c2 B3.out _ _ _
  have HWF := hide hWF
  clear hWF hoF hgF
  go_region
  all_goals
    rw [show Value.string { data := List.toArray u.con } = encStr u.con from rfl, ← HWF.out]
    go_wp2
    refine bodyPost_ret (v := .tuple #[.agg #[encStr u.con, .int .i64 u.var, .slice u.A u.args.length u.cap], .slice A8 ds.length c8, .int .i64 (first + s.n), .int .i64 0]) ?_ rfl ⟨⟨u, A8, c8, ds, first + s.n, 0, rfl, HOk.out.ext (Ext.refl WF).drew⟩, XF.out.drew⟩
    simp [results, Tryz.f13, go_sem, l0, l1, l2]

end Go.Proofs.YtmjiljhcjfnfpaaGreat

/- Contracts: a scheme with its own variables by their first places (plain); predicates that are the same. -/
namespace Go.Proofs.YtmjiljhcjfnfpaaGreat
open Go.RowKit Go.Shelf Go.Sort

/-- What plain tells. -/
structure PlnOk (w w' : World) (s sc : Sc) : Prop where
  inn : ScIn w' sc
  n : sc.n = s.n
  ty : sc.ty.pure = renP (numS s) s.ty
  ps : sc.preds.map (fun d => (d.cls, d.ty.pure)) = s.preds.map fun x => (x.cls, renP (numS s) x.ty)
  off : ScOff w s.ty s.preds sc
theorem numbered {s : Sc} {w w' : World} {u : Ty} {ds : List Pd} {v : Value} (h : RenOk w w' (sVars s.ty s.preds) ((sVars s.ty s.preds).map (numS s)) s.ty u s.preds ds v) : u.pure = renP (numS s) s.ty ∧ ds.map (fun d => (d.cls, d.ty.pure)) = s.preds.map fun x => (x.cls, renP (numS s) x.ty) := by
  have hm := sv_mem s.ty s.preds
  have e : ∀ t, (∀ v ∈ t.vars, v ∈ sVars s.ty s.preds) → renP (rOf (sVars s.ty s.preds) ((sVars s.ty s.preds).map (numS s))) t = renP (numS s) t := fun t ht => ren_congr _ _ t fun v hv => rOf_map _ (sVars_nodup _ _) _ (ht v hv)
  refine ⟨by rw [h.is, e _ hm.1], ?_⟩
  rw [h.dis]
  exact List.map_congr_left fun x hx => by rw [e _ (hm.2 x hx)]
/-- A scheme is stored into its box. -/
def putSc (W : World) (b : Nat) (s : Sc) : World := ((((W.setCell ⟨b, 0, none⟩ (.int .i64 s.n)).setCell ⟨b, 1, none⟩ (.slice s.A s.preds.length s.cap)).setCell ⟨b, 2, none⟩ (encStr s.ty.con)).setCell ⟨b, 3, none⟩ (.int .i64 s.ty.var)).setCell ⟨b, 4, none⟩ (.slice s.ty.A s.ty.args.length s.ty.cap)
theorem putSc_grown (W : World) (b : Nat) (s : Sc) : W.grownBy (putSc W b s) (some b) := grown_trans (grown_trans (grown_cell _ _ _ _) (grown_cell _ _ _ _)) (put3_grown _ _ _ _ _ _ _ _)
theorem putSc_box {W : World} {b : Nat} {x0 x1 x2 x3 x4 : Value} (h : W.heap[b]? = some (.cells #[x0, x1, x2, x3, x4] 27 (0, 0))) (s : Sc) : ScBox (putSc W b s) b s := by
  have h1 := blk_setCell h 0 (.int .i64 s.n)
  have h2 := blk_setCell h1 1 (.slice s.A s.preds.length s.cap)
  have h3 := blk_setCell h2 2 (encStr s.ty.con)
  have h4 := blk_setCell h3 3 (.int .i64 s.ty.var)
  have h5 := blk_setCell h4 4 (.slice s.ty.A s.ty.args.length s.ty.cap)
  exact h5
theorem sc0_cells {w : World} {b : Nat} (h : w.heap[b]? = some (.cells #[.int .i64 0, .slice none 0 0, .string ⟨#[]⟩, .int .i64 0, .slice none 0 0] 27 (0, 0))) : w.cell? ⟨b, 0, none⟩ = some (.int .i64 0) ∧ w.cell? ⟨b, 1, none⟩ = some (.slice none 0 0) ∧ w.cell? ⟨b, 2, none⟩ = some (.string ⟨#[]⟩) ∧ w.cell? ⟨b, 3, none⟩ = some (.int .i64 0) ∧ w.cell? ⟨b, 4, none⟩ = some (.slice none 0 0) ∧ w.frozen? ⟨b, 0, none⟩ = false ∧ w.frozen? ⟨b, 1, none⟩ = false ∧ w.frozen? ⟨b, 2, none⟩ = false ∧ w.frozen? ⟨b, 3, none⟩ = false ∧ w.frozen? ⟨b, 4, none⟩ = false ∧ b < w.heap.size :=
  ⟨bytes_block h 0, bytes_block h 1, bytes_block h 2, bytes_block h 3, bytes_block h 4, free_block h 0, free_block h 1, free_block h 2, free_block h 3, free_block h 4, lt_of_obj h⟩

set_option maxRecDepth 10000 in
set_option maxHeartbeats 8000000 in
theorem s_plain (s : Sc) (w : World) (h : ScIn w s) (hs : ScLeg s) (hl : s.preds.length ≤ 40000) (hsz : s.ty.size + psz s.preds ≤ 50000) :
    Calls Tryz.prog 21 #[scV s] w fun e w' => (∃ sc : Sc, e = .returned (scV sc) ∧ PlnOk w w' s sc) ∧ Ext w w' := by
  obtain ⟨W, hW⟩ : ∃ W, W = ((w.alloc (.cells #[.int .i64 s.n, .slice s.A s.preds.length s.cap, encStr s.ty.con, .int .i64 s.ty.var, .slice s.ty.A s.ty.args.length s.ty.cap] 27)).alloc (.cells #[.int .i64 0, .slice none 0 0, .string ⟨#[]⟩, .int .i64 0, .slice none 0 0] 27)).alloc (.cells #[.int .i64 0] 3) := ⟨_, rfl⟩
  have HW := hide hW.symm
  have X0 : Hid (Ext w W) := hide (by rw [hW]; exact (((Ext.refl _).alloc _).alloc _).alloc _)
  have B1 : Hid (ScBox W w.heap.size s) := hide (by rw [hW]; exact (ScBox.new w s).ext (((Ext.refl _).alloc _).alloc _))
  have B2 : Hid (W.heap[w.heap.size + 1]? = some (.cells #[.int .i64 0, .slice none 0 0, .string ⟨#[]⟩, .int .i64 0, .slice none 0 0] 27 (0, 0))) := hide (by rw [hW]; exact (((Ext.refl _).alloc _).heap (by simp)).trans (at_newB _ _ _ (by simp)))
  have B3 : Hid (W.heap[w.heap.size + 1 + 1]? = some (.cells #[.int .i64 0] 3 (0, 0))) := hide (by rw [hW]; exact at_newB _ _ _ (by simp))
  have HsW : Hid (W.heap.size = w.heap.size + 3) := hide (by rw [hW]; simp)
  have hsW := HsW.out
  have H := hide h
  have Hs := hide hs
  have hVl : (sVars s.ty s.preds).length ≤ 50000 := Nat.le_trans (sVars_len _ _) hsz
  have HRen := hide (sc_renamed 47 #[.pointer (some ⟨w.heap.size, 0, none⟩), .pointer (some ⟨w.heap.size + 1 + 1, 0, none⟩)] (w.heap.size + 1 + 1) ((sVars s.ty s.preds).map (numS s)) _ s.ty s.A s.cap s.preds W
    (plain_tells s w.heap.size (w.heap.size + 1 + 1) W.heap.size (by omega) (by omega) (by omega) (by omega)) ⟨B1.out, by rw [List.take_zero]; exact B3.out⟩ (H.out.ty.ext X0.out) (H.out.row.ext X0.out) hl hsz Hs.out.ty (fun x hx => pdB_ty (Hs.out.ps x hx)) (away_new H.out.ty (by omega)) (fun x hx => away_new (H.out.row.all x hx).ty (by omega)) (fun hn a ha => by
      obtain ⟨b, o, e, hb, -⟩ := H.out.row.row.2 (Nat.pos_of_ne_zero hn)
      rw [e] at ha
      injection ha with ha
      subst ha
      show b ≠ _
      omega))
  obtain ⟨c0, c1, c2, c3, c4⟩ := B1.out.cells
  have lb1 := B1.out.lt
  clear hW h hs hsW
  unfold scV at *
  unfold tyV at HRen
  go_enter Tryz.func21, Tryz.ntmps21
  go_upto_region 2 with fail
  rw [HW.out]
  clear HW
  go_wp2_with fail
  refine HRen.out.mono ?_
  rintro e w8 ⟨u, v8, ds, rfl, hR, hS, hg8⟩
  obtain ⟨A8, c8, rfl, d1, d2, d3, -⟩ := RowOf.own pdC hR.own
  have hs8 := hg8.size
  have hsW := HsW.out
  have B18 := hide hS.1
  have B28 := hide ((hg8.block (w.heap.size + 1) (by omega) (fun e => by injection e with e; omega)).trans B2.out)
  have XG : Hid (Ext w w8) := hide (X0.out.grown hg8 (fun k e => by injection e with e; omega))
  have HR := hide hR
  have HG8 := hide hg8
  have HDc : Hid (∀ d ∈ ds, d.cls.length ≤ 1000000000000000000) := hide (fun d hd => by
    have hmem : (d.cls, d.ty.pure) ∈ s.preds.map fun x => (x.cls, renP (numS s) x.ty) := by rw [← (numbered hR).2]; exact List.mem_map.2 ⟨d, hd, rfl⟩
    obtain ⟨x, hx, ex⟩ := List.mem_map.1 hmem
    injection ex with ex
    rw [← ex]
    exact (H.out.row.all x hx).cls)
  obtain ⟨sc, hsc⟩ : ∃ sc : Sc, sc = ⟨s.n, A8, c8, ds, u⟩ := ⟨_, rfl⟩
  clear hR hS hg8 HRen c0 c1 c2 c3 c4 lb1 hsW
  obtain ⟨k0, k1, k2, k3, k4⟩ := B18.out.cells
  have f1 := free_block B18.out 1
  have f2 := free_block B18.out 2
  have f3 := free_block B18.out 3
  have f4 := free_block B18.out 4
  have lk := B18.out.lt
  obtain ⟨W3, hW3⟩ : ∃ W3, W3 = (((w8.setCell ⟨w.heap.size, 2, none⟩ (encStr u.con)).setCell ⟨w.heap.size, 3, none⟩ (.int .i64 u.var)).setCell ⟨w.heap.size, 4, none⟩ (.slice u.A u.args.length u.cap)).setCell ⟨w.heap.size, 1, none⟩ (.slice A8 ds.length c8) := ⟨_, rfl⟩
  have hg3 : w8.grownBy W3 (some w.heap.size) := by rw [hW3]; exact grown_trans (put3_grown _ _ _ _ _ _ _ _) (grown_cell _ _ _ _)
  have BX : Hid (ScBox W3 w.heap.size sc) := hide (by
    rw [hW3, hsc]
    exact blk_setCell (blk_setCell (blk_setCell (blk_setCell B18.out 2 (encStr u.con)) 3 (.int .i64 u.var)) 4 (.slice u.A u.args.length u.cap)) 1 (.slice A8 ds.length c8))
  have B23 : Hid (W3.heap[w.heap.size + 1]? = some (.cells #[.int .i64 0, .slice none 0 0, .string ⟨#[]⟩, .int .i64 0, .slice none 0 0] 27 (0, 0))) := hide ((hg3.block _ (lt_of_obj B28.out) (fun e => by injection e with e; omega)).trans B28.out)
  have X3 : Hid (Ext w W3) := hide (XG.out.grown hg3 (fun k e => by injection e with e; omega))
  obtain ⟨WF, hWF⟩ : ∃ WF, WF = putSc W3 (w.heap.size + 1) sc := ⟨_, rfl⟩
  have hgF : W3.grownBy WF (some (w.heap.size + 1)) := by rw [hWF]; exact putSc_grown _ _ _
  have BF : Hid (ScBox WF (w.heap.size + 1) sc) := hide (by rw [hWF]; exact putSc_box B23.out sc)
  have XF : Hid (Ext w WF) := hide (X3.out.grown hgF (fun k e => by injection e with e; omega))
  have hoF := (HR.out.own.kept hg3 (.inr (fun e => by have := (HR.out.own.lt _ e).1; have := HsW.out; omega))).kept hgF (.inr (fun e => by have := (HR.out.own.lt _ e).1; have := HsW.out; omega))
  have HOk : Hid (PlnOk w WF s sc) := hide (by
    obtain ⟨A', c', e1, _, _, e4, _⟩ := RowOf.own pdC hoF
    injection e1 with e1 _ e3
    subst e1
    have hz := HsW.out
    rw [hsc]
    refine ⟨⟨d1, d2, ⟨e4, fun d hd => ⟨HDc.out d hd, ((HR.out.dty d hd).grown hg3 (fun c e => by injection e with e; subst e; exact HR.out.daway d hd _ (by omega) (fun x hx => away_new (H.out.row.all x hx).ty (by omega)))).grown hgF (fun c e => by injection e with e; subst e; exact HR.out.daway d hd _ (by omega) (fun x hx => away_new (H.out.row.all x hx).ty (by omega)))⟩⟩, (HR.out.ty.grown hg3 (fun c e => by injection e with e; subst e; exact HR.out.away _ (by omega) (away_new H.out.ty (by omega)))).grown hgF (fun c e => by injection e with e; subst e; exact HR.out.away _ (by omega) (away_new H.out.ty (by omega)))⟩, rfl, (numbered HR.out).1, (numbered HR.out).2, ⟨fun c hc h => HR.out.away c (by omega) h, fun d hd c hc h => HR.out.daway d hd c (by omega) h, fun _ a ha => by have := own_blocks HR.out.own a ha; omega⟩⟩)
  have HWF := hide hWF
  have HW3 := hide hW3
  have Hsc := hide hsc
  clear hWF hoF hgF hg3 hW3 d1 d2 d3
  go_upto_region 3 with fail
  rw [← HW3.out]
  clear k0 k1 k2 k3 k4 f1 f2 f3 f4 lk
  obtain ⟨k0, k1, k2, k3, k4⟩ := BX.out.cells
  have lk := BX.out.lt
  obtain ⟨y0, y1, y2, y3, y4, f0, f1, f2, f3, f4, lf⟩ := sc0_cells B23.out
  obtain ⟨j0, j1, j2, j3, j4⟩ := BF.out.cells
  clear hsc
  go_wp2
  have HWF2 : WF = ((((W3.setCell ⟨w.heap.size + 1, 0, none⟩ (.int .i64 sc.n)).setCell ⟨w.heap.size + 1, 1, none⟩ (.slice sc.A sc.preds.length sc.cap)).setCell ⟨w.heap.size + 1, 2, none⟩ (encStr sc.ty.con)).setCell ⟨w.heap.size + 1, 3, none⟩ (.int .i64 sc.ty.var)).setCell ⟨w.heap.size + 1, 4, none⟩ (.slice sc.ty.A sc.ty.args.length sc.ty.cap) := HWF.out
  rw [show Value.string { data := List.toArray sc.ty.con } = encStr sc.ty.con from rfl, ← HWF2]
  refine bodyPost_ret (v := scV sc) ?_ rfl ⟨⟨sc, rfl, HOk.out⟩, XF.out⟩
  simp [results, Tryz.f21, go_sem, scV, j0, j1, j2, j3, j4]

end Go.Proofs.YtmjiljhcjfnfpaaGreat
