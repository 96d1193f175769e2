/- Contracts on slices.Grow from nil, and slices.Concat of two, of texts. -/
import Derived.Test.YtnomibjbjplieaaGreatJC34
import Derived.Lib.AppendZeros
import Derived.WalkSpells
import Derived.WalkLawsBesides
import Derived.RegionTactic
import Derived.Deep.DeepCutAuto
/- Contracts on slices.Grow from nil, and slices.Concat of two, of texts. -/
namespace Go.Proofs.YtnomibjbjplieaaGreat
open Go.RowKit Go.Sort

theorem str_infoB : (Tryz.prog.info? 9).map (fun i => (i.zero, i.size, i.bytes)) = some (some (.string ⟨#[]⟩), 1, 16) := by kernel_rfl




end Go.Proofs.YtnomibjbjplieaaGreat

/- Contracts: the text of a variable, wherever its args would lie; of one predicate of a variable. -/
namespace Go.Proofs.YtnomibjbjplieaaGreat
open Go.RowKit

theorem varU_size (v : Int) (A : Option Addr) (cap : Nat) : (Ty.mk [] v A cap []).size = 1 := by rw [Ty.size_eq]; rfl
theorem varU_legal (v : Int) (A : Option Addr) (cap : Nat) : legalT (Ty.mk [] v A cap []) = true := by
  have h1 := varU_size v A cap
  have h2 : (Ty.mk [] v A cap []).depth = 1 := by rw [Ty.depth_eq]; rfl
  have h3 : shapeT (Ty.mk [] v A cap []) = true := by unfold shapeT; rw [allB_eq]; rfl
  unfold legalT
  rw [h1, h2, h3]
  rfl
set_option maxRecDepth 10000 in
set_option maxHeartbeats 2000000 in
/-- A variable's text. -/
theorem t_textU (v : Int) (A : Option Addr) (cap : Nat) (h0 : -9223372036854775808 ≤ v) (h1 : v ≤ 9223372036854775807) (w : World) : Calls Tryz.prog 80 #[.agg #[.string ⟨#[]⟩, .int .i64 v, .slice A 0 cap]] w fun e w' => e = .returned (encStr (varS v)) ∧ Ext w w' := by
  obtain ⟨W, hW⟩ : ∃ W, W = (w.alloc (.cells #[.string ⟨#[]⟩, .int .i64 v, .slice A 0 cap] 32)).alloc (.cells #[.pointer none, .slice none 0 0] 170) := ⟨_, rfl⟩
  have X0 : Hid (Ext w W) := hide (by rw [hW]; exact ((Ext.refl w).alloc _).alloc _)
  have hsz : W.heap.size = w.heap.size + 2 := by rw [hW]; simp
  have XB : Hid (W.heap[w.heap.size]? = some (.cells #[.string ⟨#[]⟩, .int .i64 v, .slice A 0 cap] 32 (0, 0))) := hide (by rw [hW]; exact ((Ext.refl _).alloc _).heap (by simp) |>.trans (at_newB _ _ _ rfl))
  have BB : Hid (W.heap[w.heap.size + 1]? = some (.cells #[.pointer none, .slice none 0 0] 170 (0, 0))) := hide (by rw [hW]; exact at_newB _ _ _ (by simp))
  have HO := hide (fun w' => t_of (Ty.mk [] v A cap []) w')
  have HN := hide (fun w' => t_name v 0 h0 h1 w')
  unfold headV tyV at HO
  simp only [Ty.con, Ty.var, Ty.A, Ty.cap, Ty.args, List.length_nil, encStr] at HO
  have HL := hide (varS_len h0 h1)
  have HE := hide (varS_ne v)
  generalize varS v = s at *
  have b0 : (w.alloc (.cells #[.string ⟨#[]⟩, .int .i64 v, .slice A 0 cap] 32)).cell? ⟨w.heap.size, 0, none⟩ = some (.string ⟨#[]⟩) := bytes_block (at_newB _ _ _ rfl) 0
  have c0 := bytes_block XB.out 0
  have c1 := bytes_block XB.out 1
  have c2 := bytes_block XB.out 2
  simp only [List.getElem?_toArray, List.getElem?_cons_zero, List.getElem?_cons_succ] at c0 c1 c2
  go_enter Tryz.func80, Tryz.ntmps80
  go_wp2_with fail
  rw [← hW]
  clear b0 hW
  refine (HO.out _).mono ?_
  rintro e w2 ⟨rfl, hx2⟩
  have X2 := hide hx2
  clear hx2
  go_wp2_with fail
  refine (HN.out _).mono ?_
  rintro e w3 ⟨rfl, hx3⟩
  have X3 := hide (X2.out.trans hx3)
  have IB : Lib.IsBuilder 170 5 (w.heap.size + 1) (w.heap.size + 1) [] w3 := .inl ⟨Nat.le_refl _, _, (X3.out.heap (by omega)).trans BB.out, World.ownsRow_nil _ _ _ _, fun e => by cases e⟩
  have hs3 := X3.out.size
  have HW := hide (b_write (w.heap.size + 1) (w.heap.size + 1) [] ⟨s.toArray⟩ w3 IB (by have := HL.out; rw [ba_size]; show 0 + s.length ≤ _; omega) (by omega))
  clear IB hx3
  go_wp2_with fail
  refine HW.out.mono ?_
  rintro e w4 ⟨rfl, hb4, hx4⟩
  rw [List.nil_append, Lib.strCells_eq] at hb4
  have XB4 : Hid (w4.heap[w.heap.size]? = some (.cells #[.string ⟨#[]⟩, .int .i64 v, .slice A 0 cap] 32 (0, 0))) := hide ((hx4.block _ (by omega)).trans ((X3.out.heap (by omega)).trans XB.out))
  have HS := hide (b_string (w.heap.size + 1) (w.heap.size + 1) s w4 (.inr hb4) HE.out)
  have X4 : Hid (Below w.heap.size w w4) := hide ((X0.out.trans X3.out).below.trans (hx4.mono (by omega)))
  clear hb4 hx4 c0 c1 c2
  have c2 := bytes_block XB4.out 2
  simp only [List.getElem?_toArray, List.getElem?_cons_zero, List.getElem?_cons_succ] at c2
  go_wp2
  go_loopw [34] (fun i wr => i = .int .i64 0 ∧ wr = w4) (fun _ _ => 0)
  case atStart => exact ⟨rfl, rfl⟩
  case round =>
    obtain ⟨rfl, rfl⟩ := hrel
    go_wp2_with fail
    refine HS.out.mono ?_
    rintro e w5 ⟨rfl, hx5⟩
    go_wp2
    go_ret
    exact ⟨rfl, Ext.of_below (X4.out.trans (hx5.mono (by omega))) (Nat.le_refl _)⟩

set_option maxRecDepth 10000 in
set_option maxHeartbeats 2000000 in
theorem t_TextU (v : Int) (A : Option Addr) (cap : Nat) (hcap : cap ≤ 9223372036854775807) (h0 : -9223372036854775808 ≤ v) (h1 : v ≤ 9223372036854775807) (w : World) : Calls Tryz.prog 52 #[.agg #[.string ⟨#[]⟩, .int .i64 v, .slice A 0 cap]] w fun e w' => e = .returned (encStr (varS v)) ∧ Ext w w' := by
  have X0 : Hid (Ext w (w.alloc (.cells #[.string ⟨#[]⟩, .int .i64 v, .slice A 0 cap] 32))) := hide ((Ext.refl w).alloc _)
  have HB : Hid (∀ w', Ext (w.alloc (.cells #[.string ⟨#[]⟩, .int .i64 v, .slice A 0 cap] 32)) w' → w'.cell? ⟨w.heap.size, 0, none⟩ = some (.string ⟨#[]⟩) ∧ w'.cell? ⟨w.heap.size, 1, none⟩ = some (.int .i64 v) ∧ w'.cell? ⟨w.heap.size, 2, none⟩ = some (.slice A 0 cap)) := hide (fun w' e => ⟨e.cell (bytes_block (at_newB _ _ _ rfl) 0), e.cell (bytes_block (at_newB _ _ _ rfl) 1), e.cell (bytes_block (at_newB _ _ _ rfl) 2)⟩)
  obtain ⟨c0, c1, c2⟩ := HB.out _ (Ext.refl _)
  have HL := hide (fun w' => t_legal (Ty.mk [] v A cap []) w' (TyIn.of (Nat.zero_le _) hcap (by decide) (RowOf.nil _ _ _) (by simp)) (by rw [varU_size v A cap]; omega))
  have HT := hide (fun w' => t_textU v A cap h0 h1 w')
  rw [varU_legal] at HL
  unfold tyV at HL
  simp only [Ty.con, Ty.var, Ty.A, Ty.cap, Ty.args, List.length_nil, encStr] at HL
  go_enter Tryz.func52, Tryz.ntmps52
  go_wp2_with fail
  refine (HL.out _).mono ?_
  rintro e w2 ⟨rfl, hx2⟩
  have X2 := hide hx2
  obtain ⟨d0, d1, d2⟩ := HB.out _ X2.out
  clear hx2 c0 c1 c2
  go_wp2_with fail
  refine (HT.out _).mono ?_
  rintro e w3 ⟨rfl, hx3⟩
  go_wp2
  go_ret
  exact ⟨rfl, X0.out.trans (X2.out.trans hx3)⟩

/-- The text of one predicate of a variable. -/
def oneS (c : Str) (v : Int) : Str := c ++ ([32] : Str) ++ varS v

set_option maxRecDepth 10000 in
set_option maxHeartbeats 2000000 in
theorem p_one (c : Str) (v : Int) (A : Option Addr) (cap : Nat) (w : World) (hc : c.length ≤ 1000000000000000000) (hcap : cap ≤ 9223372036854775807) (h0 : -9223372036854775808 ≤ v) (h1 : v ≤ 9223372036854775807) :
    Calls Tryz.prog 82 #[.agg #[encStr c, .string ⟨#[]⟩, .int .i64 v, .slice A 0 cap]] w fun e w' => e = .returned (encStr (oneS c v)) ∧ Ext w w' := by
  have X0 : Hid (Ext w (w.alloc (.cells #[encStr c, .string ⟨#[]⟩, .int .i64 v, .slice A 0 cap] 69))) := hide ((Ext.refl w).alloc _)
  have HB := hide (PdBox.new w ⟨c, Ty.mk [] v A cap []⟩)
  have hbl : w.heap.size < (w.alloc (.cells #[encStr c, .string ⟨#[]⟩, .int .i64 v, .slice A 0 cap] 69)).heap.size := by simp
  obtain ⟨c0, c1, c2, c3⟩ := HB.out.cells
  have HT := hide (fun w' => t_TextU v A cap hcap h0 h1 w')
  have HC := hide (fun w' (e : Ext (w.alloc (.cells #[encStr c, .string ⟨#[]⟩, .int .i64 v, .slice A 0 cap] 69)) w') => (HB.out.ext e).cells)
  simp only [Ty.con, Ty.var, Ty.A, Ty.cap, Ty.args, List.length_nil] at c0 c1 c2 c3 HC
  have HL := hide (varS_len h0 h1)
  have HS : Hid (oneS c v = c ++ ([32] : Str) ++ varS v) := hide rfl
  generalize oneS c v = R at *
  generalize varS v = s at *
  have hl := HL.out
  have hs1 : ¬ ((⟨c.toArray⟩ : ByteArray).size + (⟨[(32 : UInt8)].toArray⟩ : ByteArray).size > 9223372036854775807) := by rw [ba_size, ba_size]; simp; omega
  have e1 := ByteArray.mk_append_mk c [(32 : UInt8)]
  have hs2 : ¬ ((⟨(c ++ [32]).toArray⟩ : ByteArray).size + (⟨s.toArray⟩ : ByteArray).size > 9223372036854775807) := by rw [ba_size, ba_size]; simp; omega
  have e2 := ByteArray.mk_append_mk (c ++ [32]) s
  go_enter Tryz.func82, Tryz.ntmps82
  go_wp2_with fail
  refine (HT.out _).mono ?_
  rintro e w2 ⟨rfl, hx2⟩
  have X2 := hide hx2
  obtain ⟨d0, d1, d2, d3⟩ := HC.out _ hx2
  have hbl2 := Nat.lt_of_lt_of_le hbl hx2.size
  clear hx2 c0 c1 c2 c3
  go_wp2
  go_ret
  exact ⟨by rw [HS.out, List.append_assoc]; rfl, X0.out.trans X2.out⟩

theorem s_joinC (g o cap : Nat) (s sep : Str) (w : World) (h : w.cell? ⟨g, o, none⟩ = some (encStr s)) : Calls Tryz.prog 83 #[.slice (some ⟨g, o, none⟩) 1 cap, encStr sep] w fun e w' => e = .returned (encStr s) ∧ w' = w := by
  go_enter Tryz.func83, Tryz.ntmps83
  go_wp2
  go_ret
  exact ⟨rfl, rfl⟩

set_option maxRecDepth 10000 in
set_option maxHeartbeats 4000000 in
theorem p_text1 (c : Str) (v : Int) (A : Option Addr) (cap : Nat) (B : Option Addr) (bc : Nat) (w : World) (hp : pdB ⟨c, .mk [] v A cap []⟩ = true) (h : PdsIn w B [⟨c, .mk [] v A cap []⟩]) (h0 : -9223372036854775808 ≤ v) (h1 : v ≤ 9223372036854775807) :
    Calls Tryz.prog 53 #[.slice B 1 bc] w fun e w' => e = .returned (encStr (oneS c v)) ∧ Ext w w' := by
  obtain ⟨i1, hj, hy0, hy1, hy2⟩ := info_parts str_infoB
  obtain ⟨b, o, e0, hb, q0, q1, q2, q3⟩ := h.at_ (i := 0) (by simp)
  subst e0
  have hpd := h.all ⟨c, .mk [] v A cap []⟩ (by simp)
  have hcap : cap ≤ 9223372036854775807 := hpd.ty.max
  have hc : c.length ≤ 1000000000000000000 := hpd.cls
  simp only [List.getElem_cons_zero, Ty.con, Ty.var, Ty.A, Ty.cap, Ty.args, List.length_nil, Nat.zero_mul, Nat.add_zero] at q0 q1 q2 q3
  obtain ⟨W, hW⟩ : ∃ W, W = w.alloc (.cells #[encStr c, .string ⟨#[]⟩, .int .i64 v, .slice A 0 cap] 69) := ⟨_, rfl⟩
  have HW := hide hW.symm
  have X0 : Hid (Ext w W) := hide (by rw [hW]; exact (Ext.refl _).alloc _)
  have HB : Hid (PdBox W w.heap.size ⟨c, .mk [] v A cap []⟩) := hide (by rw [hW]; exact at_newB _ _ _ rfl)
  have HL := hide (p_legal ⟨c, .mk [] v A cap []⟩ W (hpd.ext X0.out) (by rw [varU_size]; omega))
  rw [hp] at HL
  have HO := hide (fun w' => p_one c v A cap w' hc hcap h0 h1)
  have HC := hide (fun w' (e : Ext W w') => (HB.out.ext e).cells)
  simp only [Ty.con, Ty.var, Ty.A, Ty.cap, Ty.args, List.length_nil, pdV] at HC HL
  have hbl := HB.out.lt
  obtain ⟨d0, d1, d2, d3⟩ := HC.out W (Ext.refl _)
  generalize oneS c v = s at *
  clear hW hpd h hp
  have hbb : b < w.heap.size := hb
  go_enter Tryz.func53, Tryz.ntmps53
  go_wp2
  go_loopw [3, 9] (fun u i wr => (i = .int .i64 0 ∧ u = .slice none 0 0 ∧ wr = w) ∨ (i = .int .i64 1 ∧ ∃ g o1 c1, u = .slice (some ⟨g, o1, none⟩) 1 c1 ∧ Hid (Ext w wr) ∧ wr.cell? ⟨g, o1, none⟩ = some (encStr s) ∧ 1 ≤ c1 ∧ c1 ≤ 9223372036854775807 ∧ g < wr.heap.size)) (fun _ i _ => 1 - (intOf i).toNat)
  case atStart => exact .inl ⟨rfl, rfl, rfl⟩
  case round =>
    rcases hrel with ⟨rfl, rfl, rfl⟩ | ⟨rfl, g, o1, c1, rfl, HX, hg, hg1, hg2, hg3⟩
    · have h01 : (0 : Int) < 1 := by omega
      go_upto_region 5 with fail
      rw [HW.out]
      go_wp2_with fail
      refine HL.out.mono ?_
      rintro e w2 ⟨rfl, hx2⟩
      have X2 := hide hx2
      obtain ⟨d0, d1, d2, d3⟩ := HC.out w2 hx2
      have hb2 := Nat.lt_of_lt_of_le hbl hx2.size
      go_wp2_with fail
      refine (HO.out w2).mono ?_
      rintro e w3 ⟨rfl, hx3⟩
      have X3 := hide (X0.out.trans (X2.out.trans hx3))
      have O0 : w3.ownsRow wr.heap.size 9 1 (.slice none 0 0) 0 [] := World.ownsRow_nil _ _ _ _
      go_wp2_with (at_builtin; refine wpList_append_row _ rfl _ _ 61 rfl wr.heap.size 9 i1 _ 1 16 Tryz.underlying61 hj hy0 hy1 hy2 rfl (by decide) (.slice none 0 0) 0 [] rfl (O0.alloc _) _ 1 1 [encStr s] rfl ?c2 ?c3 ?c4 ?c5 ?c6 ?_)
      case c2 => exact Row.boxI _ (at_newB _ _ _ (by simp))
      case c3 => first | rfl | (intro y hy; simp at hy; subst hy; rfl)
      case c4 => unfold maxLen; omega
      case c5 => omega
      case c6 => have := X3.out.size; simp; omega
      intro v4 w4 hown4 hg4 _
      have X4 := hide (Ext.app (X3.out.alloc _) hg4 (O0.alloc _) (Nat.le_refl _))
      obtain ⟨A4, c4, rfl, h4, h5, h6, -⟩ := RowOf.own strC (l := [s]) (by simpa [strC] using hown4)
      obtain ⟨g, o1, e4, hgl, hq⟩ := RowOf.at_ strC h6 (i := 0) (by simp)
      subst e4
      have hq0 := hq 0 (by decide)
      have hq1 : w4.cell? ⟨g, o1, none⟩ = some (encStr s) := by simpa [strC] using hq0
      have h4' : 1 ≤ c4 := h4
      clear hown4 hg4 hq hq0 h6 hx2 hx3
      simp only [List.length_cons, List.length_nil, Nat.zero_add]
      go_wp2
      go_roundw
      case rel => exact .inr ⟨by go_num, g, o1, c4, rfl, X4, hq1, h4', h5, hgl⟩
      case measure => simp [intOf]
    · have h11 : ¬ (1 : Int) < 1 := by omega
      have HJ := hide (s_joinC g o1 c1 s [44, 32] wr hg)
      go_wp2_with fail
      refine HJ.out.mono ?_
      rintro e w3 ⟨rfl, rfl⟩
      go_wp2
      go_ret
      exact ⟨rfl, HX.out⟩

/-- A scheme of one predicate of a variable, and a variable. -/
def sc1 (n : Int) (B : Option Addr) (bc : Nat) (c : Str) (v : Int) (A : Option Addr) (cap : Nat) (u : Int) (A2 : Option Addr) (cap2 : Nat) : Sc := ⟨n, B, bc, [⟨c, .mk [] v A cap []⟩], .mk [] u A2 cap2 []⟩

set_option maxRecDepth 10000 in
set_option maxHeartbeats 4000000 in
theorem sc_text1 (n : Int) (B : Option Addr) (bc : Nat) (c : Str) (v : Int) (A : Option Addr) (cap : Nat) (u : Int) (A2 : Option Addr) (cap2 : Nat) (w : World) (h : ScIn w (sc1 n B bc c v A cap u A2 cap2)) (hs : scB (sc1 n B bc c v A cap u A2 cap2) = true) (hp : pdB ⟨c, .mk [] v A cap []⟩ = true)
    (h0 : -9223372036854775808 ≤ v) (h1 : v ≤ 9223372036854775807) (h2 : -9223372036854775808 ≤ u) (h3 : u ≤ 9223372036854775807) :
    Calls Tryz.prog 25 #[scV (sc1 n B bc c v A cap u A2 cap2)] w fun e w' => e = .returned (encStr (oneS c v ++ ([32, 61, 62, 32] : Str) ++ varS u)) ∧ Ext w w' := by
  have hc2 : cap2 ≤ 9223372036854775807 := h.ty.max
  have hcl : c.length ≤ 1000000000000000000 := (h.row.all ⟨c, .mk [] v A cap []⟩ (by simp [sc1])).cls
  obtain ⟨W, hW⟩ : ∃ W, W = w.alloc (.cells #[.int .i64 n, .slice B 1 bc, .string ⟨#[]⟩, .int .i64 u, .slice A2 0 cap2] 39) := ⟨_, rfl⟩
  have HW := hide hW.symm
  have X0 : Hid (Ext w W) := hide (by rw [hW]; exact (Ext.refl _).alloc _)
  have HB : Hid (ScBox W w.heap.size (sc1 n B bc c v A cap u A2 cap2)) := hide (by rw [hW]; exact at_newB _ _ _ rfl)
  have hpz : psz (sc1 n B bc c v A cap u A2 cap2).preds = 1 := by unfold psz sc1; simp [varU_size]
  have hts : (sc1 n B bc c v A cap u A2 cap2).ty.size = 1 := varU_size u A2 cap2
  have HL := hide (s_legal (sc1 n B bc c v A cap u A2 cap2) W (h.ext X0.out) (by simp [sc1]) (by omega))
  rw [hs] at HL
  have HPs : Hid (PdsIn w B [⟨c, .mk [] v A cap []⟩]) := hide h.row
  have HP := hide (fun w' (e : Ext w w') => p_text1 c v A cap B bc w' hp (HPs.out.ext e) h0 h1)
  have HT := hide (fun w' => t_TextU u A2 cap2 hc2 h2 h3 w')
  have HC := hide (fun w' (e : Ext W w') => (HB.out.ext e).cells)
  unfold scV at *
  simp only [sc1, Ty.con, Ty.var, Ty.A, Ty.cap, Ty.args, List.length_nil, List.length_cons, Nat.zero_add] at HC HL ⊢
  have hbl := HB.out.lt
  have hl1 := varS_len h0 h1
  have hl2 := varS_len h2 h3
  have HS : Hid ((oneS c v).length ≤ c.length + 40) := hide (by unfold oneS; simp; omega)
  generalize oneS c v = s at *
  generalize varS u = r at *
  have hsl := HS.out
  have hs1 : ¬ ((⟨s.toArray⟩ : ByteArray).size + (⟨[(32 : UInt8), 61, 62, 32].toArray⟩ : ByteArray).size > 9223372036854775807) := by rw [ba_size, ba_size]; simp; omega
  have e1 := ByteArray.mk_append_mk s [(32 : UInt8), 61, 62, 32]
  have hs2 : ¬ ((⟨(s ++ [32, 61, 62, 32]).toArray⟩ : ByteArray).size + (⟨r.toArray⟩ : ByteArray).size > 9223372036854775807) := by rw [ba_size, ba_size]; simp; omega
  have e2 := ByteArray.mk_append_mk (s ++ [32, 61, 62, 32]) r
  obtain ⟨d0, d1, d2, d3, d4⟩ := HC.out W (Ext.refl _)
  clear hW h hs hp HB hpz hts hl1
  go_enter Tryz.func25, Tryz.ntmps25
  go_upto_region 1 with fail
  rw [HW.out]
  clear HW
  go_wp2_with fail
  refine HL.out.mono ?_
  rintro e w2 ⟨rfl, hx2⟩
  have X2 := hide hx2
  obtain ⟨d0, d1, d2, d3, d4⟩ := HC.out w2 hx2
  have hb2 := Nat.lt_of_lt_of_le hbl hx2.size
  clear hx2 HL
  go_upto_region 5 with fail
  go_wp2
  have hS0 := (HC.out w2.drew (X2.out.trans (Ext.refl _).drew)).2
  refine but_startN 8 9 #[false, false, false, false, false, false, false, false, false] (fun w' => w'.cell? ⟨w.heap.size, 1, none⟩ = some (.slice B 1 bc) ∧ w'.cell? ⟨w.heap.size, 2, none⟩ = some (encStr []) ∧ w'.cell? ⟨w.heap.size, 3, none⟩ = some (.int .i64 u) ∧ w'.cell? ⟨w.heap.size, 4, none⟩ = some (.slice A2 0 cap2)) (by kernel_rfl) (by kernel_rfl) (by kernel_rfl) ?_
  (refine but_takeL (i := 0) (v := ?_) rfl (by kernel_rfl) (by kernel_rfl) (by kernel_rfl) (by kernel_rfl) (fun _ _ _ h => h) (Or.inl ⟨by kernel_rfl, ?_⟩) (by assumption) ?_; rotate_left 1; (focus (intro w hSw; (try dsimp only at hSw); (try obtain ⟨g1, g2, g3⟩ := hSw); (try obtain ⟨g1, g2⟩ := hSw); go_simp; try with_reducible rfl)); simp only [Act.put, List.setIfInBounds_toArray, List.set_cons_zero, List.set_cons_succ])
  (refine but_takeL (i := 1) (v := ?_) rfl (by kernel_rfl) (by kernel_rfl) (by kernel_rfl) (by kernel_rfl) (fun _ _ _ h => h) (Or.inl ⟨by kernel_rfl, ?_⟩) (by assumption) ?_; rotate_left 1; (focus (intro w hSw; (try dsimp only at hSw); (try obtain ⟨g1, g2, g3⟩ := hSw); (try obtain ⟨g1, g2⟩ := hSw); go_simp; try with_reducible rfl)); simp only [Act.put, List.setIfInBounds_toArray, List.set_cons_zero, List.set_cons_succ])
  (refine but_takeL (i := 4) (v := ?_) rfl (by kernel_rfl) (by kernel_rfl) (by kernel_rfl) (by kernel_rfl) (fun _ _ _ h => h) (Or.inl ⟨by kernel_rfl, ?_⟩) (by assumption) ?_; rotate_left 1; (focus (intro w hSw; (try dsimp only at hSw); (try obtain ⟨g1, g2, g3⟩ := hSw); (try obtain ⟨g1, g2⟩ := hSw); go_simp; try with_reducible rfl)); simp only [Act.put, List.setIfInBounds_toArray, List.set_cons_zero, List.set_cons_succ])
  (refine but_takeL (i := 5) (v := ?_) rfl (by kernel_rfl) (by kernel_rfl) (by kernel_rfl) (by kernel_rfl) (fun _ _ _ h => h) (Or.inl ⟨by kernel_rfl, ?_⟩) (by assumption) ?_; rotate_left 1; (focus (intro w hSw; (try dsimp only at hSw); (try obtain ⟨g1, g2, g3⟩ := hSw); (try obtain ⟨g1, g2⟩ := hSw); go_simp; try with_reducible rfl)); simp only [Act.put, List.setIfInBounds_toArray, List.set_cons_zero, List.set_cons_succ])
  refine but_step (i := 2) (by kernel_rfl) rfl (fun KK hK => ?_)
  go_simp
  refine Calls.mono (HP.out _ ((X0.out.trans X2.out).trans (Ext.refl _).drew)) ?_
  rintro e y1 ⟨rfl, x1⟩
  have f1 : Ext w2 y1 := by (refine Ext.trans ?_ x1; exact (by repeat (first | exact Ext.refl _ | exact Ext.pre (by simp) | exact Ext.alloc (by assumption) _ | refine Ext.alloc ?_ _ |  refine Ext.more ?_ _ _ | refine Ext.drew ?_ | refine Ext.drewN ?_ _)))
  have hS1 := (HC.out y1 (X2.out.trans f1)).2
  refine hK.out _ _ (fun _ => hS1) ?_
  clear hK KK hS0
  simp only [List.setIfInBounds_toArray, List.set_cons_zero, List.set_cons_succ]
  refine but_takeL (i := 3) (v := .string ⟨(s ++ [32, 61, 62, 32]).toArray⟩) rfl (by kernel_rfl) (by kernel_rfl) (by kernel_rfl) (by kernel_rfl) (fun _ _ _ h => h) (Or.inl ⟨by kernel_rfl, ?_⟩) (by assumption) ?_
  · intro w' hSw
    go_simp
    omega
  simp only [Act.put, List.setIfInBounds_toArray, List.set_cons_zero, List.set_cons_succ]
  refine but_step (i := 6) (by kernel_rfl) rfl (fun KK hK => ?_)
  go_simp
  refine Calls.mono (HT.out _) ?_
  rintro e y2 ⟨rfl, x2⟩
  have f2 : Ext y1 y2 := by (refine Ext.trans ?_ x2; exact (by repeat (first | exact Ext.refl _ | exact Ext.pre (by simp) | exact Ext.alloc (by assumption) _ | refine Ext.alloc ?_ _ |  refine Ext.more ?_ _ _ | refine Ext.drew ?_ | refine Ext.drewN ?_ _)))
  have hS2 := (HC.out y2 (X2.out.trans (f1.trans f2))).2
  refine hK.out _ _ (fun _ => hS2) ?_
  clear hK KK hS1
  simp only [List.setIfInBounds_toArray, List.set_cons_zero, List.set_cons_succ]
  refine but_takeL (i := 7) (v := .string ⟨(s ++ [32, 61, 62, 32] ++ r).toArray⟩) rfl (by kernel_rfl) (by kernel_rfl) (by kernel_rfl) (by kernel_rfl) (fun _ _ _ h => h) (Or.inl ⟨by kernel_rfl, ?_⟩) (by assumption) ?_
  · intro w' hSw
    go_simp
    omega
  simp only [Act.put, List.setIfInBounds_toArray, List.set_cons_zero, List.set_cons_succ]
  refine but_step (i := 8) (by kernel_rfl) rfl (fun KK hK => ?_)
  go_simp
  refine hK.out _ _ (fun h => absurd rfl h) ?_
  clear hK KK
  try simp only [Act.put]
  refine but_done (by kernel_rfl) ?_ _
  go_wp2
  go_ret
  exact ⟨by rw [List.append_assoc]; rfl, X0.out.trans (X2.out.trans (f1.trans f2))⟩

end Go.Proofs.YtnomibjbjplieaaGreat

/- The values of chapter 33's example: plain facts. -/
namespace Go.Proofs.YtnomibjbjplieaaGreat
open Go.RowKit

/-- What chapter 33's example declares. -/
def exEn (b0 b1 b2 b3 b4 b5 b6 b7 : Nat) : EnD :=
  ⟨some ⟨b0, 0, none⟩, 1, [⟨[77], 1, some ⟨b1, 0, none⟩, 1, [⟨[74], some ⟨b2, 0, none⟩, 1, [Ty.zero]⟩]⟩],
   some ⟨b3, 0, none⟩, 2, [⟨[69, 113], none, 0, [], none, 0, []⟩, ⟨[79, 114, 100], some ⟨b4, 0, none⟩, 1, [[69, 113]], some ⟨b5, 0, none⟩, 1, [⟨[108, 116], 0, Ty.zero⟩]⟩],
   some ⟨b6, 0, none⟩, 1, [⟨[69, 113], [77], 1, some ⟨b7, 0, none⟩, 1, [⟨[79, 114, 100], Ty.zero⟩]⟩]⟩
section
variable (b0 b1 b2 b3 b4 b5 b6 b7 : Nat)
theorem exEn_con : conF [74] (exEn b0 b1 b2 b3 b4 b5 b6 b7).datas = some (⟨[77], 1, some ⟨b1, 0, none⟩, 1, [⟨[74], some ⟨b2, 0, none⟩, 1, [Ty.zero]⟩]⟩, 0) := by kernel_rfl
theorem exEn_field : fieldF (exEn b0 b1 b2 b3 b4 b5 b6 b7).classes [79, 114, 100] 0 = some ([], dictP [69, 113] Ty.zero.pure) := by kernel_rfl
theorem exEn_meth : methF [108, 116] 0 (exEn b0 b1 b2 b3 b4 b5 b6 b7).classes = some (1, 0) := by kernel_rfl
theorem exEn_inst : instF (exEn b0 b1 b2 b3 b4 b5 b6 b7).insts 0 = some ⟨[69, 113], [77], 1, some ⟨b7, 0, none⟩, 1, [⟨[79, 114, 100], Ty.zero⟩]⟩ := by kernel_rfl
theorem exEn_fields : fieldsN (exEn b0 b1 b2 b3 b4 b5 b6 b7).classes [79, 114, 100] = 2 := by kernel_rfl
theorem exEn_none : fieldsN (exEn b0 b1 b2 b3 b4 b5 b6 b7).classes [88] = -1 := by kernel_rfl
end
/-- Where it lies. -/
structure ExIn (W : World) (b0 b1 b2 b3 b4 b5 b6 b7 : Nat) : Prop where
  d0 : W.heap[b0]? = some (.cells #[.string ⟨#[77]⟩, .int .i64 1, .slice (some ⟨b1, 0, none⟩) 1 1] 55 (0, 0))
  d1 : W.heap[b1]? = some (.cells #[.string ⟨#[74]⟩, .slice (some ⟨b2, 0, none⟩) 1 1] 57 (0, 0))
  d2 : W.heap[b2]? = some (.cells #[.string ⟨#[]⟩, .int .i64 0, .slice none 0 0] 32 (0, 0))
  d3 : W.heap[b3]? = some (.cells #[.string ⟨#[69, 113]⟩, .slice none 0 0, .slice none 0 0, .string ⟨#[79, 114, 100]⟩, .slice (some ⟨b4, 0, none⟩) 1 1, .slice (some ⟨b5, 0, none⟩) 1 1] 64 (0, 0))
  d4 : W.heap[b4]? = some (.cells #[.string ⟨#[69, 113]⟩] 9 (0, 0))
  d5 : W.heap[b5]? = some (.cells #[.string ⟨#[108, 116]⟩, .int .i64 0, .string ⟨#[]⟩, .int .i64 0, .slice none 0 0] 66 (0, 0))
  d6 : W.heap[b6]? = some (.cells #[.string ⟨#[69, 113]⟩, .string ⟨#[77]⟩, .int .i64 1, .slice (some ⟨b7, 0, none⟩) 1 1] 71 (0, 0))
  d7 : W.heap[b7]? = some (.cells #[.string ⟨#[79, 114, 100]⟩, .string ⟨#[]⟩, .int .i64 0, .slice none 0 0] 69 (0, 0))
theorem ExIn.in_ {W : World} {b0 b1 b2 b3 b4 b5 b6 b7 : Nat} (h : ExIn W b0 b1 b2 b3 b4 b5 b6 b7) : EnIn W (exEn b0 b1 b2 b3 b4 b5 b6 b7) := by
  have o1 : ∀ {α : Type} {P : α → Prop} {x : α}, P x → ∀ y ∈ [x], P y := fun h y hy => by simp at hy; subst hy; exact h
  have hT : TysIn W (some ⟨b2, 0, none⟩) [Ty.zero] := ⟨RowOf.block tyC [Ty.zero] h.d2, o1 (TyIn.zero _)⟩
  have hC : CosIn W (some ⟨b1, 0, none⟩) [⟨[74], some ⟨b2, 0, none⟩, 1, [Ty.zero]⟩] := ⟨RowOf.block coC [⟨[74], some ⟨b2, 0, none⟩, 1, [Ty.zero]⟩] h.d1, o1 ⟨by show 1 ≤ 1000000000000000000; omega, Nat.le_refl _, by show 1 ≤ 9223372036854775807; omega, hT⟩⟩
  have hD : DasIn W (some ⟨b0, 0, none⟩) (exEn b0 b1 b2 b3 b4 b5 b6 b7).datas := ⟨RowOf.block daC (exEn b0 b1 b2 b3 b4 b5 b6 b7).datas h.d0, o1 ⟨by show 1 ≤ 1000000000000000000; omega, Nat.le_refl _, by show 1 ≤ 9223372036854775807; omega, hC⟩⟩
  have hM : MesIn W (some ⟨b5, 0, none⟩) [⟨[108, 116], 0, Ty.zero⟩] := ⟨RowOf.block meC [⟨[108, 116], 0, Ty.zero⟩] h.d5, o1 ⟨by show 2 ≤ 1000000000000000000; omega, TyIn.zero _⟩⟩
  have hS : Strs W (some ⟨b4, 0, none⟩) [[69, 113]] := strs_iff.2 (RowOf.block strC [[69, 113]] h.d4)
  have hK : KlsIn W (some ⟨b3, 0, none⟩) (exEn b0 b1 b2 b3 b4 b5 b6 b7).classes := ⟨RowOf.block klC (exEn b0 b1 b2 b3 b4 b5 b6 b7).classes h.d3, fun x hx => by
    simp only [exEn, List.mem_cons, List.not_mem_nil, or_false] at hx
    rcases hx with rfl | rfl
    · exact ⟨by show 2 ≤ 1000000000000000000; omega, Nat.le_refl _, by show 0 ≤ 9223372036854775807; omega, strs_iff.2 (RowOf.nil _ _ _), by simp, Nat.le_refl _, by show 0 ≤ 9223372036854775807; omega, MesIn.nil _ _⟩
    · exact ⟨by show 3 ≤ 1000000000000000000; omega, Nat.le_refl _, by show 1 ≤ 9223372036854775807; omega, hS, o1 (by show 2 ≤ 1000000000000000000; omega), Nat.le_refl _, by show 1 ≤ 9223372036854775807; omega, hM⟩⟩
  have hP : PdsIn W (some ⟨b7, 0, none⟩) [⟨[79, 114, 100], Ty.zero⟩] := ⟨RowOf.block pdC [⟨[79, 114, 100], Ty.zero⟩] h.d7, o1 ⟨by show 3 ≤ 1000000000000000000; omega, TyIn.zero _⟩⟩
  have hI : InsIn W (some ⟨b6, 0, none⟩) (exEn b0 b1 b2 b3 b4 b5 b6 b7).insts := ⟨RowOf.block inC (exEn b0 b1 b2 b3 b4 b5 b6 b7).insts h.d6, o1 ⟨by show 2 ≤ 1000000000000000000; omega, by show 1 ≤ 1000000000000000000; omega, Nat.le_refl _, by show 1 ≤ 9223372036854775807; omega, hP⟩⟩
  exact ⟨Nat.le_refl _, by show 1 ≤ 9223372036854775807; omega, hD, Nat.le_refl _, by show 2 ≤ 9223372036854775807; omega, hK, Nat.le_refl _, by show 1 ≤ 9223372036854775807; omega, hI⟩
theorem exEn_da (b0 b1 b2 b3 b4 b5 b6 b7 : Nat) : ∀ d ∈ (exEn b0 b1 b2 b3 b4 b5 b6 b7).datas, DaFew d := by
  intro d hd
  simp only [exEn, List.mem_cons, List.not_mem_nil, or_false] at hd
  subst hd
  refine ⟨by show (1 : Int) ≤ 100; omega, by show 1 ≤ 30; omega, fun c hc => ?_⟩
  simp only [List.mem_cons, List.not_mem_nil, or_false] at hc
  subst hc
  exact ⟨by show 1 ≤ 30; omega, by show Ty.zero.size + 0 ≤ 20000; rw [zero_size]; omega⟩
theorem exEn_kl (b0 b1 b2 b3 b4 b5 b6 b7 : Nat) : ∀ c ∈ (exEn b0 b1 b2 b3 b4 b5 b6 b7).classes, KlFew c := by
  intro d hd
  simp only [exEn, List.mem_cons, List.not_mem_nil, or_false] at hd
  rcases hd with rfl | rfl
  · exact ⟨Nat.zero_le _, Nat.zero_le _, by simp⟩
  · refine ⟨by show 1 ≤ 100000; omega, by show 1 ≤ 100000; omega, fun m hm => ?_⟩
    simp only [List.mem_cons, List.not_mem_nil, or_false] at hm
    subst hm
    exact ⟨by show (0 : Int) ≤ 100; omega, by show Ty.zero.size ≤ 20000; rw [zero_size]; omega⟩
theorem exEn_pr (b0 b1 b2 b3 b4 b5 b6 b7 : Nat) : ∀ c ∈ (exEn b0 b1 b2 b3 b4 b5 b6 b7).insts, c.preds.length ≤ 1000 := by
  intro d hd
  simp only [exEn, List.mem_cons, List.not_mem_nil, or_false] at hd
  subst hd
  show 1 ≤ 1000
  omega
theorem ex_prim : primTo [108, 116, 73, 110, 116] = some [66, 111, 111, 108] := by kernel_rfl

/-- What is known of a class at a variable. -/
def exF (A : Option Addr) (c : Nat) (A1 : Option Addr) (c1 : Nat) : Ty := .mk [123, 69, 113, 125] 0 A c [.mk [] 0 A1 c1 []]
theorem exF_of {t : Ty} (h : t.pure = dictP [69, 113] Ty.zero.pure) : ∃ A c A1 c1, t = exF A c A1 c1 := by
  rw [zero_pure] at h
  obtain ⟨A, c, a, rfl, ha⟩ := inv1 (s := [123, 69, 113, 125]) (v := 0) h
  obtain ⟨A1, c1, rfl⟩ := inv0 ha
  exact ⟨A, c, A1, c1, rfl⟩
def exC (A : Option Addr) (c : Nat) (A1 : Option Addr) (c1 : Nat) (A2 : Option Addr) (c2 : Nat) (A3 : Option Addr) (c3 : Nat) : Ty := .mk [45, 62] 0 A c [.mk [] 0 A1 c1 [], .mk [77] 0 A2 c2 [.mk [] 0 A3 c3 []]]
theorem exC_of {t : Ty} (h : t.pure = funP [Ty.zero] (ofP [77] 1)) : ∃ A c A1 c1 A2 c2 A3 c3, t = exC A c A1 c1 A2 c2 A3 c3 := by
  have h : t.pure = .mk [45, 62] 0 [.mk [] 0 [], .mk [77] 0 [.mk [] 0 []]] := h.trans (by show Ty.Pure.mk [45, 62] 0 [Ty.zero.pure, _] = _; rw [zero_pure]; rfl)
  obtain ⟨A, c, a, b, rfl, ha, hb⟩ := inv2 h
  obtain ⟨A1, c1, rfl⟩ := inv0 ha
  obtain ⟨A2, c2, d, rfl, hd⟩ := inv1 hb
  obtain ⟨A3, c3, rfl⟩ := inv0 hd
  exact ⟨A, c, A1, c1, A2, c2, A3, c3, rfl⟩
def exP (A : Option Addr) (c : Nat) (A1 : Option Addr) (c1 : Nat) (A2 : Option Addr) (c2 : Nat) (A3 : Option Addr) (c3 : Nat) (A4 : Option Addr) (c4 : Nat) : Ty := .mk [45, 62] 0 A c [.mk [73, 110, 116] 0 A1 c1 [], .mk [45, 62] 0 A2 c2 [.mk [73, 110, 116] 0 A3 c3 [], .mk [66, 111, 111, 108] 0 A4 c4 []]]
theorem exP_of {t : Ty} (h : t.pure = funP [conT [73, 110, 116], conT [73, 110, 116]] (conT [66, 111, 111, 108]).pure) : ∃ A c A1 c1 A2 c2 A3 c3 A4 c4, t = exP A c A1 c1 A2 c2 A3 c3 A4 c4 := by
  have e : ∀ s, (conT s).pure = .mk s 0 [] := fun s => by rw [Ty.pure_eq]; rfl
  have h : t.pure = .mk [45, 62] 0 [.mk [73, 110, 116] 0 [], .mk [45, 62] 0 [.mk [73, 110, 116] 0 [], .mk [66, 111, 111, 108] 0 []]] := h.trans (by show Ty.Pure.mk [45, 62] 0 [(conT [73, 110, 116]).pure, Ty.Pure.mk [45, 62] 0 [(conT [73, 110, 116]).pure, (conT [66, 111, 111, 108]).pure]] = _; rw [e, e])
  obtain ⟨A, c, a, b, rfl, ha, hb⟩ := inv2 h
  obtain ⟨A1, c1, rfl⟩ := inv0 ha
  obtain ⟨A2, c2, d, f, rfl, hd, hf⟩ := inv2 hb
  obtain ⟨A3, c3, rfl⟩ := inv0 hd
  obtain ⟨A4, c4, rfl⟩ := inv0 hf
  exact ⟨A, c, A1, c1, A2, c2, A3, c3, A4, c4, rfl⟩
def exI (A : Option Addr) (c : Nat) (A1 : Option Addr) (c1 : Nat) (A2 : Option Addr) (c2 : Nat) (A3 : Option Addr) (c3 : Nat) (A4 : Option Addr) (c4 : Nat) (A5 : Option Addr) (c5 : Nat) : Ty :=
  .mk [45, 62] 0 A c [.mk [123, 79, 114, 100, 125] 0 A1 c1 [.mk [] 0 A2 c2 []], .mk [123, 69, 113, 125] 0 A3 c3 [.mk [77] 0 A4 c4 [.mk [] 0 A5 c5 []]]]
theorem exI_of {t : Ty} {B : Option Addr} {k : Nat} (h : t.pure = instTy ⟨[69, 113], [77], 1, B, k, [⟨[79, 114, 100], Ty.zero⟩]⟩) : ∃ A c A1 c1 A2 c2 A3 c3 A4 c4 A5 c5, t = exI A c A1 c1 A2 c2 A3 c3 A4 c4 A5 c5 := by
  have h : t.pure = .mk [45, 62] 0 [.mk [123, 79, 114, 100, 125] 0 [.mk [] 0 []], .mk [123, 69, 113, 125] 0 [.mk [77] 0 [.mk [] 0 []]]] := h.trans (by show Ty.Pure.mk [45, 62] 0 [Ty.Pure.mk [123, 79, 114, 100, 125] 0 [Ty.zero.pure], _] = _; rw [zero_pure]; rfl)
  obtain ⟨A, c, a, b, rfl, ha, hb⟩ := inv2 h
  obtain ⟨A1, c1, d, rfl, hd⟩ := inv1 ha
  obtain ⟨A2, c2, rfl⟩ := inv0 hd
  obtain ⟨A3, c3, f, rfl, hf⟩ := inv1 hb
  obtain ⟨A4, c4, g, rfl, hg⟩ := inv1 hf
  obtain ⟨A5, c5, rfl⟩ := inv0 hg
  exact ⟨A, c, A1, c1, A2, c2, A3, c3, A4, c4, A5, c5, rfl⟩

/-- What the example asks of a type for all of some variables. -/
structure ExT (p : Po) (s : Str) : Prop where
  ok : okI p.ty = true
  sz : p.ty.size ≤ 20000
  text : polyS p = s
theorem exF_t {p : Po} (hv : p.vars = []) (ht : p.ty.pure = dictP [69, 113] Ty.zero.pure) : ExT p [123, 69, 113, 125, 32, 97] := by
  obtain ⟨A, c, A1, c1, e⟩ := exF_of ht
  refine ⟨by rw [e]; kernel_rfl, by rw [e]; show 2 ≤ 20000; omega, ?_⟩
  unfold polyS
  rw [e, hv, show legalD (exF A c A1 c1) = true by kernel_rfl, if_pos rfl, if_pos rfl]
  kernel_rfl
theorem exC_t {p : Po} (hv : p.vars = [0]) (ht : p.ty.pure = funP [Ty.zero] (ofP [77] 1)) : ExT p [102, 111, 114, 97, 108, 108, 32, 97, 46, 32, 97, 32, 45, 62, 32, 77, 32, 97] := by
  obtain ⟨A, c, A1, c1, A2, c2, A3, c3, e⟩ := exC_of ht
  refine ⟨by rw [e]; kernel_rfl, by rw [e]; show 4 ≤ 20000; omega, ?_⟩
  unfold polyS
  rw [e, hv, show legalD (exC A c A1 c1 A2 c2 A3 c3) = true by kernel_rfl, if_pos rfl, if_neg (by decide)]
  kernel_rfl
theorem exP_t {p : Po} (hv : p.vars = []) (ht : p.ty.pure = funP [conT [73, 110, 116], conT [73, 110, 116]] (conT [66, 111, 111, 108]).pure) : ExT p [73, 110, 116, 32, 45, 62, 32, 73, 110, 116, 32, 45, 62, 32, 66, 111, 111, 108] := by
  obtain ⟨A, c, A1, c1, A2, c2, A3, c3, A4, c4, e⟩ := exP_of ht
  refine ⟨by rw [e]; kernel_rfl, by rw [e]; show 5 ≤ 20000; omega, ?_⟩
  unfold polyS
  rw [e, hv, show legalD (exP A c A1 c1 A2 c2 A3 c3 A4 c4) = true by kernel_rfl, if_pos rfl, if_pos rfl]
  kernel_rfl
theorem exI_t {p : Po} {B : Option Addr} {k : Nat} (hv : p.vars = [0]) (ht : p.ty.pure = instTy ⟨[69, 113], [77], 1, B, k, [⟨[79, 114, 100], Ty.zero⟩]⟩) : ExT p [102, 111, 114, 97, 108, 108, 32, 97, 46, 32, 123, 79, 114, 100, 125, 32, 97, 32, 45, 62, 32, 123, 69, 113, 125, 32, 40, 77, 32, 97, 41] := by
  obtain ⟨A, c, A1, c1, A2, c2, A3, c3, A4, c4, A5, c5, e⟩ := exI_of ht
  refine ⟨by rw [e]; kernel_rfl, by rw [e]; show 6 ≤ 20000; omega, ?_⟩
  unfold polyS
  rw [e, hv, show legalD (exI A c A1 c1 A2 c2 A3 c3 A4 c4 A5 c5) = true by kernel_rfl, if_pos rfl, if_neg (by decide)]
  kernel_rfl

theorem exM_of {W : World} {b0 b1 b2 b3 b4 b5 b6 b7 : Nat} {nm : Str} {ix : Int} {sc : Sc} (h : MethOk W (exEn b0 b1 b2 b3 b4 b5 b6 b7).classes (some (1, 0)) nm ix sc) :
    nm = [79, 114, 100] ∧ ix = 1 ∧ ∃ B bc A cap A2 cap2, sc = sc1 1 B bc [79, 114, 100] 0 A cap 0 A2 cap2 := by
  obtain ⟨c, m, hc, hm, e1, e2, hcl⟩ := h.yes 1 0 rfl
  have hc' : some (⟨[79, 114, 100], some ⟨b4, 0, none⟩, 1, [[69, 113]], some ⟨b5, 0, none⟩, 1, [⟨[108, 116], 0, Ty.zero⟩]⟩ : KlD) = some c := hc
  injection hc' with hc'
  subst hc'
  have hm' : some (⟨[108, 116], 0, Ty.zero⟩ : MeD) = some m := hm
  injection hm' with hm'
  subst hm'
  refine ⟨e1, e2, ?_⟩
  have hl : (legalT Ty.zero && ([⟨[79, 114, 100], Ty.zero⟩] : List Pd).all pdB) = true := by kernel_rfl
  have n1 := hcl.n hl
  have t1 := hcl.ty hl
  have p1 := hcl.ps hl
  have e3 : closeN [] (sVars Ty.zero [⟨[79, 114, 100], Ty.zero⟩]) = 1 := by kernel_rfl
  have e4 : renP (rOf (sVars Ty.zero [⟨[79, 114, 100], Ty.zero⟩]) (closeGo [] 0 (sVars Ty.zero [⟨[79, 114, 100], Ty.zero⟩]))) Ty.zero = .mk [] 0 [] := by kernel_rfl
  have n1 : sc.n = (closeN [] (sVars Ty.zero [⟨[79, 114, 100], Ty.zero⟩]) : Nat) := n1
  have t1 : sc.ty.pure = renP (rOf (sVars Ty.zero [⟨[79, 114, 100], Ty.zero⟩]) (closeGo [] 0 (sVars Ty.zero [⟨[79, 114, 100], Ty.zero⟩]))) Ty.zero := t1
  have p1 : sc.preds.map (fun d => (d.cls, d.ty.pure)) = [([79, 114, 100], renP (rOf (sVars Ty.zero [⟨[79, 114, 100], Ty.zero⟩]) (closeGo [] 0 (sVars Ty.zero [⟨[79, 114, 100], Ty.zero⟩]))) Ty.zero)] := p1
  rw [e3] at n1
  rw [e4] at t1 p1
  obtain ⟨n, B, bc, ps, ty⟩ := sc
  simp only [] at n1 t1 p1
  obtain ⟨A2, c2, rfl⟩ := inv0 t1
  match ps, p1 with
  | [], p1 => cases p1
  | _ :: _ :: _, p1 => simp at p1
  | [⟨cl, y⟩], p1 =>
    simp only [List.map_cons, List.map_nil, List.cons.injEq, Prod.mk.injEq, and_true] at p1
    obtain ⟨rfl, h2⟩ := p1
    obtain ⟨A, c1, rfl⟩ := inv0 h2
    subst n1
    exact ⟨B, bc, A, c1, A2, c2, rfl⟩
theorem ex_sc (B : Option Addr) (bc : Nat) (A : Option Addr) (c1 : Nat) (A2 : Option Addr) (c2 : Nat) : scB (sc1 1 B bc [79, 114, 100] 0 A c1 0 A2 c2) = true := by kernel_rfl
theorem ex_pd33 (A : Option Addr) (c1 : Nat) : pdB ⟨[79, 114, 100], .mk [] 0 A c1 []⟩ = true := by kernel_rfl

end Go.Proofs.YtnomibjbjplieaaGreat

/- Contract: chapter 33's example. (A program of ours has printed this.) -/
namespace Go.Proofs.YtnomibjbjplieaaGreat
open Go.RowKit

theorem okV_0 : okV [0] := fun v hv => by simp at hv; subst hv; omega
theorem okV_nil : okV [] := fun v hv => by cases hv

def TdBox (w : World) (b : Nat) (nm : Str) (p : Po) : Prop := w.heap[b]? = some (.cells #[encStr nm, .slice p.A p.vars.length p.cap, encStr p.ty.con, .int .i64 p.ty.var, .slice p.ty.A p.ty.args.length p.ty.cap] 43 (0, 0))
theorem TdBox.lt {w : World} {b : Nat} {nm : Str} {p : Po} (h : TdBox w b nm p) : b < w.heap.size := lt_of_obj h
theorem TdBox.ext {w w' : World} {b : Nat} {nm : Str} {p : Po} (h : TdBox w b nm p) (e : Ext w w') : TdBox w' b nm p := (e.heap h.lt).trans h
theorem TdBox.cells {w : World} {b : Nat} {nm : Str} {p : Po} (h : TdBox w b nm p) : w.cell? ⟨b, 0, none⟩ = some (encStr nm) ∧ w.cell? ⟨b, 1, none⟩ = some (.slice p.A p.vars.length p.cap) ∧ w.cell? ⟨b, 2, none⟩ = some (encStr p.ty.con) ∧ w.cell? ⟨b, 3, none⟩ = some (.int .i64 p.ty.var) ∧ w.cell? ⟨b, 4, none⟩ = some (.slice p.ty.A p.ty.args.length p.ty.cap) := ⟨bytes_block h 0, bytes_block h 1, bytes_block h 2, bytes_block h 3, bytes_block h 4⟩

set_option maxRecDepth 10000 in
set_option maxHeartbeats 2000000 in
theorem l_awake33 (w : World) : Calls Tryz.prog 6 #[] w fun e w' => e = .returned (.bool true) ∧ Ext w w' := by
  obtain ⟨W, hW⟩ : ∃ W, W = (((((((((w.alloc (.cells #[.string ⟨#[]⟩, .int .i64 0, .slice none 0 0] 32)).alloc (.cells #[.string ⟨#[74]⟩, .slice (some ⟨w.heap.size, 0, none⟩) 1 1] 57)).alloc (.cells #[.string ⟨#[77]⟩, .int .i64 1, .slice (some ⟨w.heap.size + 1, 0, none⟩) 1 1] 55)).alloc (.cells #[.string ⟨#[69, 113]⟩] 9)).alloc (.cells #[.string ⟨#[108, 116]⟩, .int .i64 0, .string ⟨#[]⟩, .int .i64 0, .slice none 0 0] 66)).alloc (.cells #[.string ⟨#[69, 113]⟩, .slice none 0 0, .slice none 0 0, .string ⟨#[79, 114, 100]⟩, .slice (some ⟨w.heap.size + 1 + 1 + 1, 0, none⟩) 1 1, .slice (some ⟨w.heap.size + 1 + 1 + 1 + 1, 0, none⟩) 1 1] 64)).alloc (.cells #[.string ⟨#[79, 114, 100]⟩, .string ⟨#[]⟩, .int .i64 0, .slice none 0 0] 69)).alloc (.cells #[.string ⟨#[69, 113]⟩, .string ⟨#[77]⟩, .int .i64 1, .slice (some ⟨w.heap.size + 1 + 1 + 1 + 1 + 1 + 1, 0, none⟩) 1 1] 71)).alloc (.cells #[.slice (some ⟨w.heap.size + 1 + 1, 0, none⟩) 1 1, .slice (some ⟨w.heap.size + 1 + 1 + 1 + 1 + 1, 0, none⟩) 2 2, .slice (some ⟨w.heap.size + 1 + 1 + 1 + 1 + 1 + 1 + 1, 0, none⟩) 1 1] 26)) := ⟨_, rfl⟩
  have HW := hide hW.symm
  have X0 : Hid (Ext w W) := hide (by rw [hW]; exact ((((((((((Ext.refl _).alloc _).alloc _).alloc _).alloc _).alloc _).alloc _).alloc _).alloc _).alloc _))
  have b0 : W.heap[w.heap.size]? = some (.cells #[.string ⟨#[]⟩, .int .i64 0, .slice none 0 0] 32 (0, 0)) := by rw [hW]; exact (Ext.heap (((((((((Ext.refl _).alloc _).alloc _).alloc _).alloc _).alloc _).alloc _).alloc _).alloc _) (by simp)).trans (at_newB _ _ _ (by simp))
  have b1 : W.heap[w.heap.size + 1]? = some (.cells #[.string ⟨#[74]⟩, .slice (some ⟨w.heap.size, 0, none⟩) 1 1] 57 (0, 0)) := by rw [hW]; exact (Ext.heap ((((((((Ext.refl _).alloc _).alloc _).alloc _).alloc _).alloc _).alloc _).alloc _) (by simp)).trans (at_newB _ _ _ (by simp))
  have b2 : W.heap[w.heap.size + 1 + 1]? = some (.cells #[.string ⟨#[77]⟩, .int .i64 1, .slice (some ⟨w.heap.size + 1, 0, none⟩) 1 1] 55 (0, 0)) := by rw [hW]; exact (Ext.heap (((((((Ext.refl _).alloc _).alloc _).alloc _).alloc _).alloc _).alloc _) (by simp)).trans (at_newB _ _ _ (by simp))
  have b3 : W.heap[w.heap.size + 1 + 1 + 1]? = some (.cells #[.string ⟨#[69, 113]⟩] 9 (0, 0)) := by rw [hW]; exact (Ext.heap ((((((Ext.refl _).alloc _).alloc _).alloc _).alloc _).alloc _) (by simp)).trans (at_newB _ _ _ (by simp))
  have b4 : W.heap[w.heap.size + 1 + 1 + 1 + 1]? = some (.cells #[.string ⟨#[108, 116]⟩, .int .i64 0, .string ⟨#[]⟩, .int .i64 0, .slice none 0 0] 66 (0, 0)) := by rw [hW]; exact (Ext.heap (((((Ext.refl _).alloc _).alloc _).alloc _).alloc _) (by simp)).trans (at_newB _ _ _ (by simp))
  have b5 : W.heap[w.heap.size + 1 + 1 + 1 + 1 + 1]? = some (.cells #[.string ⟨#[69, 113]⟩, .slice none 0 0, .slice none 0 0, .string ⟨#[79, 114, 100]⟩, .slice (some ⟨w.heap.size + 1 + 1 + 1, 0, none⟩) 1 1, .slice (some ⟨w.heap.size + 1 + 1 + 1 + 1, 0, none⟩) 1 1] 64 (0, 0)) := by rw [hW]; exact (Ext.heap ((((Ext.refl _).alloc _).alloc _).alloc _) (by simp)).trans (at_newB _ _ _ (by simp))
  have b6 : W.heap[w.heap.size + 1 + 1 + 1 + 1 + 1 + 1]? = some (.cells #[.string ⟨#[79, 114, 100]⟩, .string ⟨#[]⟩, .int .i64 0, .slice none 0 0] 69 (0, 0)) := by rw [hW]; exact (Ext.heap (((Ext.refl _).alloc _).alloc _) (by simp)).trans (at_newB _ _ _ (by simp))
  have b7 : W.heap[w.heap.size + 1 + 1 + 1 + 1 + 1 + 1 + 1]? = some (.cells #[.string ⟨#[69, 113]⟩, .string ⟨#[77]⟩, .int .i64 1, .slice (some ⟨w.heap.size + 1 + 1 + 1 + 1 + 1 + 1, 0, none⟩) 1 1] 71 (0, 0)) := by rw [hW]; exact (Ext.heap ((Ext.refl _).alloc _) (by simp)).trans (at_newB _ _ _ (by simp))
  have b8 : W.heap[w.heap.size + 1 + 1 + 1 + 1 + 1 + 1 + 1 + 1]? = some (.cells #[.slice (some ⟨w.heap.size + 1 + 1, 0, none⟩) 1 1, .slice (some ⟨w.heap.size + 1 + 1 + 1 + 1 + 1, 0, none⟩) 2 2, .slice (some ⟨w.heap.size + 1 + 1 + 1 + 1 + 1 + 1 + 1, 0, none⟩) 1 1] 26 (0, 0)) := by rw [hW]; exact at_newB _ _ _ (by simp)
  have HIn : Hid (EnIn W (exEn (w.heap.size + 1 + 1) (w.heap.size + 1) (w.heap.size) (w.heap.size + 1 + 1 + 1 + 1 + 1) (w.heap.size + 1 + 1 + 1) (w.heap.size + 1 + 1 + 1 + 1) (w.heap.size + 1 + 1 + 1 + 1 + 1 + 1 + 1) (w.heap.size + 1 + 1 + 1 + 1 + 1 + 1))) := hide (ExIn.in_ ⟨b2, b1, b0, b5, b3, b4, b7, b6⟩)
  have HE := hide b8
  clear b0 b1 b2 b3 b4 b5 b6 b7 b8 hW
  have HE0 : Hid (∀ w', Ext W w' → w'.cell? ⟨w.heap.size + 1 + 1 + 1 + 1 + 1 + 1 + 1 + 1, 0, none⟩ = some (.slice (some ⟨w.heap.size + 1 + 1, 0, none⟩) 1 1) ∧ w'.cell? ⟨w.heap.size + 1 + 1 + 1 + 1 + 1 + 1 + 1 + 1, 1, none⟩ = some (.slice (some ⟨w.heap.size + 1 + 1 + 1 + 1 + 1, 0, none⟩) 2 2) ∧ w'.cell? ⟨w.heap.size + 1 + 1 + 1 + 1 + 1 + 1 + 1 + 1, 2, none⟩ = some (.slice (some ⟨w.heap.size + 1 + 1 + 1 + 1 + 1 + 1 + 1, 0, none⟩) 1 1) ∧ w.heap.size + 1 + 1 + 1 + 1 + 1 + 1 + 1 + 1 < w'.heap.size) := hide (fun w' e => by
    have h := (e.heap (lt_of_obj HE.out)).trans HE.out
    exact ⟨bytes_block h 0, bytes_block h 1, bytes_block h 2, lt_of_obj h⟩)
  have HF := hide (fun w' (e : Ext W w') => hide (f_field (exEn (w.heap.size + 1 + 1) (w.heap.size + 1) (w.heap.size) (w.heap.size + 1 + 1 + 1 + 1 + 1) (w.heap.size + 1 + 1 + 1) (w.heap.size + 1 + 1 + 1 + 1) (w.heap.size + 1 + 1 + 1 + 1 + 1 + 1 + 1) (w.heap.size + 1 + 1 + 1 + 1 + 1 + 1)) [79, 114, 100] 0 w' (HIn.out.ext e) (exEn_kl _ _ _ _ _ _ _ _) (by omega) (by omega)))
  simp only [exEn_field, Option.isSome_some] at HF
  have HC := hide (fun w' (e : Ext W w') => hide (f_con (exEn (w.heap.size + 1 + 1) (w.heap.size + 1) (w.heap.size) (w.heap.size + 1 + 1 + 1 + 1 + 1) (w.heap.size + 1 + 1 + 1) (w.heap.size + 1 + 1 + 1 + 1) (w.heap.size + 1 + 1 + 1 + 1 + 1 + 1 + 1) (w.heap.size + 1 + 1 + 1 + 1 + 1 + 1)) [74] w' (HIn.out.ext e) (exEn_da _ _ _ _ _ _ _ _)))
  simp only [exEn_con, Option.isSome_some] at HC
  have HP := hide (fun w' (e : Ext W w') => hide (f_prim [108, 116, 73, 110, 116] w'))
  simp only [ex_prim, Option.isSome_some] at HP
  have HM := hide (fun w' (e : Ext W w') => hide (f_method (exEn (w.heap.size + 1 + 1) (w.heap.size + 1) (w.heap.size) (w.heap.size + 1 + 1 + 1 + 1 + 1) (w.heap.size + 1 + 1 + 1) (w.heap.size + 1 + 1 + 1 + 1) (w.heap.size + 1 + 1 + 1 + 1 + 1 + 1 + 1) (w.heap.size + 1 + 1 + 1 + 1 + 1 + 1)) [108, 116] w' (HIn.out.ext e) (exEn_kl _ _ _ _ _ _ _ _)))
  simp only [exEn_meth, Option.isSome_some] at HM
  have HI := hide (fun w' (e : Ext W w') => hide (f_inst (exEn (w.heap.size + 1 + 1) (w.heap.size + 1) (w.heap.size) (w.heap.size + 1 + 1 + 1 + 1 + 1) (w.heap.size + 1 + 1 + 1) (w.heap.size + 1 + 1 + 1 + 1) (w.heap.size + 1 + 1 + 1 + 1 + 1 + 1 + 1) (w.heap.size + 1 + 1 + 1 + 1 + 1 + 1)) 0 w' (HIn.out.ext e) (exEn_pr _ _ _ _ _ _ _ _)))
  simp only [exEn_inst, Option.isSome_some] at HI
  have HN := hide (fun w' (e : Ext W w') => hide (f_fields (exEn (w.heap.size + 1 + 1) (w.heap.size + 1) (w.heap.size) (w.heap.size + 1 + 1 + 1 + 1 + 1) (w.heap.size + 1 + 1 + 1) (w.heap.size + 1 + 1 + 1 + 1) (w.heap.size + 1 + 1 + 1 + 1 + 1 + 1 + 1) (w.heap.size + 1 + 1 + 1 + 1 + 1 + 1)) [79, 114, 100] w' (HIn.out.ext e) (fun c hc => ⟨(exEn_kl _ _ _ _ _ _ _ _ c hc).1, (exEn_kl _ _ _ _ _ _ _ _ c hc).2.1⟩)))
  simp only [exEn_fields] at HN
  have HO := hide (fun w' (e : Ext W w') => hide (f_fields (exEn (w.heap.size + 1 + 1) (w.heap.size + 1) (w.heap.size) (w.heap.size + 1 + 1 + 1 + 1 + 1) (w.heap.size + 1 + 1 + 1) (w.heap.size + 1 + 1 + 1 + 1) (w.heap.size + 1 + 1 + 1 + 1 + 1 + 1 + 1) (w.heap.size + 1 + 1 + 1 + 1 + 1 + 1)) [88] w' (HIn.out.ext e) (fun c hc => ⟨(exEn_kl _ _ _ _ _ _ _ _ c hc).1, (exEn_kl _ _ _ _ _ _ _ _ c hc).2.1⟩)))
  simp only [exEn_none] at HO
  have HQ := hide (fun w' (e : Ext W w') => hide (f_name [67] [84] w' (by decide) (by decide)))
  rw [show nameS [67] [84] = [64, 67, 64, 84] from by decide] at HQ
  unfold enV at HF HC HM HI HN HO
  unfold poV at HF HC HP
  unfold scV at HM
  have hexD : (exEn (w.heap.size + 1 + 1) (w.heap.size + 1) (w.heap.size) (w.heap.size + 1 + 1 + 1 + 1 + 1) (w.heap.size + 1 + 1 + 1) (w.heap.size + 1 + 1 + 1 + 1) (w.heap.size + 1 + 1 + 1 + 1 + 1 + 1 + 1) (w.heap.size + 1 + 1 + 1 + 1 + 1 + 1)).D = some ⟨w.heap.size + 1 + 1, 0, none⟩ := rfl
  have hexC : (exEn (w.heap.size + 1 + 1) (w.heap.size + 1) (w.heap.size) (w.heap.size + 1 + 1 + 1 + 1 + 1) (w.heap.size + 1 + 1 + 1) (w.heap.size + 1 + 1 + 1 + 1) (w.heap.size + 1 + 1 + 1 + 1 + 1 + 1 + 1) (w.heap.size + 1 + 1 + 1 + 1 + 1 + 1)).C = some ⟨w.heap.size + 1 + 1 + 1 + 1 + 1, 0, none⟩ := rfl
  have hexI : (exEn (w.heap.size + 1 + 1) (w.heap.size + 1) (w.heap.size) (w.heap.size + 1 + 1 + 1 + 1 + 1) (w.heap.size + 1 + 1 + 1) (w.heap.size + 1 + 1 + 1 + 1) (w.heap.size + 1 + 1 + 1 + 1 + 1 + 1 + 1) (w.heap.size + 1 + 1 + 1 + 1 + 1 + 1)).I = some ⟨w.heap.size + 1 + 1 + 1 + 1 + 1 + 1 + 1, 0, none⟩ := rfl
  have hex1 : (exEn (w.heap.size + 1 + 1) (w.heap.size + 1) (w.heap.size) (w.heap.size + 1 + 1 + 1 + 1 + 1) (w.heap.size + 1 + 1 + 1) (w.heap.size + 1 + 1 + 1 + 1) (w.heap.size + 1 + 1 + 1 + 1 + 1 + 1 + 1) (w.heap.size + 1 + 1 + 1 + 1 + 1 + 1)).datas.length = 1 := rfl
  have hex2 : (exEn (w.heap.size + 1 + 1) (w.heap.size + 1) (w.heap.size) (w.heap.size + 1 + 1 + 1 + 1 + 1) (w.heap.size + 1 + 1 + 1) (w.heap.size + 1 + 1 + 1 + 1) (w.heap.size + 1 + 1 + 1 + 1 + 1 + 1 + 1) (w.heap.size + 1 + 1 + 1 + 1 + 1 + 1)).classes.length = 2 := rfl
  have hex3 : (exEn (w.heap.size + 1 + 1) (w.heap.size + 1) (w.heap.size) (w.heap.size + 1 + 1 + 1 + 1 + 1) (w.heap.size + 1 + 1 + 1) (w.heap.size + 1 + 1 + 1 + 1) (w.heap.size + 1 + 1 + 1 + 1 + 1 + 1 + 1) (w.heap.size + 1 + 1 + 1 + 1 + 1 + 1)).insts.length = 1 := rfl
  have hex4 : (exEn (w.heap.size + 1 + 1) (w.heap.size + 1) (w.heap.size) (w.heap.size + 1 + 1 + 1 + 1 + 1) (w.heap.size + 1 + 1 + 1) (w.heap.size + 1 + 1 + 1 + 1) (w.heap.size + 1 + 1 + 1 + 1 + 1 + 1 + 1) (w.heap.size + 1 + 1 + 1 + 1 + 1 + 1)).dc = 1 := rfl
  have hex5 : (exEn (w.heap.size + 1 + 1) (w.heap.size + 1) (w.heap.size) (w.heap.size + 1 + 1 + 1 + 1 + 1) (w.heap.size + 1 + 1 + 1) (w.heap.size + 1 + 1 + 1 + 1) (w.heap.size + 1 + 1 + 1 + 1 + 1 + 1 + 1) (w.heap.size + 1 + 1 + 1 + 1 + 1 + 1)).cc = 2 := rfl
  have hex6 : (exEn (w.heap.size + 1 + 1) (w.heap.size + 1) (w.heap.size) (w.heap.size + 1 + 1 + 1 + 1 + 1) (w.heap.size + 1 + 1 + 1) (w.heap.size + 1 + 1 + 1 + 1) (w.heap.size + 1 + 1 + 1 + 1 + 1 + 1 + 1) (w.heap.size + 1 + 1 + 1 + 1 + 1 + 1)).ic = 1 := rfl
  simp only [hexD, hexC, hexI, hex1, hex2, hex3, hex4, hex5, hex6, encStr] at HF HC HM HI HN HO
  simp only [encStr] at HP HQ
  clear hexD hexC hexI hex1 hex2 hex3 hex4 hex5 hex6
  go_enter Tryz.func6, Tryz.ntmps6
  go_upto_region 2 with fail
  rw [HW.out]
  clear HW
  obtain ⟨a0, a1, a2, hE0⟩ := HE0.out W (Ext.refl _)
  go_wp2_with fail
  refine (HF.out _ (Ext.refl W)).out.mono ?_
  rintro e v1 ⟨⟨p, rfl, hp⟩, hx⟩
  have Y1 : Hid (Ext W v1) := hide ((Ext.refl W).trans hx)
  have Hpi := hide hp.po
  have Hpv : Hid (p.vars = []) := hide (hp.vars.trans (by kernel_rfl))
  have Hpt : Hid (ExT p _) := hide (exF_t Hpv.out (hp.ty.trans (by kernel_rfl)))
  have Hpw := hide (Ext.refl v1)
  obtain ⟨W1, hW1⟩ : ∃ W', W' = v1.alloc (.cells #[.slice p.A p.vars.length p.cap, encStr p.ty.con, .int .i64 p.ty.var, .slice p.ty.A p.ty.args.length p.ty.cap] 34) := ⟨_, rfl⟩
  have Hpx : Hid (Ext v1 W1) := hide (by rw [hW1]; exact (Ext.refl _).alloc _)
  have Hpb : Hid (PBox W1 v1.heap.size p) := hide (by rw [hW1]; exact PBox.new v1 p)
  have Z1 : Hid (Ext W W1) := hide (Y1.out.trans Hpx.out)
  clear hx hp
  go_upto_region 3 with fail
  rw [← hW1]
  clear hW1
  clear a0 a1 a2 hE0
  obtain ⟨a0, a1, a2, hE0⟩ := HE0.out _ Z1.out
  go_wp2_with fail
  refine (HC.out _ Z1.out).out.mono ?_
  rintro e v2 ⟨⟨q, rfl, hq⟩, hx⟩
  have X12 := hide hx
  have Y2 : Hid (Ext W v2) := hide (Z1.out.trans hx)
  have Hqi := hide hq.po
  have Hqv : Hid (q.vars = [0]) := hide (hq.vars.trans (by kernel_rfl))
  have Hqt : Hid (ExT q _) := hide (exC_t Hqv.out (hq.ty.trans (by kernel_rfl)))
  have Hqw := hide (Ext.refl v2)
  obtain ⟨W2, hW2⟩ : ∃ W', W' = v2.alloc (.cells #[.slice q.A q.vars.length q.cap, encStr q.ty.con, .int .i64 q.ty.var, .slice q.ty.A q.ty.args.length q.ty.cap] 34) := ⟨_, rfl⟩
  have Hqx : Hid (Ext v2 W2) := hide (by rw [hW2]; exact (Ext.refl _).alloc _)
  have Hqb : Hid (PBox W2 v2.heap.size q) := hide (by rw [hW2]; exact PBox.new v2 q)
  have Z2 : Hid (Ext W W2) := hide (Y2.out.trans Hqx.out)
  clear hx hq
  go_upto_region 4 with fail
  rw [← hW2]
  clear hW2
  clear a0 a1 a2 hE0
  obtain ⟨a0, a1, a2, hE0⟩ := HE0.out _ Z2.out
  go_wp2_with fail
  refine (HP.out _ Z2.out).out.mono ?_
  rintro e v3 ⟨⟨r, rfl, hr⟩, hx⟩
  have X23 := hide hx
  have Y3 : Hid (Ext W v3) := hide (Z2.out.trans hx)
  have Hri := hide hr.po
  have Hrv : Hid (r.vars = []) := hide (hr.vars.trans (by kernel_rfl))
  have Hrt : Hid (ExT r _) := hide (exP_t Hrv.out (hr.ty.trans (by kernel_rfl)))
  have Hrw := hide (Ext.refl v3)
  obtain ⟨W3, hW3⟩ : ∃ W', W' = v3.alloc (.cells #[.slice r.A r.vars.length r.cap, encStr r.ty.con, .int .i64 r.ty.var, .slice r.ty.A r.ty.args.length r.ty.cap] 34) := ⟨_, rfl⟩
  have Hrx : Hid (Ext v3 W3) := hide (by rw [hW3]; exact (Ext.refl _).alloc _)
  have Hrb : Hid (PBox W3 v3.heap.size r) := hide (by rw [hW3]; exact PBox.new v3 r)
  have Z3 : Hid (Ext W W3) := hide (Y3.out.trans Hrx.out)
  clear hx hr
  go_upto_region 5 with fail
  rw [← hW3]
  clear hW3
  clear a0 a1 a2 hE0
  obtain ⟨a0, a1, a2, hE0⟩ := HE0.out _ Z3.out
  go_wp2_with fail
  refine (HM.out _ Z3.out).out.mono ?_
  rintro e v4 ⟨⟨nm, ix, sc, rfl, hsc⟩, hx⟩
  have X34 := hide hx
  have Y4 : Hid (Ext W v4) := hide (Z3.out.trans hx)
  obtain ⟨rfl, rfl, B4, bc4, A4, c4, A5, c5, rfl⟩ := exM_of hsc
  have Hsc := hide hsc.inn
  obtain ⟨W4, hW4⟩ : ∃ W', W' = v4.alloc (.cells #[.int .i64 1, .slice B4 1 bc4, .string ⟨#[]⟩, .int .i64 0, .slice A5 0 c5] 39) := ⟨_, rfl⟩
  have Hsx : Hid (Ext v4 W4) := hide (by rw [hW4]; exact (Ext.refl _).alloc _)
  have Hsb : Hid (W4.heap[v4.heap.size]? = some (.cells #[.int .i64 1, .slice B4 1 bc4, .string ⟨#[]⟩, .int .i64 0, .slice A5 0 c5] 39 (0, 0))) := hide (by rw [hW4]; exact at_newB _ _ _ (by simp))
  have Z4 : Hid (Ext W W4) := hide (Y4.out.trans Hsx.out)
  clear hx hsc
  have g0 : (sc1 1 B4 bc4 [79, 114, 100] 0 A4 c4 0 A5 c5).n = 1 := rfl
  have g1 : (sc1 1 B4 bc4 [79, 114, 100] 0 A4 c4 0 A5 c5).A = B4 := rfl
  have g2 : (sc1 1 B4 bc4 [79, 114, 100] 0 A4 c4 0 A5 c5).preds.length = 1 := rfl
  have g3 : (sc1 1 B4 bc4 [79, 114, 100] 0 A4 c4 0 A5 c5).cap = bc4 := rfl
  have g4 : (sc1 1 B4 bc4 [79, 114, 100] 0 A4 c4 0 A5 c5).ty.con = [] := rfl
  have g5 : (sc1 1 B4 bc4 [79, 114, 100] 0 A4 c4 0 A5 c5).ty.var = 0 := rfl
  have g6 : (sc1 1 B4 bc4 [79, 114, 100] 0 A4 c4 0 A5 c5).ty.A = A5 := rfl
  have g7 : (sc1 1 B4 bc4 [79, 114, 100] 0 A4 c4 0 A5 c5).ty.args.length = 0 := rfl
  have g8 : (sc1 1 B4 bc4 [79, 114, 100] 0 A4 c4 0 A5 c5).ty.cap = c5 := rfl
  simp only [g0, g1, g2, g3, g4, g5, g6, g7, g8]
  clear g0 g1 g2 g3 g4 g5 g6 g7 g8
  go_upto_region 6 with fail
  rw [← hW4]
  clear hW4
  clear a0 a1 a2 hE0
  obtain ⟨a0, a1, a2, hE0⟩ := HE0.out _ Z4.out
  go_wp2_with fail
  refine (HI.out _ Z4.out).out.mono ?_
  rintro e v5 ⟨⟨nm, s, rfl, hs⟩, hx⟩
  have Y5 : Hid (Ext W v5) := hide (Z4.out.trans hx)
  have X45 := hide hx
  obtain ⟨hn, hv, ht⟩ := hs.yes _ rfl
  obtain rfl : nm = [64, 69, 113, 64, 77] := hn.trans (by kernel_rfl)
  have Hsi := hide hs.po
  have Hsv : Hid (s.vars = [0]) := hide (hv.trans (by kernel_rfl))
  have Hst : Hid (ExT s _) := hide (exI_t Hsv.out ht)
  clear hx hs hn hv ht
  obtain ⟨W5, hW5⟩ : ∃ W', W' = v5.alloc (.cells #[.string ⟨#[64, 69, 113, 64, 77]⟩, .slice s.A s.vars.length s.cap, encStr s.ty.con, .int .i64 s.ty.var, .slice s.ty.A s.ty.args.length s.ty.cap] 43) := ⟨_, rfl⟩
  have X55 : Hid (Ext v5 W5) := hide (by rw [hW5]; exact (Ext.refl _).alloc _)
  have Z5 : Hid (Ext W W5) := hide (Y5.out.trans X55.out)
  have Htd : Hid (TdBox W5 v5.heap.size [64, 69, 113, 64, 77] s) := hide (by rw [hW5]; exact at_newB _ _ _ rfl)
  have X35 : Hid (Ext W4 W5) := hide (X45.out.trans X55.out)
  have E4 : Hid (Ext W4 W5) := X35
  have E3 : Hid (Ext W3 W5) := hide (X34.out.trans (Hsx.out.trans E4.out))
  have E2 : Hid (Ext W2 W5) := hide (X23.out.trans (Hrx.out.trans E3.out))
  have E1 : Hid (Ext W1 W5) := hide (X12.out.trans (Hqx.out.trans E2.out))
  have Bp0 : Hid (PBox v5 v1.heap.size p) := hide (Hpb.out.ext (X12.out.trans (Hqx.out.trans (X23.out.trans (Hrx.out.trans (X34.out.trans (Hsx.out.trans X45.out)))))))
  have Bp : Hid (PBox W5 v1.heap.size p) := hide (Hpb.out.ext E1.out)
  have Bq : Hid (PBox W5 v2.heap.size q) := hide (Hqb.out.ext E2.out)
  have Br : Hid (PBox W5 v3.heap.size r) := hide (Hrb.out.ext E3.out)
  have Bs : Hid (W5.heap[v4.heap.size]? = some (.cells #[.int .i64 1, .slice B4 1 bc4, .string ⟨#[]⟩, .int .i64 0, .slice A5 0 c5] 39 (0, 0))) := hide ((E4.out.heap (lt_of_obj Hsb.out)).trans Hsb.out)
  have Tp := hide (fun w' (e : Ext W5 w') => hide (f_TextA p w' (Hpi.out.ext (Hpx.out.trans (E1.out.trans e))) Hpt.out.ok Hpt.out.sz (by rw [Hpv.out]; simp) (by rw [Hpv.out]; exact okV_nil)))
  have Tq := hide (fun w' (e : Ext W5 w') => hide (f_TextA q w' (Hqi.out.ext (Hqx.out.trans (E2.out.trans e))) Hqt.out.ok Hqt.out.sz (by rw [Hqv.out]; simp) (by rw [Hqv.out]; exact okV_0)))
  have Tr := hide (fun w' (e : Ext W5 w') => hide (f_TextA r w' (Hri.out.ext (Hrx.out.trans (E3.out.trans e))) Hrt.out.ok Hrt.out.sz (by rw [Hrv.out]; simp) (by rw [Hrv.out]; exact okV_nil)))
  have Ts := hide (fun w' (e : Ext W5 w') => hide (f_TextA s w' (Hsi.out.ext (X55.out.trans e)) Hst.out.ok Hst.out.sz (by rw [Hsv.out]; simp) (by rw [Hsv.out]; exact okV_0)))
  have Tm := hide (fun w' (e : Ext W5 w') => hide (sc_text1 1 B4 bc4 [79, 114, 100] 0 A4 c4 0 A5 c5 w' (Hsc.out.ext (Hsx.out.trans (E4.out.trans e))) (ex_sc ..) (ex_pd33 ..) (by omega) (by omega) (by omega) (by omega)))
  rw [Hpt.out.text] at Tp
  rw [Hqt.out.text] at Tq
  rw [Hrt.out.text] at Tr
  rw [Hst.out.text] at Ts
  rw [show oneS [79, 114, 100] 0 ++ ([32, 61, 62, 32] : Str) ++ varS 0 = [79, 114, 100, 32, 97, 32, 61, 62, 32, 97] from by kernel_rfl] at Tm
  unfold poV at Tp Tq Tr Ts
  unfold scV at Tm
  simp only [sc1, Ty.con, Ty.var, Ty.A, Ty.cap, Ty.args, List.length_nil, List.length_cons, Nat.zero_add, encStr] at Tm
  simp only [encStr] at Tp Tq Tr Ts
  clear Hpb Hqb Hrb Hsb Hpi Hqi Hri Hsi Hpt Hqt Hrt Hst Hpv Hqv Hrv Hsv Hsc Hpx Hqx Hrx Hsx E1 E2 E3 E4 X12 X23 X34 X35 X45 Hpw Hqw Hrw Y1 Y2 Y3 Y4 Z1 Z2 Z3 Z4
  have hs5 : v5.heap.size < W5.heap.size := Htd.out.lt
  have Xw5 := hide (Ext.refl W5)
  obtain ⟨d0, d1, d2, d3⟩ := Bp0.out.cells
  have hl0 := Bp0.out.lt
  go_wp2_with fail
  rw [← hW5]
  clear hW5
  refine (Tp.out _ (Ext.refl W5)).out.mono ?_
  rintro e v6 ⟨rfl, hx⟩
  have R6 : Hid (Ext W5 v6) := hide ((Ext.refl W5).trans hx)
  clear hx
  clear hl0 d0 d1 d2 d3
  obtain ⟨d0, d1, d2, d3⟩ := (Bq.out.ext R6.out).cells
  have hl0 := (Bq.out.ext R6.out).lt
  go_wp2_with fail
  refine (Tq.out _ R6.out).out.mono ?_
  rintro e v7 ⟨rfl, hx⟩
  have R7 : Hid (Ext W5 v7) := hide (R6.out.trans hx)
  clear hx
  clear hl0 d0 d1 d2 d3
  obtain ⟨d0, d1, d2, d3⟩ := (Br.out.ext R7.out).cells
  have hl0 := (Br.out.ext R7.out).lt
  go_wp2_with fail
  refine (Tr.out _ R7.out).out.mono ?_
  rintro e v8 ⟨rfl, hx⟩
  have R8 : Hid (Ext W5 v8) := hide (R7.out.trans hx)
  clear hx
  clear hl0 d0 d1 d2 d3
  have hbs := (R8.out.heap (lt_of_obj Bs.out)).trans Bs.out
  have d0 := bytes_block hbs 0
  have d1 := bytes_block hbs 1
  have d2 := bytes_block hbs 2
  have d3 := bytes_block hbs 3
  have d4 := bytes_block hbs 4
  have hl0 := lt_of_obj hbs
  simp only [List.getElem?_toArray, List.getElem?_cons_zero, List.getElem?_cons_succ] at d0 d1 d2 d3 d4
  go_wp2_with fail
  refine (Tm.out _ R8.out).out.mono ?_
  rintro e v9 ⟨rfl, hx⟩
  have R9 : Hid (Ext W5 v9) := hide (R8.out.trans hx)
  clear hx
  clear hl0 d0 d1 d2 d3 d4 hbs
  obtain ⟨d0, d1, d2, d3, d4⟩ := (Htd.out.ext R9.out).cells
  have hl0 := (Htd.out.ext R9.out).lt
  go_wp2_with fail
  refine (Ts.out _ R9.out).out.mono ?_
  rintro e v10 ⟨rfl, hx⟩
  have R10 : Hid (Ext W5 v10) := hide (R9.out.trans hx)
  clear hx
  clear hl0 d0 d1 d2 d3 d4
  clear a0 a1 a2 hE0
  obtain ⟨a0, a1, a2, hE0⟩ := HE0.out _ (Z5.out.trans R10.out)
  go_wp2_with fail
  refine (HN.out _ (Z5.out.trans R10.out)).out.mono ?_
  rintro e v11 ⟨rfl, hx⟩
  have R11 : Hid (Ext W5 v11) := hide (R10.out.trans hx)
  clear hx
  clear a0 a1 a2 hE0
  obtain ⟨a0, a1, a2, hE0⟩ := HE0.out _ (Z5.out.trans R11.out)
  go_wp2_with fail
  refine (HO.out _ (Z5.out.trans R11.out)).out.mono ?_
  rintro e v12 ⟨rfl, hx⟩
  have R12 : Hid (Ext W5 v12) := hide (R11.out.trans hx)
  clear hx
  clear a0 a1 a2 hE0
  obtain ⟨a0, a1, a2, hE0⟩ := HE0.out _ (Z5.out.trans R12.out)
  go_wp2_with fail
  refine (HQ.out _ (Z5.out.trans R12.out)).out.mono ?_
  rintro e v13 ⟨rfl, rfl⟩
  go_wp2
  go_ret
  exact ⟨rfl, X0.out.trans (Z5.out.trans R12.out)⟩

end Go.Proofs.YtnomibjbjplieaaGreat
