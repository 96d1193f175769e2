/- Contract: the way from one class to another one, the program's. -/
import Derived.Test.YtnegamkakdbhfaaSupI
import Derived.Deep.RegionHeld3
namespace Go.Proofs.Ytnegamkakdbhfaa
open Go.RowKit

/-- A class that was come to, and by which way. -/
structure St where
  cls : Nat
  A : Option Addr
  cap : Nat
  path : List Nat
def stC : Coder St := ⟨2, fun s => [.int .i64 s.cls, .slice s.A s.path.length s.cap], fun _ => rfl, by omega⟩
def St.key (s : St) : Nat × List Nat := (s.cls, s.path)
def ints (p : List Nat) : List Int := p.map Int.ofNat
theorem ints_len (p : List Nat) : (ints p).length = p.length := by simp [ints]
/-- A way in memory, in none of two blocks. -/
structure StIn (w : World) (nq : Option Nat) (sb : Nat) (s : St) : Prop where
  row : Ints w s.A (ints s.path)
  le : s.path.length ≤ s.cap
  max : s.cap ≤ 9223372036854775807
  nil : s.A = none → s.path = [] ∧ s.cap = 0
  far : ∀ c o, s.A = some ⟨c, o, none⟩ → nq ≠ some c ∧ c ≠ sb ∧ c < w.heap.size
theorem StIn.keep {w w' : World} {nq nq' : Option Nat} {sb : Nat} {s : St} (h : StIn w nq sb s) {row : Option Nat} (g : w.grownBy w' row) (hr : row = nq ∨ row = some sb ∨ row = none) (hq : nq' = nq ∨ ∃ k, nq' = some k ∧ w.heap.size ≤ k) : StIn w' nq' sb s where
  row := h.row.keep g.size fun b o e hb => g.block b hb fun hbr => by
    obtain ⟨h1, h2, _⟩ := h.far b o e
    rcases hr with rfl | rfl | rfl
    · exact h1 hbr.symm
    · injection hbr with hbr; exact h2 hbr
    · cases hbr
  le := h.le
  max := h.max
  nil := h.nil
  far c o e := by
    obtain ⟨h1, h2, h3⟩ := h.far c o e
    refine ⟨?_, h2, Nat.lt_of_lt_of_le h3 g.size⟩
    rcases hq with rfl | ⟨k, rfl, hk⟩
    · exact h1
    · intro hkc
      injection hkc with hkc
      omega
theorem own_monoB {w : World} {base base' : Nat} {e : TypeId} {size : Nat} {v : Value} {n : Nat} {xs : List Value} (h : w.ownsRow base e size v n xs) (hb : base' ≤ base) : w.ownsRow base' e size v n xs := by
  rcases h with ⟨h1, h2 | ⟨g, cap, cur, he, hg, h3⟩⟩
  · exact ⟨h1, .inl h2⟩
  · exact ⟨h1, .inr ⟨g, cap, cur, he, Nat.le_trans hb hg, h3⟩⟩
theorem bool_info : (Try.prog.info? 4).map (fun i => (i.zero, i.size, i.bytes)) = some (some (.bool false), 1, 1) := by kernel_rfl
theorem step_info : (Try.prog.info? 110).map (fun i => (i.zero, i.size, i.bytes)) = some (some (.agg #[.int .i64 0, .slice none 0 0]), 2, 32) := by kernel_rfl
theorem make_bools (n : Nat) (hn : n ≤ 1000) (w : World) : (Instr.makeSlice 108 (.int .i64 n) (.int .i64 n)).run Try.prog w = .ok (.slice (some ⟨w.heap.size, 0, none⟩) n n) (w.alloc (.cells (markCells n (fun _ => false)) 4)) := by
  obtain ⟨i1, hj, hy0, hy1, hy2⟩ := info_parts bool_info
  have hmk := run_make (P := Try.prog) w 108 4 i1 _ Try.underlying108 hj hy0 .i64 .i64 n n (by omega) (Int.le_refl _) (by rw [hy2]; omega) (by omega)
  have hmc : madeCells (Value.bool false).cells ((n : Int).toNat * i1.size) = markCells n (fun _ => false) := by
    rw [hy1, markCells_none, Int.toNat_natCast]
    exact madeOne _ _ rfl
  rw [hmc] at hmk
  simpa using hmk
theorem outs_take (succ : Nat → List Nat) (x : Nat) (p : List Nat) {k : Nat} (hk : k < (succ x).length) : (outs succ x p).take (k + 1) = (outs succ x p).take k ++ [((succ x)[k]'hk, p ++ [k])] := by
  rw [List.take_succ_eq_append_getElem (by simpa [outs] using hk)]
  simp [outs]
theorem outs_len (succ : Nat → List Nat) (x : Nat) (p : List Nat) : (outs succ x p).length = (succ x).length := by simp [outs]
theorem restG_bound {l : List Cls} (hl : l.length ≤ 9) (hs : ∀ c ∈ l, c.sup.length ≤ 9) : restG (succC l) (fun _ => false) l.length ≤ 81 := by
  have : ∀ n, n ≤ l.length → restG (succC l) (fun _ => false) n ≤ 9 * n := by
    intro n
    induction n with
    | zero => intro _; simp [restG]
    | succ n ih =>
      intro hn
      have h1 := ih (by omega)
      have h2 : (succC l n).length ≤ 9 := by unfold succC; rw [List.length_map, supAt_eq (by omega)]; exact hs _ (List.getElem_mem _)
      unfold restG at h1 ⊢
      rw [List.range_succ, List.map_append, List.sum_append]
      simp at h1 ⊢
      omega
  have := this l.length (Nat.le_refl _)
  omega

section
variable (A : Option Addr) (cap : Nat) (l : List Cls) (x y : Str) (w : World)
set_option maxRecDepth 10000 in
set_option maxHeartbeats 8000000 in
theorem sup_path_in (h : Classes w A l) (hl : l.length ≤ 9) (hs : ∀ c ∈ l, c.sup.length ≤ 9) (ho : okL l = true) (a b : Nat) (ha : a < l.length) (hb : b < l.length) (hx : (l[a]'ha).name = x) (hy : (l[b]'hb).name = y)
    (ea : atI l x = a) (eb : atI l y = b) :
    Calls Try.prog 50 #[.slice A l.length cap, encStr x, encStr y] w fun e w' => (∃ A' cap', e = .returned (.tuple #[.slice A' (ofNats (pathL l x y)).length cap', .bool (pathL l x y).isSome]) ∧ (ofNats (pathL l x y)).length ≤ cap' ∧ cap' ≤ 9223372036854775807 ∧ Ints w' A' (ofNats (pathL l x y))) ∧ Ext w w' := by
  obtain ⟨i0, hi, hz0, hz1, hz2⟩ := info_parts int_info
  obtain ⟨i2, hj, hw0, hw1, hw2⟩ := info_parts step_info
  have HC := hide h
  have HS := hide hs
  have hle : l.length ≤ 9223372036854775807 := by omega
  have Ho := hide (fun w' (e : Ext w w') => hide (sup_sound A cap l w' (h.ext e) hl hs))
  rw [ho] at Ho
  have Ha := hide (sup_at A cap l x w h hle)
  have Hb := hide (sup_at A cap l y w h hle)
  rw [ea] at Ha
  rw [eb] at Hb
  have hB := restG_bound hl hs
  have HB : Hid (bfsGo (succC l) b (1 + restG (succC l) (fun _ => false) l.length) (fun _ => false) [(a, [])] = pathL l x y) := hide (pathL_bfs ho ha hb x y hx hy (Nat.le_refl _)).symm
  have Hso := hide (okL_sound ho).1
  have Hmk := hide (make_bools l.length (by omega))
  have ha0 : ¬ (a : Int) < 0 := by omega
  have hb0 : ¬ (b : Int) < 0 := by omega
  clear h hs ea eb hx hy ho
  generalize pathL l x y = R at *
  obtain ⟨B, hBe⟩ : ∃ B, B = 1 + restG (succC l) (fun _ => false) l.length := ⟨_, rfl⟩
  rw [← hBe] at HB
  have hBl : B ≤ 90 := by omega
  have HBe := hide hBe
  clear hBe hB
  have hmk := Hmk.out
  go_enter Try.func50, Try.ntmps50
  go_wp2_with fail
  refine Ha.out.mono ?_
  rintro e w1 ⟨rfl, rfl⟩
  go_wp2_with fail
  refine Hb.out.mono ?_
  rintro e w1 ⟨rfl, rfl⟩
  go_wp2_with fail
  refine (Ho.out _ (by repeat (first | exact Ext.refl _ | exact Ext.pre (by simp) | exact Ext.alloc (by assumption) _ | refine Ext.alloc ?_ _ |  refine Ext.more ?_ _ _ | refine Ext.drew ?_ | refine Ext.drewN ?_ _))).out.mono ?_
  rintro e w2 ⟨rfl, l2, d2, rfl⟩
  have HO0 : Hid ((((more w1 l2 d2).alloc (.cells (markCells l.length (fun _ => false)) 4)).alloc (.cells #[.int .i64 a, .slice none 0 0] 110)).ownsRow w1.heap.size 110 2 (.slice (some ⟨((more w1 l2 d2).alloc (.cells (markCells l.length (fun _ => false)) 4)).heap.size, 0, none⟩) 1 1) 1 [.int .i64 a, .slice none 0 0]) := hide (World.ownsRow_lit _ _ 1 (by simp; omega) (by unfold maxLen; omega) (by simp))
  have HM0 : Hid ((((more w1 l2 d2).alloc (.cells (markCells l.length (fun _ => false)) 4)).alloc (.cells #[.int .i64 a, .slice none 0 0] 110)).heap[w1.heap.size + l2.length]? = some (.cells (markCells l.length (fun _ => false)) 4 (0, 0))) := hide (by
    have := at_newB (more w1 l2 d2) (.cells (markCells l.length (fun _ => false)) 4) (w1.heap.size + l2.length) (by simp)
    exact ((Ext.alloc (Ext.refl _) _).heap (lt_of_obj this)).trans this)
  obtain ⟨sb, hsb⟩ : ∃ sb, sb = w1.heap.size + l2.length := ⟨_, rfl⟩
  have hq0 : (((more w1 l2 d2).alloc (.cells (markCells l.length (fun _ => false)) 4)).heap.size) = sb + 1 := by simp; omega
  rw [← hsb] at HM0
  rw [hq0] at HO0
  have hsb1 : w1.heap.size ≤ sb := by omega
  have Hsb := hide hsb
  clear hsb hq0
  go_wp2
  rw [← Hsb.out]
  go_loopw [11, 12] (fun v u wr => ∃ (i : Nat) (row : List St) (seen : Nat → Bool), i ≤ row.length ∧ row.length ≤ B ∧ u = .int .i64 i ∧ Hid (row.length + restG (succC l) seen l.length ≤ B) ∧ Hid (wr.ownsRow w1.heap.size 110 2 v row.length (row.flatMap stC.f)) ∧
    Hid (wr.heap[sb]? = some (.cells (markCells l.length seen) 4 (0, 0))) ∧ Hid (∀ s ∈ row, StIn wr v.ownBlock sb s) ∧ Hid (∀ s ∈ row, s.cls < l.length ∧ s.path.length ≤ i) ∧ Hid (v.ownBlock ≠ some sb) ∧ Hid (Ext w1 wr) ∧ Hid (bfsGo (succC l) b (B - i) seen ((row.drop i).map St.key) = R)) (fun _ u _ => B - (intOf u).toNat)
  case atStart =>
    refine ⟨0, [⟨a, none, 0, []⟩], fun _ => false, by simp, by simp; have := HBe.out; omega, rfl, hide (by have := HBe.out; simp; omega), HO0, HM0, hide ?_, hide ?_, hide ?_, hide (by repeat (first | exact Ext.refl _ | exact Ext.pre (by simp) | exact Ext.alloc (by assumption) _ | refine Ext.alloc ?_ _ |  refine Ext.more ?_ _ _ | refine Ext.drew ?_ | refine Ext.drewN ?_ _)), hide (by simpa [St.key] using HB.out)⟩
    · intro s hs
      simp at hs
      subst hs
      exact ⟨RowOf.nil _ _ _, Nat.le_refl _, by simp, fun _ => ⟨rfl, rfl⟩, by intro c o e; cases e⟩
    · intro s hs
      simp at hs
      subst hs
      exact ⟨ha, by simp⟩
    · intro e
      simp [Value.ownBlock] at e
  case round =>
    obtain ⟨i, row, seen, hi1, hrB, rfl, HM, HO, HSe, HSt, HCl, HV, HX, HG⟩ := hrel
    obtain ⟨wo, rfl⟩ : ∃ wo : World, wo = wr := ⟨_, rfl⟩
    by_cases hlt : i < row.length
    · obtain ⟨A11, c11, rfl, z1, z2, z3, _⟩ := RowOf.own stC HO.out
      obtain ⟨bq, oq, rfl, hbq, hcell⟩ := RowOf.at_ stC z3 hlt
      have q0 := hcell 0 (by decide)
      have q1 := hcell 1 (by decide)
      have Hin := hide (HSt.out _ (List.getElem_mem hlt))
      obtain ⟨hcN, hpl⟩ := HCl.out _ (List.getElem_mem hlt)
      have hlt' : (i : Int) < (row.length : Int) := by omega
      have hi0' : (0 : Int) ≤ (i : Int) := by omega
      have Hdr : Hid ((row.drop i).map St.key = (row[i]'hlt).key :: (row.drop (i + 1)).map St.key) := hide (by rw [List.drop_eq_getElem_cons hlt]; rfl)
      have Hmem : Hid ((row[i]'hlt) ∈ row) := hide (List.getElem_mem hlt)
      clear hcell z3
      generalize hxs : row[i]'hlt = xs at *
      obtain ⟨cl, pA, pc, p⟩ := xs
      simp only [stC, List.getElem?_cons_zero, List.getElem?_cons_succ, Nat.add_zero] at q0 q1
      simp only at hcN hpl
      have HG' : Hid ((if cl = b then some p else if seen cl then bfsGo (succC l) b (B - (i + 1)) seen ((row.drop (i + 1)).map St.key) else bfsGo (succC l) b (B - (i + 1)) (fun j => j == cl || seen j) ((row.drop (i + 1)).map St.key ++ outs (succC l) cl p)) = R) := hide (by
        have h1 := HG.out
        rw [Hdr.out, show B - i = (B - (i + 1)) + 1 by omega] at h1
        exact h1)
      clear hxs
      have hcl1 : (cl : Int) < (l.length : Int) := by omega
      have hcl0 : (0 : Int) ≤ (cl : Int) := by omega
      have hsbl : sb < wo.heap.size := lt_of_obj HSe.out
      by_cases hclb : cl = b
      · have hR : R = some p := by rw [← HG'.out, if_pos hclb]
        have hcb : ((cl : Int) == (b : Int)) = true := by simp [hclb]
        have hlenp : (ofNats (some p)).length = p.length := by simp [ofNats]
        subst hR
        go_wp2
        go_ret2
        refine ⟨⟨pA, pc, by rw [hlenp]; rfl, by rw [hlenp]; exact Hin.out.le, Hin.out.max, ?_⟩, HX.out.trans (by repeat (first | exact Ext.refl _ | exact Ext.pre (by simp) | exact Ext.alloc (by assumption) _ | refine Ext.alloc ?_ _ |  refine Ext.more ?_ _ _ | refine Ext.drew ?_ | refine Ext.drewN ?_ _))⟩
        have := Hin.out.row
        exact RowOf.ext intC this (by repeat (first | exact Ext.refl _ | exact Ext.pre (by simp) | exact Ext.alloc (by assumption) _ | refine Ext.alloc ?_ _ |  refine Ext.more ?_ _ _ | refine Ext.drew ?_ | refine Ext.drewN ?_ _))
      · have hcb : ((cl : Int) == (b : Int)) = false := by simp; omega
        have hsc : wo.cell? ⟨sb, cl, none⟩ = some (.bool (seen cl)) := by
          have h1 := HSe.out
          rw [← markCells_get l.length seen hcN]
          generalize markCells l.length seen = cs at *
          simp [World.cell?, h1]
        have hsf : wo.frozen? ⟨sb, cl, none⟩ = false := by
          have h1 := HSe.out
          generalize markCells l.length seen = cs at *
          simp [World.frozen?, h1]
        cases hse : seen cl
        · rw [hse] at hsc
          have HG2 : Hid (bfsGo (succC l) b (B - (i + 1)) (fun j => j == cl || seen j) ((row.drop (i + 1)).map St.key ++ outs (succC l) cl p) = R) := hide (by have := HG'.out; rwa [if_neg hclb, hse] at this)
          obtain ⟨bc, oc, hAe, hbc, k0, k1, k2⟩ := (HC.out.ext HX.out).at_ hcN
          subst hAe
          have Hst2 := hide (HC.out.sup _ (List.getElem_mem hcN))
          have Hkn : Hid (∀ s ∈ (l[cl]'hcN).sup, ∃ j, ∃ hj : j < l.length, atI l s = (j : Int) ∧ (l[j]'hj).name = s) := hide (fun s hs => Hso.out.to hcN hs)
          have hSl := HS.out _ (List.getElem_mem hcN)
          have Hsu : Hid (succC l cl = ((l[cl]'hcN).sup).map fun s => (atI l s).toNat) := hide (by unfold succC; rw [supAt_eq hcN])
          clear k0 k2
          generalize (l[cl]'hcN).sup = S at *
          generalize (l[cl]'hcN).A = A5 at *
          generalize (l[cl]'hcN).cap = c5 at *
          have O2 : Hid (((wo.setCell ⟨sb, cl, none⟩ (.bool true)).alloc (.cells #[.int .i64 cl, .slice pA p.length pc] 110)).ownsRow w1.heap.size 110 2 (.slice (some ⟨bq, oq, none⟩) row.length c11) row.length (row.flatMap stC.f)) := hide ((HO.out.kept (grown_set wo sb cl (.bool true)) (.inr HV.out)).alloc _)
          have S2 : Hid (((wo.setCell ⟨sb, cl, none⟩ (.bool true)).alloc (.cells #[.int .i64 cl, .slice pA p.length pc] 110)).heap[sb]? = some (.cells (markCells l.length (fun j => j == cl || seen j)) 4 (0, 0))) := hide (by
            have h1 := blk_setCell HSe.out cl (.bool true)
            rw [markCells_set] at h1
            exact ((Ext.alloc (Ext.refl _) _).heap (lt_of_obj h1)).trans h1)
          have K2 : Hid (∀ s ∈ row, StIn ((wo.setCell ⟨sb, cl, none⟩ (.bool true)).alloc (.cells #[.int .i64 cl, .slice pA p.length pc] 110)) (Value.slice (some ⟨bq, oq, none⟩) row.length c11).ownBlock sb s) := hide (fun s hs => ((HSt.out s hs).keep (grown_set wo sb cl (.bool true)) (.inr (.inl rfl)) (.inl rfl)).keep (grown_ext (Ext.alloc (Ext.refl _) _) none) (.inr (.inr rfl)) (.inl rfl))
          have Kx : Hid (StIn ((wo.setCell ⟨sb, cl, none⟩ (.bool true)).alloc (.cells #[.int .i64 cl, .slice pA p.length pc] 110)) (Value.slice (some ⟨bq, oq, none⟩) row.length c11).ownBlock sb ⟨cl, pA, pc, p⟩) := hide (K2.out _ Hmem.out)
          have hszs : (wo.setCell ⟨sb, cl, none⟩ (.bool true)).heap.size = wo.heap.size := by simp [World.setCell]
          have B2 : Hid (((wo.setCell ⟨sb, cl, none⟩ (.bool true)).alloc (.cells #[.int .i64 cl, .slice pA p.length pc] 110)).heap[wo.heap.size]? = some (.cells #[.int .i64 cl, .slice pA p.length pc] 110 (0, 0))) := hide (at_newB _ _ _ hszs.symm)
          have X2 : Hid (Ext w1 ((wo.setCell ⟨sb, cl, none⟩ (.bool true)).alloc (.cells #[.int .i64 cl, .slice pA p.length pc] 110))) := hide ((Ext.setCell HX.out hsb1 _).alloc _)
          have V2 : Hid ((Value.slice (some ⟨bq, oq, none⟩) row.length c11).ownBlock ≠ some wo.heap.size) := hide (fun h => by have := (HO.out.lt _ h).2; omega)
          have HMs : Hid (∀ r2 : Nat, r2 = row.length + (succC l cl).length → r2 + restG (succC l) (fun j => j == cl || seen j) l.length ≤ B) := hide (fun r2 hr => by have := restG_see (succC l) hse l.length hcN; have := HM.out; omega)
          have hsl2 : (succC l cl).length = S.length := by rw [Hsu.out]; simp
          have Hot : Hid (∀ k (hk : k < S.length) (j : Nat), atI l (S.getD k []) = (j : Int) → (outs (succC l) cl p).take (k + 1) = (outs (succC l) cl p).take k ++ [(j, p ++ [k])]) := hide (by
            intro k hk j hj
            have hk' : k < (succC l cl).length := by rw [hsl2]; exact hk
            rw [outs_take (succC l) cl p hk']
            have : (succC l cl)[k]'hk' = j := by
              simp only [Hsu.out, List.getElem_map]
              simp [hk] at hj
              rw [hj]; simp
            rw [this])
          have Hofin : Hid ((outs (succC l) cl p).take S.length = outs (succC l) cl p) := hide (List.take_of_length_le (by rw [outs_len, hsl2]; exact Nat.le_refl _))
          have hwsz : sb < wo.heap.size := hsbl
          have HMs' : Hid (∀ r2 : Nat, r2 = row.length + S.length → r2 + restG (succC l) (fun j => j == cl || seen j) l.length ≤ B) := hide (fun r2 hr => HMs.out r2 (by rw [hsl2]; exact hr))
          clear HMs hsl2 Hsu hszs
          go_wp2
          go_loopw [11, 71] (fun v u wr => ∃ (k : Nat) (row2 : List St), k ≤ S.length ∧ u = .int .i64 k ∧ row2.length = row.length + k ∧ Hid (wr.ownsRow w1.heap.size 110 2 v row2.length (row2.flatMap stC.f)) ∧
            Hid (wr.heap[sb]? = some (.cells (markCells l.length (fun j => j == cl || seen j)) 4 (0, 0))) ∧ Hid (∀ s ∈ row2, StIn wr v.ownBlock sb s) ∧ Hid (∀ s ∈ row2, s.cls < l.length ∧ s.path.length ≤ i + 1) ∧ Hid (v.ownBlock ≠ some sb) ∧ Hid (Ext w1 wr) ∧
            Hid ((row2.drop (i + 1)).map St.key = (row.drop (i + 1)).map St.key ++ (outs (succC l) cl p).take k) ∧ Hid (wr.heap[wo.heap.size]? = some (.cells #[.int .i64 cl, .slice pA p.length pc] 110 (0, 0))) ∧ Hid (v.ownBlock ≠ some wo.heap.size) ∧ Hid (StIn wr v.ownBlock sb ⟨cl, pA, pc, p⟩)) (fun _ u _ => S.length - (intOf u).toNat)
          case atStart => exact ⟨0, row, Nat.zero_le _, rfl, rfl, O2, S2, K2, hide (fun s hs => ⟨(HCl.out s hs).1, by have := (HCl.out s hs).2; omega⟩), HV, X2, hide (by simp), B2, V2, Kx⟩
          case round =>
            obtain ⟨k, row2, hk, rfl, hr2, HO2, HSe2, HSt2, HCl2, HV2, HX2, HD2, HB2, HW2, HK2⟩ := hrel
            by_cases hltk : k < S.length
            · obtain ⟨b5, o5, rfl, hb5, r0⟩ := (Hst2.out.ext HX2.out).at_ hltk
              have hltk' : (k : Int) < (S.length : Int) := by omega
              have Hmems : Hid (S.getD k [] ∈ S) := hide (by simp [hltk])
              obtain ⟨j, hjl, ej, _⟩ := Hkn.out _ Hmems.out
              have Hots := hide (Hot.out k hltk j ej)
              have HA := hide (fun w' (e : Ext w1 w') => hide (sup_at (some ⟨bc, oc, none⟩) cap l (S.getD k []) w' (HC.out.ext e) hle))
              rw [ej] at HA
              have Hcl := hide (fun w' (e : Ext wr w') => hide (clone_i pA pc (ints p) w' (RowOf.ext intC HK2.out.row e) (by rw [ints_len]; omega) (fun hn => ⟨by have h1 : p = [] := (HK2.out.nil hn).1; rw [h1]; rfl, (HK2.out.nil hn).2⟩)))
              rw [ints_len] at Hcl
              have hxl : wo.heap.size < wr.heap.size := lt_of_obj HB2.out
              have hsbr : sb < wr.heap.size := lt_of_obj HSe2.out
              have hx1 : wr.cell? ⟨wo.heap.size, 1, none⟩ = some (.slice pA p.length pc) := by have := HB2.out; simp [World.cell?, this]
              have hplen : p.length ≤ 100 := by omega
              have hr2l : row2.length ≤ 200 := by omega
              generalize S.getD k [] = sk at *
              clear ej Hmems
              go_wp2
              go_region_held3 (fun w' => w'.cell? ⟨wo.heap.size, 1, none⟩ = some (.slice pA p.length pc)) (first | assumption | go_keep) (first
                | (go_at_call 74
                   refine Calls.mono (HA.out _ ?e).out ?_
                   case e => first | (refine Ext.trans (HX2.out.trans X4.out) ?_; (repeat (first | exact Ext.refl _ | exact Ext.pre (by simp) | exact Ext.alloc (by assumption) _ | refine Ext.alloc ?_ _ | refine Ext.more ?_ _ _ | refine Ext.drew ?_ | refine Ext.drewN ?_ _)); done) | (refine Ext.trans (HX2.out.trans X3.out) ?_; (repeat (first | exact Ext.refl _ | exact Ext.pre (by simp) | exact Ext.alloc (by assumption) _ | refine Ext.alloc ?_ _ | refine Ext.more ?_ _ _ | refine Ext.drew ?_ | refine Ext.drewN ?_ _)); done) | (refine Ext.trans HX2.out ?_; (repeat (first | exact Ext.refl _ | exact Ext.pre (by simp) | exact Ext.alloc (by assumption) _ | refine Ext.alloc ?_ _ | refine Ext.more ?_ _ _ | refine Ext.drew ?_ | refine Ext.drewN ?_ _)); done)
                   rintro e w8 ⟨rfl, rfl⟩)
                | (go_at_call 84
                   refine Calls.mono (Hcl.out _ ?e).out ?_
                   case e => exact (by repeat (first | exact Ext.refl _ | exact Ext.pre (by simp) | exact Ext.alloc (by assumption) _ | refine Ext.alloc ?_ _ |  refine Ext.more ?_ _ _ | refine Ext.drew ?_ | refine Ext.drewN ?_ _))
                   rintro e w3 ⟨⟨v3, rfl, ho3⟩, hx3⟩
                   have X3 : Hid (Ext wr w3) := hide (Ext.trans (by repeat (first | exact Ext.refl _ | exact Ext.pre (by simp) | exact Ext.alloc (by assumption) _ | refine Ext.alloc ?_ _ |  refine Ext.more ?_ _ _ | refine Ext.drew ?_ | refine Ext.drewN ?_ _)) hx3)
                   have Hx3 := hide hx3
                   have O3 : Hid (w3.ownsRow wr.heap.size 3 1 v3 p.length ((ints p).map (Value.int .i64))) := hide (own_monoB ho3 (Ext.size (by repeat (first | exact Ext.refl _ | exact Ext.pre (by simp) | exact Ext.alloc (by assumption) _ | refine Ext.alloc ?_ _ |  refine Ext.more ?_ _ _ | refine Ext.drew ?_ | refine Ext.drewN ?_ _))))
                   have hs3 : w3.cell? ⟨wo.heap.size, 1, none⟩ = some (.slice pA p.length pc) := (World.cell?_of_block (a := ⟨wo.heap.size, 1, none⟩) (X3.out.heap hxl)).trans hx1
                   clear ho3 hx3)
                | (refine step_append_rowB _ rfl (.tmp 82) (.tmp 84) 69 rfl wr.heap.size 3 i0 _ 1 8 Try.underlying69 hi hz0 hz1 hz2 rfl (by decide) v3 p.length ((ints p).map (Value.int .i64)) rfl (own_extB O3.out (by repeat (first | exact Ext.refl _ | exact Ext.pre (by simp) | exact Ext.alloc (by assumption) _ | refine Ext.alloc ?_ _ |  refine Ext.more ?_ _ _ | refine Ext.drew ?_ | refine Ext.drewN ?_ _))) (some ⟨_, 0, none⟩) 1 1 [.int .i64 k] rfl (by first | (refine Row.boxV _ (at_newB _ _ _ ?_); simp; done) | (refine Row.boxV _ ((Hx3.out.heap ?_).trans (at_newB _ _ _ ?_)) <;> simp; done)) (by intro u hu; simp at hu; subst hu; rfl) (by unfold maxLen; omega) (by omega) (Ext.size (X3.out.trans (by repeat (first | exact Ext.refl _ | exact Ext.pre (by simp) | exact Ext.alloc (by assumption) _ | refine Ext.alloc ?_ _ |  refine Ext.more ?_ _ _ | refine Ext.drew ?_ | refine Ext.drewN ?_ _)))) ?_
                   intro v4 w4 hown4 hg4 hat4
                   obtain ⟨A4, c4, rfl, t1, t2, t3, t4⟩ := Ints.own (l := ints (p ++ [k])) (by have := hown4; simpa [ints] using this)
                   have X4 : Hid (Ext wr w4) := hide (Ext.app (X3.out.trans (by repeat (first | exact Ext.refl _ | exact Ext.pre (by simp) | exact Ext.alloc (by assumption) _ | refine Ext.alloc ?_ _ |  refine Ext.more ?_ _ _ | refine Ext.drew ?_ | refine Ext.drewN ?_ _))) hg4 (own_extB O3.out (by repeat (first | exact Ext.refl _ | exact Ext.pre (by simp) | exact Ext.alloc (by assumption) _ | refine Ext.alloc ?_ _ |  refine Ext.more ?_ _ _ | refine Ext.drew ?_ | refine Ext.drewN ?_ _))) (Nat.le_refl _))
                   have N4 : Hid (StIn w4 u11.ownBlock sb ⟨j, A4, c4, p ++ [k]⟩) := hide ⟨t3, by rw [← ints_len]; exact t1, t2, fun hn => by have hn' : A4 = none := hn; rw [hn'] at t3; exact (absurd (t3.2 (by simp [ints])) (by rintro ⟨_, _, h, _⟩; cases h)), fun c o e => ⟨fun h => by have := (HO2.out.lt _ h).2; have := (t4 c o e).1; omega, by have := (t4 c o e).1; omega, (t4 c o e).2⟩⟩
                   have hs4 : w4.cell? ⟨wo.heap.size, 1, none⟩ = some (.slice pA p.length pc) := (World.cell?_of_block (a := ⟨wo.heap.size, 1, none⟩) (X4.out.heap hxl)).trans hx1
                   clear hown4 hg4 hat4 t1 t2 t3 t4)
                | (refine step_append_rowB _ rfl (.tmp 76) (.tmp 87) 111 rfl w1.heap.size 110 i2 _ 2 32 Try.underlying111 hj hw0 hw1 hw2 rfl (by decide) u11 row2.length (row2.flatMap stC.f) rfl (own_extB HO2.out (X4.out.trans (by repeat (first | exact Ext.refl _ | exact Ext.pre (by simp) | exact Ext.alloc (by assumption) _ | refine Ext.alloc ?_ _ |  refine Ext.more ?_ _ _ | refine Ext.drew ?_ | refine Ext.drewN ?_ _)))) (some ⟨_, 0, none⟩) 1 1 [.int .i64 j, .slice A4 (ints (p ++ [k])).length c4] rfl (Row.box2 _ _ (at_newB _ _ _ (by simp))) (by intro u hu; simp at hu; rcases hu with rfl | rfl <;> rfl) (by unfold maxLen; omega) (by omega) (Ext.size (HX2.out.trans (X4.out.trans (by repeat (first | exact Ext.refl _ | exact Ext.pre (by simp) | exact Ext.alloc (by assumption) _ | refine Ext.alloc ?_ _ |  refine Ext.more ?_ _ _ | refine Ext.drew ?_ | refine Ext.drewN ?_ _))))) ?_
                   intro v5 w5 hown5 hg5 hat5
                   have X5 : Hid (Ext w1 w5) := hide (Ext.app (HX2.out.trans (X4.out.trans (by repeat (first | exact Ext.refl _ | exact Ext.pre (by simp) | exact Ext.alloc (by assumption) _ | refine Ext.alloc ?_ _ |  refine Ext.more ?_ _ _ | refine Ext.drew ?_ | refine Ext.drewN ?_ _)))) hg5 (own_extB HO2.out (X4.out.trans (by repeat (first | exact Ext.refl _ | exact Ext.pre (by simp) | exact Ext.alloc (by assumption) _ | refine Ext.alloc ?_ _ |  refine Ext.more ?_ _ _ | refine Ext.drew ?_ | refine Ext.drewN ?_ _)))) (Nat.le_refl _))
                   have K5 : Hid (∀ s ∈ row2, StIn w5 v5.ownBlock sb s) := hide (fun s hs => ((HSt2.out s hs).keep (grown_ext (X4.out.trans (by repeat (first | exact Ext.refl _ | exact Ext.pre (by simp) | exact Ext.alloc (by assumption) _ | refine Ext.alloc ?_ _ |  refine Ext.more ?_ _ _ | refine Ext.drew ?_ | refine Ext.drewN ?_ _))) none) (.inr (.inr rfl)) (.inl rfl)).keep hg5 (.inl rfl) (hat5.imp id (fun h => ⟨_, h, Nat.le_refl _⟩)))
                   have N5 : Hid (StIn w5 v5.ownBlock sb ⟨j, A4, c4, p ++ [k]⟩) := hide ((N4.out.keep (grown_ext (by repeat (first | exact Ext.refl _ | exact Ext.pre (by simp) | exact Ext.alloc (by assumption) _ | refine Ext.alloc ?_ _ |  refine Ext.more ?_ _ _ | refine Ext.drew ?_ | refine Ext.drewN ?_ _)) none) (.inr (.inr rfl)) (.inl rfl)).keep hg5 (.inl rfl) (hat5.imp id (fun h => ⟨_, h, Nat.le_refl _⟩)))
                   have Kx5 : Hid (StIn w5 v5.ownBlock sb ⟨cl, pA, pc, p⟩) := hide ((HK2.out.keep (grown_ext (X4.out.trans (by repeat (first | exact Ext.refl _ | exact Ext.pre (by simp) | exact Ext.alloc (by assumption) _ | refine Ext.alloc ?_ _ |  refine Ext.more ?_ _ _ | refine Ext.drew ?_ | refine Ext.drewN ?_ _))) none) (.inr (.inr rfl)) (.inl rfl)).keep hg5 (.inl rfl) (hat5.imp id (fun h => ⟨_, h, Nat.le_refl _⟩)))
                   have hsx := ((X4.out.heap hsbr).trans HSe2.out)
                   have hbx := ((X4.out.heap hxl).trans HB2.out)
                   have S5 : Hid (w5.heap[sb]? = some (.cells (markCells l.length (fun j => j == cl || seen j)) 4 (0, 0))) := hide ((hg5.block sb (Nat.lt_of_lt_of_le (lt_of_obj hsx) (Ext.size (by repeat (first | exact Ext.refl _ | exact Ext.pre (by simp) | exact Ext.alloc (by assumption) _ | refine Ext.alloc ?_ _ |  refine Ext.more ?_ _ _ | refine Ext.drew ?_ | refine Ext.drewN ?_ _)))) (fun h => HV2.out h.symm)).trans ((Ext.heap (by repeat (first | exact Ext.refl _ | exact Ext.pre (by simp) | exact Ext.alloc (by assumption) _ | refine Ext.alloc ?_ _ |  refine Ext.more ?_ _ _ | refine Ext.drew ?_ | refine Ext.drewN ?_ _)) (lt_of_obj hsx)).trans hsx))
                   have B5 : Hid (w5.heap[wo.heap.size]? = some (.cells #[.int .i64 cl, .slice pA p.length pc] 110 (0, 0))) := hide ((hg5.block wo.heap.size (Nat.lt_of_lt_of_le (lt_of_obj hbx) (Ext.size (by repeat (first | exact Ext.refl _ | exact Ext.pre (by simp) | exact Ext.alloc (by assumption) _ | refine Ext.alloc ?_ _ |  refine Ext.more ?_ _ _ | refine Ext.drew ?_ | refine Ext.drewN ?_ _)))) (fun h => HW2.out h.symm)).trans ((Ext.heap (by repeat (first | exact Ext.refl _ | exact Ext.pre (by simp) | exact Ext.alloc (by assumption) _ | refine Ext.alloc ?_ _ |  refine Ext.more ?_ _ _ | refine Ext.drew ?_ | refine Ext.drewN ?_ _)) (lt_of_obj hbx)).trans hbx))
                   have hw4s : wr.heap.size ≤ w4.heap.size := X4.out.size
                   have V5 : Hid (v5.ownBlock ≠ some sb) := hide (fun h => by
                     rcases hat5 with h5 | h5
                     · rw [h5] at h; exact HV2.out h
                     · rw [h5] at h; injection h with h; simp at h; omega)
                   have W5 : Hid (v5.ownBlock ≠ some wo.heap.size) := hide (fun h => by
                     rcases hat5 with h5 | h5
                     · rw [h5] at h; exact HW2.out h
                     · rw [h5] at h; injection h with h; simp at h; omega)
                   have hs5 : w5.cell? ⟨wo.heap.size, 1, none⟩ = some (.slice pA p.length pc) := by have := B5.out; simp [World.cell?, this]
                   have O5 : Hid (w5.ownsRow w1.heap.size 110 2 v5 (row2 ++ [(⟨j, A4, c4, p ++ [k]⟩ : St)]).length ((row2 ++ [(⟨j, A4, c4, p ++ [k]⟩ : St)]).flatMap stC.f)) := hide (by
                     have := hown5
                     rw [ints_len] at this
                     simpa [stC] using this)
                   clear hown5 hg5 hat5 hsx hbx))
              all_goals
                go_wp2
                go_roundw
                case rel =>
                  refine ⟨k + 1, row2 ++ [(⟨j, A4, c4, p ++ [k]⟩ : St)], hltk, by go_num, by rw [List.length_append, hr2]; simp; omega, O5, S5, hide ?_, hide ?_, V5, X5, hide ?_, B5, W5, Kx5⟩
                  · intro s hs
                    rcases List.mem_append.1 hs with hs | hs
                    · exact K5.out s hs
                    · simp only [List.mem_singleton] at hs; rw [hs]; exact N5.out
                  · intro s hs
                    rcases List.mem_append.1 hs with hs | hs
                    · exact HCl2.out s hs
                    · simp only [List.mem_singleton] at hs; rw [hs]; exact ⟨hjl, by simp; omega⟩
                  · rw [List.drop_append_of_le_length (by omega), List.map_append, HD2.out, Hots.out, List.append_assoc]
                    rfl
                case measure => simp [intOf]; omega
            · have hgek : (S.length : Int) ≤ (k : Int) := by omega
              have hkS : k = S.length := by omega
              rw [hkS, Hofin.out] at HD2
              have hM3 := HMs'.out row2.length (by omega)
              clear hkS
              go_wp2
              go_roundw
              case rel =>
                refine ⟨i + 1, row2, fun j => j == cl || seen j, by omega, by omega, by go_num, hide hM3, HO2, HSe2, HSt2, HCl2, HV2, HX2, hide (by rw [HD2.out]; exact HG2.out)⟩
              case measure => simp [intOf]; omega
        · rw [hse] at hsc
          have HG2 : Hid (bfsGo (succC l) b (B - (i + 1)) seen ((row.drop (i + 1)).map St.key) = R) := hide (by have := HG'.out; rwa [if_neg hclb, hse, if_pos rfl] at this)
          go_wp2
          go_roundw
          case rel =>
            refine ⟨i + 1, row, seen, hlt, hrB, by go_num, HM, hide (HO.out.alloc _), hide ((Ext.alloc (Ext.refl _) _).heap hsbl |>.trans HSe.out), hide (fun s hs => (HSt.out s hs).keep (grown_ext (Ext.alloc (Ext.refl _) _) none) (.inr (.inr rfl)) (.inl rfl)), hide (fun s hs => ⟨(HCl.out s hs).1, by have := (HCl.out s hs).2; omega⟩), HV, hide (HX.out.alloc _), HG2⟩
          case measure => simp [intOf]; omega
    · have hge : (row.length : Int) ≤ (i : Int) := by omega
      have hR := HG.out
      rw [List.drop_eq_nil_of_le (by omega)] at hR
      have hR2 : R = none := by rw [← hR]; cases (B - i) <;> rfl
      subst hR2
      obtain ⟨A11, c11, rfl, z1, z2, z3, _⟩ := RowOf.own stC HO.out
      clear z3 hR
      go_wp2
      go_ret2
      exact ⟨⟨none, 0, rfl, Nat.le_refl _, by omega, RowOf.nil _ _ _⟩, HX.out⟩
end

end Go.Proofs.Ytnegamkakdbhfaa
