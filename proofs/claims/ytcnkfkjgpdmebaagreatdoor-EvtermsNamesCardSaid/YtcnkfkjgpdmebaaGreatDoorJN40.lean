/- Contract: the way from one class to another one, the program's. -/
import Derived.Test.YtcnkfkjgpdmebaaGreatDoorJN39
import Derived.Deep.RegionHeld3
/- Contract: the way from one class to another one, the program's. -/
namespace Go.Proofs.YtcnkfkjgpdmebaaGreatDoor
open Go.RowKit

/-- A class that was come to, and by which way. -/
structure St where
  cls : Nat
  A : Option Addr
  cap : Nat
  path : List Nat
def stC : Coder St := ⟨2, fun s => [.int .i64 s.cls, .slice s.A s.path.length s.cap], fun _ => rfl, by omega⟩
def St.key (s : St) : Nat × List Nat := (s.cls, s.path)
def ints (p : List Nat) : List Int := p.map Int.ofNat
theorem ints_len (p : List Nat) : (ints p).length = p.length := by simp [ints]
/-- A way in memory, in none of two blocks. -/
structure StIn (w : World) (nq : Option Nat) (sb : Nat) (s : St) : Prop where
  row : Ints w s.A (ints s.path)
  le : s.path.length ≤ s.cap
  max : s.cap ≤ 9223372036854775807
  nil : s.A = none → s.path = [] ∧ s.cap = 0
  far : ∀ c o, s.A = some ⟨c, o, none⟩ → nq ≠ some c ∧ c ≠ sb ∧ c < w.heap.size
theorem StIn.keep {w w' : World} {nq nq' : Option Nat} {sb : Nat} {s : St} (h : StIn w nq sb s) {row : Option Nat} (g : w.grownBy w' row) (hr : row = nq ∨ row = some sb ∨ row = none) (hq : nq' = nq ∨ ∃ k, nq' = some k ∧ w.heap.size ≤ k) : StIn w' nq' sb s where
  row := h.row.keep g.size fun b o e hb => g.block b hb fun hbr => by
    obtain ⟨h1, h2, _⟩ := h.far b o e
    rcases hr with rfl | rfl | rfl
    · exact h1 hbr.symm
    · injection hbr with hbr; exact h2 hbr
    · cases hbr
  le := h.le
  max := h.max
  nil := h.nil
  far c o e := by
    obtain ⟨h1, h2, h3⟩ := h.far c o e
    refine ⟨?_, h2, Nat.lt_of_lt_of_le h3 g.size⟩
    rcases hq with rfl | ⟨k, rfl, hk⟩
    · exact h1
    · intro hkc
      injection hkc with hkc
      omega
theorem own_monoB {w : World} {base base' : Nat} {e : TypeId} {size : Nat} {v : Value} {n : Nat} {xs : List Value} (h : w.ownsRow base e size v n xs) (hb : base' ≤ base) : w.ownsRow base' e size v n xs := by
  rcases h with ⟨h1, h2 | ⟨g, cap, cur, he, hg, h3⟩⟩
  · exact ⟨h1, .inl h2⟩
  · exact ⟨h1, .inr ⟨g, cap, cur, he, Nat.le_trans hb hg, h3⟩⟩
theorem bool_info : (Tryz.prog.info? 4).map (fun i => (i.zero, i.size, i.bytes)) = some (some (.bool false), 1, 1) := by kernel_rfl
theorem step_info : (Tryz.prog.info? 294).map (fun i => (i.zero, i.size, i.bytes)) = some (some (.agg #[.int .i64 0, .slice none 0 0]), 2, 32) := by kernel_rfl
theorem make_bools (n : Nat) (hn : n ≤ 1000) (w : World) : (Instr.makeSlice 292 (.int .i64 n) (.int .i64 n)).run Tryz.prog w = .ok (.slice (some ⟨w.heap.size, 0, none⟩) n n) (w.alloc (.cells (markCells n (fun _ => false)) 4)) := by
  obtain ⟨i1, hj, hy0, hy1, hy2⟩ := info_parts bool_info
  have hmk := run_make (P := Tryz.prog) w 292 4 i1 _ Tryz.underlying292 hj hy0 .i64 .i64 n n (by omega) (Int.le_refl _) (by rw [hy2]; omega) (by omega)
  have hmc : madeCells (Value.bool false).cells ((n : Int).toNat * i1.size) = markCells n (fun _ => false) := by
    rw [hy1, markCells_none, Int.toNat_natCast]
    exact madeOne _ _ rfl
  rw [hmc] at hmk
  simpa using hmk
theorem outs_take (succ : Nat → List Nat) (x : Nat) (p : List Nat) {k : Nat} (hk : k < (succ x).length) : (outs succ x p).take (k + 1) = (outs succ x p).take k ++ [((succ x)[k]'hk, p ++ [k])] := by
  rw [List.take_succ_eq_append_getElem (by simpa [outs] using hk)]
  simp [outs]
theorem outs_len (succ : Nat → List Nat) (x : Nat) (p : List Nat) : (outs succ x p).length = (succ x).length := by simp [outs]
theorem restG_bound {l : List Cls} (hl : l.length ≤ 9) (hs : ∀ c ∈ l, c.sup.length ≤ 9) : restG (succC l) (fun _ => false) l.length ≤ 81 := by
  have : ∀ n, n ≤ l.length → restG (succC l) (fun _ => false) n ≤ 9 * n := by
    intro n
    induction n with
    | zero => intro _; simp [restG]
    | succ n ih =>
      intro hn
      have h1 := ih (by omega)
      have h2 : (succC l n).length ≤ 9 := by unfold succC; rw [List.length_map, supAt_eq (by omega)]; exact hs _ (List.getElem_mem _)
      unfold restG at h1 ⊢
      rw [List.range_succ, List.map_append, List.sum_append]
      simp at h1 ⊢
      omega
  have := this l.length (Nat.le_refl _)
  omega

section
variable (A : Option Addr) (cap : Nat) (l : List Cls) (x y : Str) (w : World)
set_option maxRecDepth 10000 in
set_option maxHeartbeats 8000000 in
theorem sup_path_in (h : Classes w A l) (hl : l.length ≤ 9) (hs : ∀ c ∈ l, c.sup.length ≤ 9) (ho : okL l = true) (a b : Nat) (ha : a < l.length) (hb : b < l.length) (hx : (l[a]'ha).name = x) (hy : (l[b]'hb).name = y)
    (ea : atI l x = a) (eb : atI l y = b) :
    Calls Tryz.prog 195 #[.slice A l.length cap, encStr x, encStr y] w fun e w' => (∃ A' cap', e = .returned (.tuple #[.slice A' (ofNats (pathL l x y)).length cap', .bool (pathL l x y).isSome]) ∧ (ofNats (pathL l x y)).length ≤ cap' ∧ cap' ≤ 9223372036854775807 ∧ Ints w' A' (ofNats (pathL l x y))) ∧ Ext w w' := by
  obtain ⟨i0, hi, hz0, hz1, hz2⟩ := info_parts int_info
  obtain ⟨i2, hj, hw0, hw1, hw2⟩ := info_parts step_info
  have HC := hide h
  have HS := hide hs
  have hle : l.length ≤ 9223372036854775807 := by omega
  have Ho := hide (fun w' (e : Ext w w') => hide (sup_sound A cap l w' (h.ext e) hl hs))
  rw [ho] at Ho
  have Ha := hide (sup_at A cap l x w h hle)
  have Hb := hide (sup_at A cap l y w h hle)
  rw [ea] at Ha
  rw [eb] at Hb
  have hB := restG_bound hl hs
  have HB : Hid (bfsGo (succC l) b (1 + restG (succC l) (fun _ => false) l.length) (fun _ => false) [(a, [])] = pathL l x y) := hide (pathL_bfs ho ha hb x y hx hy (Nat.le_refl _)).symm
  have Hso := hide (okL_sound ho).1
  have Hmk := hide (make_bools l.length (by omega))
  have ha0 : ¬ (a : Int) < 0 := by omega
  have hb0 : ¬ (b : Int) < 0 := by omega
  clear h hs ea eb hx hy ho
  generalize pathL l x y = R at *
  obtain ⟨B, hBe⟩ : ∃ B, B = 1 + restG (succC l) (fun _ => false) l.length := ⟨_, rfl⟩
  rw [← hBe] at HB
  have hBl : B ≤ 90 := by omega
  have HBe := hide hBe
  clear hBe hB
  have hmk := Hmk.out
  go_enter Tryz.func195, Tryz.ntmps195
  go_wp2_with fail
  refine Ha.out.mono ?_
  rintro e w1 ⟨rfl, rfl⟩
  go_wp2_with fail
  refine Hb.out.mono ?_
  rintro e w1 ⟨rfl, rfl⟩
  go_wp2_with fail
  refine (Ho.out _ (by repeat (first | exact Ext.refl _ | exact Ext.pre (by simp) | exact Ext.alloc (by assumption) _ | refine Ext.alloc ?_ _ |  refine Ext.more ?_ _ _ | refine Ext.drew ?_ | refine Ext.drewN ?_ _))).out.mono ?_
  rintro e w2 ⟨rfl, l2, d2, rfl⟩
  have HO0 : Hid ((((more w1 l2 d2).alloc (.cells (markCells l.length (fun _ => false)) 4)).alloc (.cells #[.int .i64 a, .slice none 0 0] 294)).ownsRow w1.heap.size 294 2 (.slice (some ⟨((more w1 l2 d2).alloc (.cells (markCells l.length (fun _ => false)) 4)).heap.size, 0, none⟩) 1 1) 1 [.int .i64 a, .slice none 0 0]) := hide (World.ownsRow_lit _ _ 1 (by simp; omega) (by unfold maxLen; omega) (by simp))
  have HM0 : Hid ((((more w1 l2 d2).alloc (.cells (markCells l.length (fun _ => false)) 4)).alloc (.cells #[.int .i64 a, .slice none 0 0] 294)).heap[w1.heap.size + l2.length]? = some (.cells (markCells l.length (fun _ => false)) 4 (0, 0))) := hide (by
    have := at_newB (more w1 l2 d2) (.cells (markCells l.length (fun _ => false)) 4) (w1.heap.size + l2.length) (by simp)
    exact ((Ext.alloc (Ext.refl _) _).heap (lt_of_obj this)).trans this)
  obtain ⟨sb, hsb⟩ : ∃ sb, sb = w1.heap.size + l2.length := ⟨_, rfl⟩
  have hq0 : (((more w1 l2 d2).alloc (.cells (markCells l.length (fun _ => false)) 4)).heap.size) = sb + 1 := by simp; omega
  rw [← hsb] at HM0
  rw [hq0] at HO0
  have hsb1 : w1.heap.size ≤ sb := by omega
  have Hsb := hide hsb
  clear hsb hq0
  go_wp2
  rw [← Hsb.out]
  go_loopw [11, 12] (fun v u wr => ∃ (i : Nat) (row : List St) (seen : Nat → Bool), i ≤ row.length ∧ row.length ≤ B ∧ u = .int .i64 i ∧ Hid (row.length + restG (succC l) seen l.length ≤ B) ∧ Hid (wr.ownsRow w1.heap.size 294 2 v row.length (row.flatMap stC.f)) ∧
    Hid (wr.heap[sb]? = some (.cells (markCells l.length seen) 4 (0, 0))) ∧ Hid (∀ s ∈ row, StIn wr v.ownBlock sb s) ∧ Hid (∀ s ∈ row, s.cls < l.length ∧ s.path.length ≤ i) ∧ Hid (v.ownBlock ≠ some sb) ∧ Hid (Ext w1 wr) ∧ Hid (bfsGo (succC l) b (B - i) seen ((row.drop i).map St.key) = R)) (fun _ u _ => B - (intOf u).toNat)
  case atStart =>
    refine ⟨0, [⟨a, none, 0, []⟩], fun _ => false, by simp, by simp; have := HBe.out; omega, rfl, hide (by have := HBe.out; simp; omega), HO0, HM0, hide ?_, hide ?_, hide ?_, hide (by repeat (first | exact Ext.refl _ | exact Ext.pre (by simp) | exact Ext.alloc (by assumption) _ | refine Ext.alloc ?_ _ |  refine Ext.more ?_ _ _ | refine Ext.drew ?_ | refine Ext.drewN ?_ _)), hide (by simpa [St.key] using HB.out)⟩
    · intro s hs
      simp at hs
      subst hs
      exact ⟨RowOf.nil _ _ _, Nat.le_refl _, by simp, fun _ => ⟨rfl, rfl⟩, by intro c o e; cases e⟩
    · intro s hs
      simp at hs
      subst hs
      exact ⟨ha, by simp⟩
    · intro e
      simp [Value.ownBlock] at e
  case round =>
    obtain ⟨i, row, seen, hi1, hrB, rfl, HM, HO, HSe, HSt, HCl, HV, HX, HG⟩ := hrel
    obtain ⟨wo, rfl⟩ : ∃ wo : World, wo = wr := ⟨_, rfl⟩
    by_cases hlt : i < row.length
    · obtain ⟨A11, c11, rfl, z1, z2, z3, _⟩ := RowOf.own stC HO.out
      obtain ⟨bq, oq, rfl, hbq, hcell⟩ := RowOf.at_ stC z3 hlt
      have q0 := hcell 0 (by decide)
      have q1 := hcell 1 (by decide)
      have Hin := hide (HSt.out _ (List.getElem_mem hlt))
      obtain ⟨hcN, hpl⟩ := HCl.out _ (List.getElem_mem hlt)
      have hlt' : (i : Int) < (row.length : Int) := by omega
      have hi0' : (0 : Int) ≤ (i : Int) := by omega
      have Hdr : Hid ((row.drop i).map St.key = (row[i]'hlt).key :: (row.drop (i + 1)).map St.key) := hide (by rw [List.drop_eq_getElem_cons hlt]; rfl)
      have Hmem : Hid ((row[i]'hlt) ∈ row) := hide (List.getElem_mem hlt)
      clear hcell z3
      generalize hxs : row[i]'hlt = xs at *
      obtain ⟨cl, pA, pc, p⟩ := xs
      simp only [stC, List.getElem?_cons_zero, List.getElem?_cons_succ, Nat.add_zero] at q0 q1
      simp only at hcN hpl
      have HG' : Hid ((if cl = b then some p else if seen cl then bfsGo (succC l) b (B - (i + 1)) seen ((row.drop (i + 1)).map St.key) else bfsGo (succC l) b (B - (i + 1)) (fun j => j == cl || seen j) ((row.drop (i + 1)).map St.key ++ outs (succC l) cl p)) = R) := hide (by
        have h1 := HG.out
        rw [Hdr.out, show B - i = (B - (i + 1)) + 1 by omega] at h1
        exact h1)
      clear hxs
      have hcl1 : (cl : Int) < (l.length : Int) := by omega
      have hcl0 : (0 : Int) ≤ (cl : Int) := by omega
      have hsbl : sb < wo.heap.size := lt_of_obj HSe.out
      by_cases hclb : cl = b
      · have hR : R = some p := by rw [← HG'.out, if_pos hclb]
        have hcb : ((cl : Int) == (b : Int)) = true := by simp [hclb]
        have hlenp : (ofNats (some p)).length = p.length := by simp [ofNats]
        subst hR
        go_wp2
        go_ret2
        refine ⟨⟨pA, pc, by rw [hlenp]; rfl, by rw [hlenp]; exact Hin.out.le, Hin.out.max, ?_⟩, HX.out.trans (by repeat (first | exact Ext.refl _ | exact Ext.pre (by simp) | exact Ext.alloc (by assumption) _ | refine Ext.alloc ?_ _ |  refine Ext.more ?_ _ _ | refine Ext.drew ?_ | refine Ext.drewN ?_ _))⟩
        have := Hin.out.row
        exact RowOf.ext intC this (by repeat (first | exact Ext.refl _ | exact Ext.pre (by simp) | exact Ext.alloc (by assumption) _ | refine Ext.alloc ?_ _ |  refine Ext.more ?_ _ _ | refine Ext.drew ?_ | refine Ext.drewN ?_ _))
      · have hcb : ((cl : Int) == (b : Int)) = false := by simp; omega
        have hsc : wo.cell? ⟨sb, cl, none⟩ = some (.bool (seen cl)) := by
          have h1 := HSe.out
          rw [← markCells_get l.length seen hcN]
          generalize markCells l.length seen = cs at *
          simp [World.cell?, h1]
        have hsf : wo.frozen? ⟨sb, cl, none⟩ = false := by
          have h1 := HSe.out
          generalize markCells l.length seen = cs at *
          simp [World.frozen?, h1]
        cases hse : seen cl
        · rw [hse] at hsc
          have HG2 : Hid (bfsGo (succC l) b (B - (i + 1)) (fun j => j == cl || seen j) ((row.drop (i + 1)).map St.key ++ outs (succC l) cl p) = R) := hide (by have := HG'.out; rwa [if_neg hclb, hse] at this)
          obtain ⟨bc, oc, hAe, hbc, k0, k1, k2⟩ := (HC.out.ext HX.out).at_ hcN
          subst hAe
          have Hst2 := hide (HC.out.sup _ (List.getElem_mem hcN))
          have Hkn : Hid (∀ s ∈ (l[cl]'hcN).sup, ∃ j, ∃ hj : j < l.length, atI l s = (j : Int) ∧ (l[j]'hj).name = s) := hide (fun s hs => Hso.out.to hcN hs)
          have hSl := HS.out _ (List.getElem_mem hcN)
          have Hsu : Hid (succC l cl = ((l[cl]'hcN).sup).map fun s => (atI l s).toNat) := hide (by unfold succC; rw [supAt_eq hcN])
          clear k0 k2
          generalize (l[cl]'hcN).sup = S at *
          generalize (l[cl]'hcN).A = A5 at *
          generalize (l[cl]'hcN).cap = c5 at *
          have O2 : Hid (((wo.setCell ⟨sb, cl, none⟩ (.bool true)).alloc (.cells #[.int .i64 cl, .slice pA p.length pc] 294)).ownsRow w1.heap.size 294 2 (.slice (some ⟨bq, oq, none⟩) row.length c11) row.length (row.flatMap stC.f)) := hide ((HO.out.kept (grown_set wo sb cl (.bool true)) (.inr HV.out)).alloc _)
          have S2 : Hid (((wo.setCell ⟨sb, cl, none⟩ (.bool true)).alloc (.cells #[.int .i64 cl, .slice pA p.length pc] 294)).heap[sb]? = some (.cells (markCells l.length (fun j => j == cl || seen j)) 4 (0, 0))) := hide (by
            have h1 := blk_setCell HSe.out cl (.bool true)
            rw [markCells_set] at h1
            exact ((Ext.alloc (Ext.refl _) _).heap (lt_of_obj h1)).trans h1)
          have K2 : Hid (∀ s ∈ row, StIn ((wo.setCell ⟨sb, cl, none⟩ (.bool true)).alloc (.cells #[.int .i64 cl, .slice pA p.length pc] 294)) (Value.slice (some ⟨bq, oq, none⟩) row.length c11).ownBlock sb s) := hide (fun s hs => ((HSt.out s hs).keep (grown_set wo sb cl (.bool true)) (.inr (.inl rfl)) (.inl rfl)).keep (grown_ext (Ext.alloc (Ext.refl _) _) none) (.inr (.inr rfl)) (.inl rfl))
          have Kx : Hid (StIn ((wo.setCell ⟨sb, cl, none⟩ (.bool true)).alloc (.cells #[.int .i64 cl, .slice pA p.length pc] 294)) (Value.slice (some ⟨bq, oq, none⟩) row.length c11).ownBlock sb ⟨cl, pA, pc, p⟩) := hide (K2.out _ Hmem.out)
          have hszs : (wo.setCell ⟨sb, cl, none⟩ (.bool true)).heap.size = wo.heap.size := by simp [World.setCell]
          have B2 : Hid (((wo.setCell ⟨sb, cl, none⟩ (.bool true)).alloc (.cells #[.int .i64 cl, .slice pA p.length pc] 294)).heap[wo.heap.size]? = some (.cells #[.int .i64 cl, .slice pA p.length pc] 294 (0, 0))) := hide (at_newB _ _ _ hszs.symm)
          have X2 : Hid (Ext w1 ((wo.setCell ⟨sb, cl, none⟩ (.bool true)).alloc (.cells #[.int .i64 cl, .slice pA p.length pc] 294))) := hide ((Ext.setCell HX.out hsb1 _).alloc _)
          have V2 : Hid ((Value.slice (some ⟨bq, oq, none⟩) row.length c11).ownBlock ≠ some wo.heap.size) := hide (fun h => by have := (HO.out.lt _ h).2; omega)
          have HMs : Hid (∀ r2 : Nat, r2 = row.length + (succC l cl).length → r2 + restG (succC l) (fun j => j == cl || seen j) l.length ≤ B) := hide (fun r2 hr => by have := restG_see (succC l) hse l.length hcN; have := HM.out; omega)
          have hsl2 : (succC l cl).length = S.length := by rw [Hsu.out]; simp
          have Hot : Hid (∀ k (hk : k < S.length) (j : Nat), atI l (S.getD k []) = (j : Int) → (outs (succC l) cl p).take (k + 1) = (outs (succC l) cl p).take k ++ [(j, p ++ [k])]) := hide (by
            intro k hk j hj
            have hk' : k < (succC l cl).length := by rw [hsl2]; exact hk
            rw [outs_take (succC l) cl p hk']
            have : (succC l cl)[k]'hk' = j := by
              simp only [Hsu.out, List.getElem_map]
              simp [hk] at hj
              rw [hj]; simp
            rw [this])
          have Hofin : Hid ((outs (succC l) cl p).take S.length = outs (succC l) cl p) := hide (List.take_of_length_le (by rw [outs_len, hsl2]; exact Nat.le_refl _))
          have hwsz : sb < wo.heap.size := hsbl
          have HMs' : Hid (∀ r2 : Nat, r2 = row.length + S.length → r2 + restG (succC l) (fun j => j == cl || seen j) l.length ≤ B) := hide (fun r2 hr => HMs.out r2 (by rw [hsl2]; exact hr))
          clear HMs hsl2 Hsu hszs
          go_wp2
          go_loopw [11, 71] (fun v u wr => ∃ (k : Nat) (row2 : List St), k ≤ S.length ∧ u = .int .i64 k ∧ row2.length = row.length + k ∧ Hid (wr.ownsRow w1.heap.size 294 2 v row2.length (row2.flatMap stC.f)) ∧
            Hid (wr.heap[sb]? = some (.cells (markCells l.length (fun j => j == cl || seen j)) 4 (0, 0))) ∧ Hid (∀ s ∈ row2, StIn wr v.ownBlock sb s) ∧ Hid (∀ s ∈ row2, s.cls < l.length ∧ s.path.length ≤ i + 1) ∧ Hid (v.ownBlock ≠ some sb) ∧ Hid (Ext w1 wr) ∧
            Hid ((row2.drop (i + 1)).map St.key = (row.drop (i + 1)).map St.key ++ (outs (succC l) cl p).take k) ∧ Hid (wr.heap[wo.heap.size]? = some (.cells #[.int .i64 cl, .slice pA p.length pc] 294 (0, 0))) ∧ Hid (v.ownBlock ≠ some wo.heap.size) ∧ Hid (StIn wr v.ownBlock sb ⟨cl, pA, pc, p⟩)) (fun _ u _ => S.length - (intOf u).toNat)
          case atStart => exact ⟨0, row, Nat.zero_le _, rfl, rfl, O2, S2, K2, hide (fun s hs => ⟨(HCl.out s hs).1, by have := (HCl.out s hs).2; omega⟩), HV, X2, hide (by simp), B2, V2, Kx⟩
          case round =>
            obtain ⟨k, row2, hk, rfl, hr2, HO2, HSe2, HSt2, HCl2, HV2, HX2, HD2, HB2, HW2, HK2⟩ := hrel
            by_cases hltk : k < S.length
            · obtain ⟨b5, o5, rfl, hb5, r0⟩ := (Hst2.out.ext HX2.out).at_ hltk
              have hltk' : (k : Int) < (S.length : Int) := by omega
              have Hmems : Hid (S.getD k [] ∈ S) := hide (by simp [hltk])
              obtain ⟨j, hjl, ej, _⟩ := Hkn.out _ Hmems.out
              have Hots := hide (Hot.out k hltk j ej)
              have HA := hide (fun w' (e : Ext w1 w') => hide (sup_at (some ⟨bc, oc, none⟩) cap l (S.getD k []) w' (HC.out.ext e) hle))
              rw [ej] at HA
              have Hcl := hide (fun w' (e : Ext wr w') => hide (clone_i pA pc (ints p) w' (RowOf.ext intC HK2.out.row e) (by rw [ints_len]; omega) (fun hn => ⟨by have h1 : p = [] := (HK2.out.nil hn).1; rw [h1]; rfl, (HK2.out.nil hn).2⟩)))
              rw [ints_len] at Hcl
              have hxl : wo.heap.size < wr.heap.size := lt_of_obj HB2.out
              have hsbr : sb < wr.heap.size := lt_of_obj HSe2.out
              have hx1 : wr.cell? ⟨wo.heap.size, 1, none⟩ = some (.slice pA p.length pc) := by have := HB2.out; simp [World.cell?, this]
              have hplen : p.length ≤ 100 := by omega
              have hr2l : row2.length ≤ 200 := by omega
              generalize S.getD k [] = sk at *
              clear ej Hmems
              go_wp2
              go_region_held3 (fun w' => w'.cell? ⟨wo.heap.size, 1, none⟩ = some (.slice pA p.length pc)) (first | assumption | go_keep) (first
                | (go_at_call 140
                   refine Calls.mono (HA.out _ ?e).out ?_
                   case e => first | (refine Ext.trans (HX2.out.trans X4.out) ?_; (repeat (first | exact Ext.refl _ | exact Ext.pre (by simp) | exact Ext.alloc (by assumption) _ | refine Ext.alloc ?_ _ | refine Ext.more ?_ _ _ | refine Ext.drew ?_ | refine Ext.drewN ?_ _)); done) | (refine Ext.trans (HX2.out.trans X3.out) ?_; (repeat (first | exact Ext.refl _ | exact Ext.pre (by simp) | exact Ext.alloc (by assumption) _ | refine Ext.alloc ?_ _ | refine Ext.more ?_ _ _ | refine Ext.drew ?_ | refine Ext.drewN ?_ _)); done) | (refine Ext.trans HX2.out ?_; (repeat (first | exact Ext.refl _ | exact Ext.pre (by simp) | exact Ext.alloc (by assumption) _ | refine Ext.alloc ?_ _ | refine Ext.more ?_ _ _ | refine Ext.drew ?_ | refine Ext.drewN ?_ _)); done)
                   rintro e w8 ⟨rfl, rfl⟩)
                | (go_at_call 224
                   refine Calls.mono (Hcl.out _ ?e).out ?_
                   case e => exact (by repeat (first | exact Ext.refl _ | exact Ext.pre (by simp) | exact Ext.alloc (by assumption) _ | refine Ext.alloc ?_ _ |  refine Ext.more ?_ _ _ | refine Ext.drew ?_ | refine Ext.drewN ?_ _))
                   rintro e w3 ⟨⟨v3, rfl, ho3⟩, hx3⟩
                   have X3 : Hid (Ext wr w3) := hide (Ext.trans (by repeat (first | exact Ext.refl _ | exact Ext.pre (by simp) | exact Ext.alloc (by assumption) _ | refine Ext.alloc ?_ _ |  refine Ext.more ?_ _ _ | refine Ext.drew ?_ | refine Ext.drewN ?_ _)) hx3)
                   have Hx3 := hide hx3
                   have O3 : Hid (w3.ownsRow wr.heap.size 3 1 v3 p.length ((ints p).map (Value.int .i64))) := hide (own_monoB ho3 (Ext.size (by repeat (first | exact Ext.refl _ | exact Ext.pre (by simp) | exact Ext.alloc (by assumption) _ | refine Ext.alloc ?_ _ |  refine Ext.more ?_ _ _ | refine Ext.drew ?_ | refine Ext.drewN ?_ _))))
                   have hs3 : w3.cell? ⟨wo.heap.size, 1, none⟩ = some (.slice pA p.length pc) := (World.cell?_of_block (a := ⟨wo.heap.size, 1, none⟩) (X3.out.heap hxl)).trans hx1
                   clear ho3 hx3)
                | (refine step_append_rowB _ rfl (.tmp 82) (.tmp 84) 38 rfl wr.heap.size 3 i0 _ 1 8 Tryz.underlying38 hi hz0 hz1 hz2 rfl (by decide) v3 p.length ((ints p).map (Value.int .i64)) rfl (own_extB O3.out (by repeat (first | exact Ext.refl _ | exact Ext.pre (by simp) | exact Ext.alloc (by assumption) _ | refine Ext.alloc ?_ _ |  refine Ext.more ?_ _ _ | refine Ext.drew ?_ | refine Ext.drewN ?_ _))) (some ⟨_, 0, none⟩) 1 1 [.int .i64 k] rfl (by first | (refine Row.boxV _ (at_newB _ _ _ ?_); simp; done) | (refine Row.boxV _ ((Hx3.out.heap ?_).trans (at_newB _ _ _ ?_)) <;> simp; done)) (by intro u hu; simp at hu; subst hu; rfl) (by unfold maxLen; omega) (by omega) (Ext.size (X3.out.trans (by repeat (first | exact Ext.refl _ | exact Ext.pre (by simp) | exact Ext.alloc (by assumption) _ | refine Ext.alloc ?_ _ |  refine Ext.more ?_ _ _ | refine Ext.drew ?_ | refine Ext.drewN ?_ _)))) ?_
                   intro v4 w4 hown4 hg4 hat4
                   obtain ⟨A4, c4, rfl, t1, t2, t3, t4⟩ := Ints.own (l := ints (p ++ [k])) (by have := hown4; simpa [ints] using this)
                   have X4 : Hid (Ext wr w4) := hide (Ext.app (X3.out.trans (by repeat (first | exact Ext.refl _ | exact Ext.pre (by simp) | exact Ext.alloc (by assumption) _ | refine Ext.alloc ?_ _ |  refine Ext.more ?_ _ _ | refine Ext.drew ?_ | refine Ext.drewN ?_ _))) hg4 (own_extB O3.out (by repeat (first | exact Ext.refl _ | exact Ext.pre (by simp) | exact Ext.alloc (by assumption) _ | refine Ext.alloc ?_ _ |  refine Ext.more ?_ _ _ | refine Ext.drew ?_ | refine Ext.drewN ?_ _))) (Nat.le_refl _))
                   have N4 : Hid (StIn w4 u11.ownBlock sb ⟨j, A4, c4, p ++ [k]⟩) := hide ⟨t3, by rw [← ints_len]; exact t1, t2, fun hn => by have hn' : A4 = none := hn; rw [hn'] at t3; exact (absurd (t3.2 (by simp [ints])) (by rintro ⟨_, _, h, _⟩; cases h)), fun c o e => ⟨fun h => by have := (HO2.out.lt _ h).2; have := (t4 c o e).1; omega, by have := (t4 c o e).1; omega, (t4 c o e).2⟩⟩
                   have hs4 : w4.cell? ⟨wo.heap.size, 1, none⟩ = some (.slice pA p.length pc) := (World.cell?_of_block (a := ⟨wo.heap.size, 1, none⟩) (X4.out.heap hxl)).trans hx1
                   clear hown4 hg4 hat4 t1 t2 t3 t4)
                | (refine step_append_rowB _ rfl (.tmp 76) (.tmp 87) 295 rfl w1.heap.size 294 i2 _ 2 32 Tryz.underlying295 hj hw0 hw1 hw2 rfl (by decide) u11 row2.length (row2.flatMap stC.f) rfl (own_extB HO2.out (X4.out.trans (by repeat (first | exact Ext.refl _ | exact Ext.pre (by simp) | exact Ext.alloc (by assumption) _ | refine Ext.alloc ?_ _ |  refine Ext.more ?_ _ _ | refine Ext.drew ?_ | refine Ext.drewN ?_ _)))) (some ⟨_, 0, none⟩) 1 1 [.int .i64 j, .slice A4 (ints (p ++ [k])).length c4] rfl (Row.box2 _ _ (at_newB _ _ _ (by simp))) (by intro u hu; simp at hu; rcases hu with rfl | rfl <;> rfl) (by unfold maxLen; omega) (by omega) (Ext.size (HX2.out.trans (X4.out.trans (by repeat (first | exact Ext.refl _ | exact Ext.pre (by simp) | exact Ext.alloc (by assumption) _ | refine Ext.alloc ?_ _ |  refine Ext.more ?_ _ _ | refine Ext.drew ?_ | refine Ext.drewN ?_ _))))) ?_
                   intro v5 w5 hown5 hg5 hat5
                   have X5 : Hid (Ext w1 w5) := hide (Ext.app (HX2.out.trans (X4.out.trans (by repeat (first | exact Ext.refl _ | exact Ext.pre (by simp) | exact Ext.alloc (by assumption) _ | refine Ext.alloc ?_ _ |  refine Ext.more ?_ _ _ | refine Ext.drew ?_ | refine Ext.drewN ?_ _)))) hg5 (own_extB HO2.out (X4.out.trans (by repeat (first | exact Ext.refl _ | exact Ext.pre (by simp) | exact Ext.alloc (by assumption) _ | refine Ext.alloc ?_ _ |  refine Ext.more ?_ _ _ | refine Ext.drew ?_ | refine Ext.drewN ?_ _)))) (Nat.le_refl _))
                   have K5 : Hid (∀ s ∈ row2, StIn w5 v5.ownBlock sb s) := hide (fun s hs => ((HSt2.out s hs).keep (grown_ext (X4.out.trans (by repeat (first | exact Ext.refl _ | exact Ext.pre (by simp) | exact Ext.alloc (by assumption) _ | refine Ext.alloc ?_ _ |  refine Ext.more ?_ _ _ | refine Ext.drew ?_ | refine Ext.drewN ?_ _))) none) (.inr (.inr rfl)) (.inl rfl)).keep hg5 (.inl rfl) (hat5.imp id (fun h => ⟨_, h, Nat.le_refl _⟩)))
                   have N5 : Hid (StIn w5 v5.ownBlock sb ⟨j, A4, c4, p ++ [k]⟩) := hide ((N4.out.keep (grown_ext (by repeat (first | exact Ext.refl _ | exact Ext.pre (by simp) | exact Ext.alloc (by assumption) _ | refine Ext.alloc ?_ _ |  refine Ext.more ?_ _ _ | refine Ext.drew ?_ | refine Ext.drewN ?_ _)) none) (.inr (.inr rfl)) (.inl rfl)).keep hg5 (.inl rfl) (hat5.imp id (fun h => ⟨_, h, Nat.le_refl _⟩)))
                   have Kx5 : Hid (StIn w5 v5.ownBlock sb ⟨cl, pA, pc, p⟩) := hide ((HK2.out.keep (grown_ext (X4.out.trans (by repeat (first | exact Ext.refl _ | exact Ext.pre (by simp) | exact Ext.alloc (by assumption) _ | refine Ext.alloc ?_ _ |  refine Ext.more ?_ _ _ | refine Ext.drew ?_ | refine Ext.drewN ?_ _))) none) (.inr (.inr rfl)) (.inl rfl)).keep hg5 (.inl rfl) (hat5.imp id (fun h => ⟨_, h, Nat.le_refl _⟩)))
                   have hsx := ((X4.out.heap hsbr).trans HSe2.out)
                   have hbx := ((X4.out.heap hxl).trans HB2.out)
                   have S5 : Hid (w5.heap[sb]? = some (.cells (markCells l.length (fun j => j == cl || seen j)) 4 (0, 0))) := hide ((hg5.block sb (Nat.lt_of_lt_of_le (lt_of_obj hsx) (Ext.size (by repeat (first | exact Ext.refl _ | exact Ext.pre (by simp) | exact Ext.alloc (by assumption) _ | refine Ext.alloc ?_ _ |  refine Ext.more ?_ _ _ | refine Ext.drew ?_ | refine Ext.drewN ?_ _)))) (fun h => HV2.out h.symm)).trans ((Ext.heap (by repeat (first | exact Ext.refl _ | exact Ext.pre (by simp) | exact Ext.alloc (by assumption) _ | refine Ext.alloc ?_ _ |  refine Ext.more ?_ _ _ | refine Ext.drew ?_ | refine Ext.drewN ?_ _)) (lt_of_obj hsx)).trans hsx))
                   have B5 : Hid (w5.heap[wo.heap.size]? = some (.cells #[.int .i64 cl, .slice pA p.length pc] 294 (0, 0))) := hide ((hg5.block wo.heap.size (Nat.lt_of_lt_of_le (lt_of_obj hbx) (Ext.size (by repeat (first | exact Ext.refl _ | exact Ext.pre (by simp) | exact Ext.alloc (by assumption) _ | refine Ext.alloc ?_ _ |  refine Ext.more ?_ _ _ | refine Ext.drew ?_ | refine Ext.drewN ?_ _)))) (fun h => HW2.out h.symm)).trans ((Ext.heap (by repeat (first | exact Ext.refl _ | exact Ext.pre (by simp) | exact Ext.alloc (by assumption) _ | refine Ext.alloc ?_ _ |  refine Ext.more ?_ _ _ | refine Ext.drew ?_ | refine Ext.drewN ?_ _)) (lt_of_obj hbx)).trans hbx))
                   have hw4s : wr.heap.size ≤ w4.heap.size := X4.out.size
                   have V5 : Hid (v5.ownBlock ≠ some sb) := hide (fun h => by
                     rcases hat5 with h5 | h5
                     · rw [h5] at h; exact HV2.out h
                     · rw [h5] at h; injection h with h; simp at h; omega)
                   have W5 : Hid (v5.ownBlock ≠ some wo.heap.size) := hide (fun h => by
                     rcases hat5 with h5 | h5
                     · rw [h5] at h; exact HW2.out h
                     · rw [h5] at h; injection h with h; simp at h; omega)
                   have hs5 : w5.cell? ⟨wo.heap.size, 1, none⟩ = some (.slice pA p.length pc) := by have := B5.out; simp [World.cell?, this]
                   have O5 : Hid (w5.ownsRow w1.heap.size 294 2 v5 (row2 ++ [(⟨j, A4, c4, p ++ [k]⟩ : St)]).length ((row2 ++ [(⟨j, A4, c4, p ++ [k]⟩ : St)]).flatMap stC.f)) := hide (by
                     have := hown5
                     rw [ints_len] at this
                     simpa [stC] using this)
                   clear hown5 hg5 hat5 hsx hbx))
              all_goals
                go_wp2
                go_roundw
                case rel =>
                  refine ⟨k + 1, row2 ++ [(⟨j, A4, c4, p ++ [k]⟩ : St)], hltk, by go_num, by rw [List.length_append, hr2]; simp; omega, O5, S5, hide ?_, hide ?_, V5, X5, hide ?_, B5, W5, Kx5⟩
                  · intro s hs
                    rcases List.mem_append.1 hs with hs | hs
                    · exact K5.out s hs
                    · simp only [List.mem_singleton] at hs; rw [hs]; exact N5.out
                  · intro s hs
                    rcases List.mem_append.1 hs with hs | hs
                    · exact HCl2.out s hs
                    · simp only [List.mem_singleton] at hs; rw [hs]; exact ⟨hjl, by simp; omega⟩
                  · rw [List.drop_append_of_le_length (by omega), List.map_append, HD2.out, Hots.out, List.append_assoc]
                    rfl
                case measure => simp [intOf]; omega
            · have hgek : (S.length : Int) ≤ (k : Int) := by omega
              have hkS : k = S.length := by omega
              rw [hkS, Hofin.out] at HD2
              have hM3 := HMs'.out row2.length (by omega)
              clear hkS
              go_wp2
              go_roundw
              case rel =>
                refine ⟨i + 1, row2, fun j => j == cl || seen j, by omega, by omega, by go_num, hide hM3, HO2, HSe2, HSt2, HCl2, HV2, HX2, hide (by rw [HD2.out]; exact HG2.out)⟩
              case measure => simp [intOf]; omega
        · rw [hse] at hsc
          have HG2 : Hid (bfsGo (succC l) b (B - (i + 1)) seen ((row.drop (i + 1)).map St.key) = R) := hide (by have := HG'.out; rwa [if_neg hclb, hse, if_pos rfl] at this)
          go_wp2
          go_roundw
          case rel =>
            refine ⟨i + 1, row, seen, hlt, hrB, by go_num, HM, hide (HO.out.alloc _), hide ((Ext.alloc (Ext.refl _) _).heap hsbl |>.trans HSe.out), hide (fun s hs => (HSt.out s hs).keep (grown_ext (Ext.alloc (Ext.refl _) _) none) (.inr (.inr rfl)) (.inl rfl)), hide (fun s hs => ⟨(HCl.out s hs).1, by have := (HCl.out s hs).2; omega⟩), HV, hide (HX.out.alloc _), HG2⟩
          case measure => simp [intOf]; omega
    · have hge : (row.length : Int) ≤ (i : Int) := by omega
      have hR := HG.out
      rw [List.drop_eq_nil_of_le (by omega)] at hR
      have hR2 : R = none := by rw [← hR]; cases (B - i) <;> rfl
      subst hR2
      obtain ⟨A11, c11, rfl, z1, z2, z3, _⟩ := RowOf.own stC HO.out
      clear z3 hR
      go_wp2
      go_ret2
      exact ⟨⟨none, 0, rfl, Nat.le_refl _, by omega, RowOf.nil _ _ _⟩, HX.out⟩
end

end Go.Proofs.YtcnkfkjgpdmebaaGreatDoor

/- Contracts: the program's way, whole; those that are not above others. -/
namespace Go.Proofs.YtcnkfkjgpdmebaaGreatDoor
open Go.RowKit

section
variable (A : Option Addr) (cap : Nat) (l : List Cls) (x y : Str) (w : World)
set_option maxRecDepth 10000 in
set_option maxHeartbeats 2000000 in
theorem sup_path (h : Classes w A l) (hl : l.length ≤ 9) (hs : ∀ c ∈ l, c.sup.length ≤ 9) :
    Calls Tryz.prog 195 #[.slice A l.length cap, encStr x, encStr y] w fun e w' => (∃ A' cap', e = .returned (.tuple #[.slice A' (ofNats (pathL l x y)).length cap', .bool (pathL l x y).isSome]) ∧ (ofNats (pathL l x y)).length ≤ cap' ∧ cap' ≤ 9223372036854775807 ∧ Ints w' A' (ofNats (pathL l x y))) ∧ Ext w w' := by
  have Ha := hide (sup_at A cap l x w h (by omega))
  have Hb := hide (sup_at A cap l y w h (by omega))
  have Ho := hide (fun w' (e : Ext w w') => hide (sup_sound A cap l w' (h.ext e) hl hs))
  rcases atI_cases l x with ⟨e1, _, _⟩ | ⟨a, ha, e1, _, ex⟩
  · have hR : pathL l x y = none := by unfold pathL; rw [e1]; simp
    rw [e1] at Ha
    rw [hR]
    clear h hs e1 hR
    generalize atI l y = b at *
    go_enter Tryz.func195, Tryz.ntmps195
    go_wp2_with fail
    refine Ha.out.mono ?_
    rintro e w1 ⟨rfl, rfl⟩
    go_wp2_with fail
    refine Hb.out.mono ?_
    rintro e w1 ⟨rfl, rfl⟩
    go_wp2
    go_ret2
    exact ⟨⟨none, 0, rfl, Nat.le_refl _, by omega, RowOf.nil _ _ _⟩, (by repeat (first | exact Ext.refl _ | exact Ext.pre (by simp) | exact Ext.alloc (by assumption) _ | refine Ext.alloc ?_ _ |  refine Ext.more ?_ _ _ | refine Ext.drew ?_ | refine Ext.drewN ?_ _))⟩
  · rcases atI_cases l y with ⟨e2, _, _⟩ | ⟨b, hb, e2, _, ey⟩
    · have hR : pathL l x y = none := by unfold pathL; rw [e2]; simp
      rw [e1] at Ha
      rw [e2] at Hb
      rw [hR]
      have ha0 : ¬ (a : Int) < 0 := by omega
      clear h hs e1 hR e2
      go_enter Tryz.func195, Tryz.ntmps195
      go_wp2_with fail
      refine Ha.out.mono ?_
      rintro e w1 ⟨rfl, rfl⟩
      go_wp2_with fail
      refine Hb.out.mono ?_
      rintro e w1 ⟨rfl, rfl⟩
      go_wp2
      go_ret2
      exact ⟨⟨none, 0, rfl, Nat.le_refl _, by omega, RowOf.nil _ _ _⟩, (by repeat (first | exact Ext.refl _ | exact Ext.pre (by simp) | exact Ext.alloc (by assumption) _ | refine Ext.alloc ?_ _ |  refine Ext.more ?_ _ _ | refine Ext.drew ?_ | refine Ext.drewN ?_ _))⟩
    · cases ho : okL l
      · have hR : pathL l x y = none := by unfold pathL; rw [ho]; simp
        rw [e1] at Ha
        rw [e2] at Hb
        rw [ho] at Ho
        rw [hR]
        have ha0 : ¬ (a : Int) < 0 := by omega
        have hb0 : ¬ (b : Int) < 0 := by omega
        clear h hs e1 hR e2 ho
        go_enter Tryz.func195, Tryz.ntmps195
        go_wp2_with fail
        refine Ha.out.mono ?_
        rintro e w1 ⟨rfl, rfl⟩
        go_wp2_with fail
        refine Hb.out.mono ?_
        rintro e w1 ⟨rfl, rfl⟩
        go_wp2_with fail
        refine (Ho.out _ (by repeat (first | exact Ext.refl _ | exact Ext.pre (by simp) | exact Ext.alloc (by assumption) _ | refine Ext.alloc ?_ _ |  refine Ext.more ?_ _ _ | refine Ext.drew ?_ | refine Ext.drewN ?_ _))).out.mono ?_
        rintro e w2 ⟨rfl, l2, d2, rfl⟩
        go_wp2
        go_ret2
        exact ⟨⟨none, 0, rfl, Nat.le_refl _, by omega, RowOf.nil _ _ _⟩, (by repeat (first | exact Ext.refl _ | exact Ext.pre (by simp) | exact Ext.alloc (by assumption) _ | refine Ext.alloc ?_ _ |  refine Ext.more ?_ _ _ | refine Ext.drew ?_ | refine Ext.drewN ?_ _))⟩
      · exact sup_path_in A cap l x y w h hl hs ho a b ha hb ex ey e1 e2
end

/-! ### Those that are not above others -/
section
variable (A B : Option Addr) (cap cap' : Nat) (l : List Cls) (ns : List Str) (w : World)

end

end Go.Proofs.YtcnkfkjgpdmebaaGreatDoor

/- Contract: the proof by what is given alone (entail.Super). -/
namespace Go.Proofs.YtcnkfkjgpdmebaaGreatDoor
open Go.RowKit

theorem pathL_len {l : List Cls} {a b : Str} {p : List Nat} (h : pathL l a b = some p) : p.length < l.length := by
  unfold pathL at h
  split at h
  · obtain ⟨n, hn, h2⟩ := List.exists_of_findSome?_eq_some h
    have := (pathN_len l b n a p h2).1
    have hm := List.mem_range.1 hn
    omega
  · cases h
theorem f0_cells {w : World} {b : Nat} (h : w.heap[b]? = some (.cells #[.int .i64 0, .int .i64 0, .slice none 0 0, .slice none 0 0] 34)) : w.cell? ⟨b, 0, none⟩ = some (.int .i64 0) ∧ w.cell? ⟨b, 1, none⟩ = some (.int .i64 0) ∧ w.cell? ⟨b, 2, none⟩ = some (.slice none 0 0) ∧ w.cell? ⟨b, 3, none⟩ = some (.slice none 0 0) ∧ w.frozen? ⟨b, 0, none⟩ = false ∧ w.frozen? ⟨b, 1, none⟩ = false ∧ w.frozen? ⟨b, 2, none⟩ = false ∧ w.frozen? ⟨b, 3, none⟩ = false := by
  refine ⟨?_, ?_, ?_, ?_, ?_, ?_, ?_, ?_⟩ <;> simp [World.cell?, World.frozen?, h]
/-- A proof is written into a box. -/
def setPf (w : World) (b : Nat) (t : Pf) : World :=
  (((w.setCell ⟨b, 0, none⟩ (.int .i64 t.kind)).setCell ⟨b, 1, none⟩ (.int .i64 t.n)).setCell ⟨b, 2, none⟩ (.slice t.T t.types.length t.tc)).setCell ⟨b, 3, none⟩ (.slice t.A t.kids.length t.cap)
theorem setPf_grown (w : World) (b : Nat) (t : Pf) : w.grownBy (setPf w b t) (some b) :=
  grown_trans (grown_trans (grown_trans (grown_cell _ _ _ _) (grown_cell _ _ _ _)) (grown_cell _ _ _ _)) (grown_cell _ _ _ _)
theorem setPf_ext {w W : World} {b : Nat} (x : Ext w W) (h : w.heap.size ≤ b) (t : Pf) : Ext w (setPf W b t) := (((x.setCell h _).setCell h _).setCell h _).setCell h _
theorem setPf_box {w : World} {b : Nat} {t : Pf} (h : FBox w b t) (u : Pf) : FBox (setPf w b u) b u := by
  have h1 := blk_setCell (blk_setCell (blk_setCell (blk_setCell h 0 (.int .i64 u.kind)) 1 (.int .i64 u.n)) 2 (.slice u.T u.types.length u.tc)) 3 (.slice u.A u.kids.length u.cap)
  unfold FBox setPf
  rw [h1]
  simp
theorem setPf_other {W : World} {b k : Nat} (a : Pf) (h : k ≠ b) : (setPf W b a).heap[k]? = W.heap[k]? := by
  unfold setPf
  rw [Below.heap_setCell _ _ _ _ h, Below.heap_setCell _ _ _ _ h, Below.heap_setCell _ _ _ _ h, Below.heap_setCell _ _ _ _ h]
theorem CpF.set {w w1 : World} {x : Pf.Pure} {u : Pf} (h : CpF w w1 x u) {b : Nat} (hb : AwayF b u) (a : Pf) : CpF w (setPf w1 b a) x u :=
  ⟨h.inn.grown (setPf_grown w1 b a) (fun c e => by injection e with e; subst e; exact hb), h.is, h.away⟩
/-- A proof of given number k. -/
def leafF (k : Nat) : Pf := .mk 1 k none 0 [] none 0 []
theorem leafF_cp (w w' : World) (k : Nat) : CpF w w' (chainQ k []) (leafF k) :=
  ⟨.mk ⟨Nat.zero_le _, by show 0 ≤ 9223372036854775807; omega, Nat.zero_le _, by show 0 ≤ 9223372036854775807; omega, TysIn.nil _ _, RowOf.nil _ _ _⟩ (by intro k hk; cases hk), by rw [Pf.pure_eq]; rfl,
    fun c _ => .mk (fun h => absurd rfl h) (by intro x hx; cases hx) (fun h => absurd rfl h) (by intro x hx; cases hx)⟩
theorem leafF_away (c k : Nat) : AwayF c (leafF k) := .mk (fun h => absurd rfl h) (by intro x hx; cases hx) (fun h => absurd rfl h) (by intro x hx; cases hx)
/-- A proof by a class above. -/
def supF (n g : Nat) (y : Pf) : Pf := .mk 2 n none 0 [] (some ⟨g, 0, none⟩) 1 [y]
theorem supF_cp {w w1 w2 : World} {k : Nat} {l : List Nat} {n g : Nat} {y : Pf} (h : CpF w w1 (chainQ k l) y) (hs : w.heap.size ≤ w1.heap.size) (hg : g = w1.heap.size) (e : Ext w1 w2) (d : w2.heap[g]? = some (.cells #[.int .i64 y.kind, .int .i64 y.n, .slice y.T y.types.length y.tc, .slice y.A y.kids.length y.cap] 34 (0, 0))) :
    CpF w w2 (chainQ k (l ++ [n])) (supF n g y) := by
  subst hg
  refine ⟨.mk ⟨Nat.zero_le _, by show 0 ≤ 9223372036854775807; omega, Nat.le_refl _, by show 1 ≤ 9223372036854775807; omega, TysIn.nil _ _, RowOf.block pfC [y] d⟩ (fun x hx => ?_), ?_, fun c hc => .mk (fun h => absurd rfl h) (by intro x hx; cases hx) (fun _ a e => ?_) (fun x hx => ?_)⟩
  · have hx : x ∈ [y] := hx
    rw [List.mem_singleton] at hx; subst hx; exact h.inn.ext e
  · rw [chainQ_snoc, Pf.pure_eq]
    show Pf.Pure.mk 2 n [] [y.pure] = _
    rw [h.is]
  · injection e with e; subst e; show w1.heap.size ≠ c; omega
  · have hx : x ∈ [y] := hx
    rw [List.mem_singleton] at hx; subst hx; exact h.away c hc
theorem chain_size (k : Nat) : ∀ (n : Nat) (l : List Nat), l.length = n → ∀ u : Pf, u.pure = chainQ k l → u.size = l.length + 1 := by
  intro n
  induction n with
  | zero =>
    intro l hn u h
    rw [List.length_eq_zero_iff] at hn
    subst hn
    rw [Pf.pure_eq] at h
    injection h with _ _ _ h
    have h : u.kids.map Pf.pure = [] := h
    rw [List.map_eq_nil_iff] at h
    rw [Pf.size_eq, h]; rfl
  | succ m ih =>
    intro l hn u h
    rcases List.eq_nil_or_concat l with rfl | ⟨l, n, rfl⟩
    · cases hn
    rw [List.concat_eq_append] at h hn ⊢
    rw [chainQ_snoc, Pf.pure_eq] at h
    injection h with _ _ _ h
    obtain ⟨y, hy, hp⟩ : ∃ y, u.kids = [y] ∧ y.pure = chainQ k l := by
      cases hk : u.kids with
      | nil => rw [hk] at h; cases h
      | cons y r =>
        rw [hk] at h
        cases r with
        | nil => exact ⟨y, rfl, by simpa using h⟩
        | cons z r => simp at h
    rw [Pf.size_eq, hy]
    show ([y].map Pf.size).sum + 1 = _
    have := ih l (by simpa using hn) y hp
    simp [this]
theorem all1F {α : Type} {P : α → Prop} {x : α} (h : P x) : ∀ y ∈ [x], P y := fun y hy => by simp at hy; subst hy; exact h
/-- What the search by what is given tells. -/
structure SupOk (w w' : World) (O : Option (Nat × List Nat)) (u : Pf) : Prop where
  yes : ∀ i path, O = some (i, path) → CpF w w' (chainQ i path) u ∧ path.length ≤ 9
  no : O = none → u = Pf.zero

set_option maxRecDepth 10000 in
set_option maxHeartbeats 8000000 in
theorem en_super (x : EnD) (G : Option Addr) (gc : Nat) (given : List Pd) (p : Pd) (w : World) (he : EnIn w x) (hg : PdsIn w G given) (hp : PdIn w p) (hgl : given.length ≤ 1000000) (hl9 : x.classes.length ≤ 9) (hs9 : ∀ c ∈ x.classes, c.sups.length ≤ 9) :
    Calls Tryz.prog 147 #[enV x, .slice G given.length gc, pdV p] w fun e w' => (∃ u, e = .returned (.tuple #[pfV u, .bool (supQ x.classes given p.cls p.ty.pure).isSome]) ∧ SupOk w w' (supQ x.classes given p.cls p.ty.pure) u) ∧ Ext w w' := by
  obtain ⟨W, hW⟩ : ∃ W, W = ((w.alloc (.cells #[.slice x.D x.datas.length x.dc, .slice x.C x.classes.length x.cc, .slice x.I x.insts.length x.ic] 26)).alloc (.cells #[encStr p.cls, encStr p.ty.con, .int .i64 p.ty.var, .slice p.ty.A p.ty.args.length p.ty.cap] 55)).alloc (.cells #[.int .i64 0, .int .i64 0, .slice none 0 0, .slice none 0 0] 34) := ⟨_, rfl⟩
  have HW := hide hW.symm
  have X0 : Hid (Ext w W) := hide (by rw [hW]; exact (((Ext.refl _).alloc _).alloc _).alloc _)
  have B1 : Hid (EnBox W w.heap.size x) := hide (by rw [hW]; exact (EnBox.new w x).ext (((Ext.refl _).alloc _).alloc _))
  have B2 : Hid (PdBox W (w.heap.size + 1) p) := hide (by rw [hW]; exact PdBox.ext (at_newB _ _ _ (by simp)) ((Ext.refl _).alloc _))
  have B3 : Hid (W.heap[w.heap.size + 2]? = some (.cells #[.int .i64 0, .int .i64 0, .slice none 0 0, .slice none 0 0] 34)) := hide (by rw [hW]; exact at_newB _ _ _ (by simp))
  have HsW : Hid (W.heap.size = w.heap.size + 3) := hide (by rw [hW]; simp)
  have HG := hide (hg.ext X0.out)
  have HT := hide (hp.ty.ext X0.out)
  have HC := hide (classes_of (he.classes.ext X0.out))
  have H9 : Hid ((x.classes.map toCls).length ≤ 9 ∧ ∀ c ∈ x.classes.map toCls, c.sup.length ≤ 9) := hide ⟨by simpa using hl9, fun c hc => by
    obtain ⟨k, hk, rfl⟩ := List.mem_map.1 hc
    exact hs9 k hk⟩
  have HR : Hid (supFrom (hitS x.classes p.cls p.ty.pure) 0 (given.drop 0) = supQ x.classes given p.cls p.ty.pure) := hide (by rw [List.drop_zero]; rfl)
  have Hlen : Hid (∀ q : Pd, ∀ path, hitS x.classes p.cls p.ty.pure q = some path → path.length ≤ 9) := hide (fun q path h => by
    unfold hitS at h
    split at h
    · have := pathL_len h
      rw [List.length_map] at this
      omega
    · cases h)
  clear hW he hg hp hl9 hs9
  unfold enV pdV
  generalize supQ x.classes given p.cls p.ty.pure = RES at *
  go_enter Tryz.func147, Tryz.ntmps147
  go_upto_region 1 with fail
  rw [HW.out]
  clear HW
  go_wp2
  go_loopw [17] (fun i wr => ∃ k : Nat, k ≤ given.length ∧ i = .int .i64 k ∧ Hid (supFrom (hitS x.classes p.cls p.ty.pure) k (given.drop k) = RES) ∧ Hid (Ext W wr)) (fun i _ => given.length - (intOf i).toNat)
  case atStart => exact ⟨0, Nat.zero_le _, rfl, HR, hide (Ext.refl _)⟩
  case round =>
    obtain ⟨k, hk, rfl, HF, HX⟩ := hrel
    by_cases hlt : k < given.length
    · have hlt' : (k : Int) < (given.length : Int) := by omega
      have hk0 : (0 : Int) ≤ (k : Int) := by omega
      obtain ⟨b, o, rfl, hb, q0, q1, q2, q3⟩ := (HG.out.ext HX.out).at_ hlt
      have hqi := HG.out.all _ (List.getElem_mem hlt)
      have Hhit := hide (fun path (h : hitS x.classes p.cls p.ty.pure (given[k]'hlt) = some path) => supFrom_hit hlt h)
      have Hno := hide (fun (h : hitS x.classes p.cls p.ty.pure (given[k]'hlt) = none) => (supFrom_no hlt h).symm.trans HF.out)
      have Hl9 := hide (Hlen.out (given[k]'hlt))
      have HE : Hid (hitS x.classes p.cls p.ty.pure (given[k]'hlt) = if sameB (given[k]'hlt).ty p.ty = true then pathL (x.classes.map toCls) (given[k]'hlt).cls p.cls else none) := hide rfl
      have HS := hide (fun w' (e : Ext W w') => hide (t_same (given[k]'hlt).ty p.ty w' (hqi.ty.ext e) (HT.out.ext e)))
      have HP := hide (fun w' (e : Ext W w') => hide (sup_path x.C x.cc (x.classes.map toCls) (given[k]'hlt).cls p.cls w' (HC.out.ext e) H9.out.1 H9.out.2))
      generalize given[k]'hlt = q at *
      generalize hitS x.classes p.cls p.ty.pure q = HIT at *
      obtain ⟨n0, e0, e1, e2, e3⟩ := And.intro ((B2.out.ext HX.out).lt) ((B2.out.ext HX.out).cells)
      obtain ⟨m0, d0, d1, d2⟩ := And.intro ((B1.out.ext HX.out).lt) ((B1.out.ext HX.out).cells)
      unfold tyV at HS
      rw [List.length_map] at HP
      clear hqi
      go_wp2_with fail
      refine (HS.out _ (HX.out.alloc _)).out.mono ?_
      rintro e w2 ⟨rfl, hx⟩
      have X2 := hide (((Ext.refl wr).alloc (.cells #[encStr q.cls, encStr q.ty.con, .int .i64 q.ty.var, .slice q.ty.A q.ty.args.length q.ty.cap] 55)).trans hx)
      have XX := hide (HX.out.trans X2.out)
      have C2 : Hid (PdBox w2 wr.heap.size q) := hide ((PdBox.new wr q).ext hx)
      clear hx HS q0 q1 q2 q3 hb n0 e0 e1 e2 e3 m0 d0 d1 d2
      cases hs : sameB q.ty p.ty
      · have hn : HIT = none := by rw [HE.out, hs]; rfl
        have HF2 := hide (Hno.out hn)
        clear Hhit Hno HE HP Hl9 C2
        go_wp2
        go_roundw
        case rel => exact ⟨k + 1, hlt, by go_num, HF2, XX⟩
        case measure => simp [intOf]; omega
      · have HE2 : Hid (HIT = pathL (x.classes.map toCls) q.cls p.cls) := hide (by rw [HE.out, hs]; rfl)
        clear HE
        obtain ⟨n0, e0, e1, e2, e3⟩ := And.intro ((B2.out.ext XX.out).lt) ((B2.out.ext XX.out).cells)
        obtain ⟨m0, d0, d1, d2⟩ := And.intro ((B1.out.ext XX.out).lt) ((B1.out.ext XX.out).cells)
        obtain ⟨l0, c0, c1, c2, c3⟩ := And.intro C2.out.lt C2.out.cells
        go_wp2_with fail
        refine (HP.out _ XX.out).out.mono ?_
        rintro e w5 ⟨⟨A', cap', rfl, a1, a2, HI⟩, hx5⟩
        have X5 := hide (XX.out.trans hx5)
        have HI := hide HI
        rw [← HE2.out] at *
        clear hx5 HP HE2 n0 e0 e1 e2 e3 m0 d0 d1 d2 l0 c0 c1 c2 c3 C2 X2 XX
        cases HIT with
        | none =>
          have HF2 := hide (Hno.out rfl)
          clear Hhit Hno Hl9 HI
          go_wp2
          go_roundw
          case rel => exact ⟨k + 1, hlt, by go_num, HF2, X5⟩
          case measure => simp [intOf]; omega
        | some path =>
          have hRES : RES = some (k, path) := HF.out.symm.trans (Hhit.out path rfl)
          have hl9 := Hl9.out path rfl
          clear Hhit Hno Hl9 HF HR
          subst hRES
          have B5 : Hid (w5.heap[w.heap.size + 2]? = some (.cells #[.int .i64 0, .int .i64 0, .slice none 0 0, .slice none 0 0] 34)) := hide ((X5.out.heap (lt_of_obj B3.out)).trans B3.out)
          have hs5 := X5.out.size
          have hp1 : (ofNats (some path)).length = path.length := by unfold ofNats; simp
          have Hat : Hid (∀ (j : Nat) (h : j < path.length), ∃ b o, A' = some ⟨b, o, none⟩ ∧ b < w5.heap.size ∧ w5.cell? ⟨b, o + j, none⟩ = some (.int .i64 ((path[j]'h : Nat) : Int))) := hide (fun j h => by
            obtain ⟨b, o, e1, e2, e3⟩ := HI.out.at_ (i := j) (by rw [hp1]; exact h)
            refine ⟨b, o, e1, e2, e3.trans ?_⟩
            congr 2
            unfold ofNats
            simp)
          rw [hp1] at a1
          rw [hp1]
          clear hp1 HI
          have hF5 := X5.out.size
          go_wp2
          go_loopw [44] (fun i wr => ∃ (j : Nat) (y : Pf), j ≤ path.length ∧ i = .int .i64 j ∧ Hid (FBox wr w5.heap.size y) ∧ Hid (CpF W wr (chainQ k (path.take j)) y) ∧ Hid (AwayF w5.heap.size y) ∧ Hid (Ext w5 wr)) (fun i _ => path.length - (intOf i).toNat)
          case atStart => exact ⟨0, leafF k, Nat.zero_le _, rfl, hide (at_newB _ _ _ rfl), hide (leafF_cp _ _ k), hide (leafF_away _ _), hide ((Ext.refl _).alloc _)⟩
          case round =>
            obtain ⟨j, y, hj, rfl, HB, HCp, HA, HX⟩ := hrel
            have hlw := HB.out.lt
            by_cases hlt2 : j < path.length
            · have hlt2' : (j : Int) < (path.length : Int) := by omega
              have hj0 : (0 : Int) ≤ (j : Int) := by omega
              obtain ⟨b6, o6, rfl, hb6, p0⟩ := Hat.out j hlt2
              have p1 := HX.out.cell p0
              have hb7 : b6 < wr.heap.size := by have := HX.out.size; omega
              have Htk : Hid (path.take (j + 1) = path.take j ++ [path[j]'hlt2]) := hide (List.take_succ_eq_append_getElem hlt2)
              generalize path[j]'hlt2 = n at *
              obtain ⟨y0, y1, y2, y3⟩ := HB.out.cells
              have yf0 := HB.out.free 0
              have yf1 := HB.out.free 1
              have yf2 := HB.out.free 2
              have yf3 := HB.out.free 3
              clear p0
              have HB2 := hide (((setPf_box HB.out (supF n wr.heap.size y)).ext ((Ext.refl _).alloc (.cells #[.int .i64 y.kind, .int .i64 y.n, .slice y.T y.types.length y.tc, .slice y.A y.kids.length y.cap] 34))))
              have HC2 : Hid (CpF W ((setPf wr w5.heap.size (supF n wr.heap.size y)).alloc (.cells #[.int .i64 y.kind, .int .i64 y.n, .slice y.T y.types.length y.tc, .slice y.A y.kids.length y.cap] 34)) (chainQ k (path.take (j + 1))) (supF n wr.heap.size y)) := hide (by
                have hsz : (setPf wr w5.heap.size (supF n wr.heap.size y)).heap.size = wr.heap.size := by simp [setPf, World.setCell]
                rw [Htk.out]
                exact supF_cp (HCp.out.set HA.out _) (by rw [hsz]; have := HX.out.size; omega) hsz.symm ((Ext.refl _).alloc _) (at_newB _ _ _ hsz.symm))
              have HA2 : Hid (AwayF w5.heap.size (supF n wr.heap.size y)) := hide (.mk (fun h => absurd rfl h) (by intro x hx; cases hx) (fun _ a e => by injection e with e; subst e; show wr.heap.size ≠ w5.heap.size; omega) (all1F HA.out))
              have HX2 : Hid (Ext w5 ((setPf wr w5.heap.size (supF n wr.heap.size y)).alloc (.cells #[.int .i64 y.kind, .int .i64 y.n, .slice y.T y.types.length y.tc, .slice y.A y.kids.length y.cap] 34))) := hide ((setPf_ext HX.out (Nat.le_refl _) _).alloc _)
              go_wp2
              go_roundw
              case rel => exact ⟨j + 1, supF n wr.heap.size y, hlt2, by go_num, HB2, HC2, HA2, HX2⟩
              case measure => simp [intOf]; omega
            · have hge : ¬ (j : Int) < (path.length : Int) := by omega
              have B6 : Hid (wr.heap[w.heap.size + 2]? = some (.cells #[.int .i64 0, .int .i64 0, .slice none 0 0, .slice none 0 0] 34)) := hide ((HX.out.heap (lt_of_obj B5.out)).trans B5.out)
              have HCf : Hid (CpF W wr (chainQ k path) y) := hide (by have := HCp.out; rwa [List.take_of_length_le (by omega)] at this)
              have HCw : Hid (CpF w (setPf wr (w.heap.size + 2) y) (chainQ k path) y) := hide ((HCf.out.set (HCf.out.away _ (by have := HsW.out; omega)) y).old X0.out.size)
              obtain ⟨y0, y1, y2, y3⟩ := HB.out.cells
              obtain ⟨z0, z1, z2, z3, zf0, zf1, zf2, zf3⟩ := f0_cells B6.out
              have hz := lt_of_obj B6.out
              have XF := hide (setPf_ext (X0.out.trans (X5.out.trans HX.out)) (by omega : w.heap.size ≤ w.heap.size + 2) y)
              clear HCp HCf HA HX hge B5 hF5 hs5
              go_wp2
              refine bodyPost_ret (v := .tuple #[pfV y, .bool true]) ?_ rfl ⟨⟨y, rfl, ⟨fun i path' h => (by injection h with h; injection h with h1 h2; subst h1 h2; exact ⟨HCw.out, hl9⟩), fun h => (by cases h)⟩⟩, XF.out⟩
              simp [results, Tryz.f147, go_sem, z0, z1, z2, z3, pfV]
    · have hge : ¬ (k : Int) < (given.length : Int) := by omega
      have hRES : RES = none := by rw [← HF.out, supFrom_end (by omega)]
      clear HF HR
      subst hRES
      obtain ⟨y0, y1, y2, y3, yf0, yf1, yf2, yf3⟩ := f0_cells ((HX.out.heap (lt_of_obj B3.out)).trans B3.out)
      have hy := lt_of_obj ((HX.out.heap (lt_of_obj B3.out)).trans B3.out)
      go_wp2
      refine bodyPost_ret (v := .tuple #[pfV Pf.zero, .bool false]) ?_ rfl ⟨⟨Pf.zero, rfl, ⟨fun i path h => (by cases h), fun _ => rfl⟩⟩, ?_⟩
      · simp [results, Tryz.f147, go_sem, y0, y1, y2, y3, pfV, Pf.zero, Pf.kind, Pf.n, Pf.T, Pf.tc, Pf.types, Pf.A, Pf.cap, Pf.kids]
      · exact ext_set4 (X0.out.trans HX.out) (by omega) _ _ _ _

end Go.Proofs.YtcnkfkjgpdmebaaGreatDoor
