/- Contract: the groups, the reference's. -/
import Derived.Test.YtnbnhchgkbbiiaaRfC
namespace Go.Proofs.Ytnbnhchgkbbiiaa
open Go.RowKit

/-- The groups told: their slice `u`, and each group's own row, all from block `base` on. -/
structure OutI (tos int : TypeId) (base : Nat) (w : World) (u : Value) (out : List SlV) : Prop where
  own : w.ownsRow base tos 1 u out.length (out.map (·.val))
  each : ∀ s ∈ out, w.ownsRow base int 1 s.val s.l.length (s.l.map (Value.int .i64))
  dis : ∀ s ∈ out, ∀ k, s.val.ownBlock = some k → u.ownBlock ≠ some k
section
variable {tos int : TypeId} {base : Nat} {w w' : World} {u : Value} {out : List SlV}
theorem own_kept {e : TypeId} {size n : Nat} {v : Value} {xs : List Value} {row : Option Nat} (h : w.ownsRow base e size v n xs) (hg : w.grownBy w' row) (hd : ∀ k, v.ownBlock = some k → row ≠ some k) : w'.ownsRow base e size v n xs := by
  refine h.kept hg ?_
  cases hv : v.ownBlock with
  | none => exact .inl rfl
  | some k => exact .inr (fun e => hd k hv e.symm)
theorem OutI.keep (h : OutI tos int base w u out) {row : Option Nat} (hg : w.grownBy w' row) (h1 : ∀ k, u.ownBlock = some k → row ≠ some k) (h2 : ∀ s ∈ out, ∀ k, s.val.ownBlock = some k → row ≠ some k) : OutI tos int base w' u out :=
  ⟨own_kept h.own hg h1, fun s hs => own_kept (h.each s hs) hg (h2 s hs), h.dis⟩
theorem OutI.ext (h : OutI tos int base w u out) (e : Ext w w') : OutI tos int base w' u out :=
  ⟨own_extB h.own e, fun s hs => own_extB (h.each s hs) e, h.dis⟩
theorem OutI.low (h : OutI tos int base w u out) {row : Option Nat} (hg : w.grownBy w' row) (hr : ∀ k, row = some k → k < base) : OutI tos int base w' u out :=
  h.keep hg (fun k hk e => by have := (h.own.lt k hk).1; have := hr k e; omega) (fun s hs k hk e => by have := ((h.each s hs).lt k hk).1; have := hr k e; omega)
end

/-- A group so far, and what is done with it. -/
def compK (m : Nat → Nat → Bool) (a j : Nat) : List Nat := (List.range j).filter fun x => x == a || (m x a && m a x)
def addK (m : Nat → Nat → Bool) (done : Nat → Bool) (a j : Nat) : Nat → Bool := fun x => done x || (compK m a j).contains x
theorem compK_succ (m : Nat → Nat → Bool) (a j : Nat) : compK m a (j + 1) = compK m a j ++ if (j == a || (m j a && m a j)) then [j] else [] := by
  unfold compK
  rw [List.range_succ, List.filter_append]
  congr 1
  simp [List.filter_cons]
theorem addK_zero (m : Nat → Nat → Bool) (done : Nat → Bool) (a : Nat) : addK m done a 0 = done := by
  funext x
  simp [addK, compK]
theorem addK_no {m : Nat → Nat → Bool} {done : Nat → Bool} {a j : Nat} (h : (j == a || (m j a && m a j)) = false) : addK m done a (j + 1) = addK m done a j := by
  funext x
  unfold addK
  rw [compK_succ, h]
  simp
theorem addK_yes {m : Nat → Nat → Bool} {done : Nat → Bool} {a j : Nat} (h : (j == a || (m j a && m a j)) = true) : addK m done a (j + 1) = mark (addK m done a j) j := by
  funext x
  unfold addK mark
  rw [compK_succ, h]
  cases hx : (x == j)
  · have : ¬ x = j := by simpa using hx
    simp [this]
  · have : x = j := by simpa using hx
    simp [this]
theorem selGo_len {n : Nat} {m : Nat → Nat → Bool} : ∀ (f : Nat) (d : Nat → Bool), (selGo n m f d).length ≤ f := by
  intro f
  induction f with
  | zero => intro d; simp [selGo]
  | succ f ih =>
    intro d
    unfold selGo
    split
    · simp
    · rename_i a _
      have := ih (addDone n m d a)
      simp
      omega
theorem RefTold.len {n at_ : Nat} {m : Nat → Nat → Bool} {done : Nat → Bool} {out : List (List Nat)} (h : RefTold n m done at_ out) : out.length ≤ n := by
  obtain ⟨f, _, e⟩ := h.eq
  have h1 := congrArg List.length e
  have h2 := selGo_len (n := n) (m := m) n (fun _ => false)
  rw [List.length_append] at h1
  omega

set_option maxRecDepth 10000 in
set_option maxHeartbeats 8000000 in
theorem r_groups (n : Nat) (A : Option Addr) (cap : Nat) (es : List Edge) (w : World) (h : Edges w A es) (hg : graphOk n es = true) (hlen : es.length ≤ 100000) :
    Calls Try.prog 13 #[.int .i64 n, .slice A es.length cap] w fun e w' => (∃ A' cap', e = .returned (.tuple #[.slice A' (groupsOf n (reachB es)).length cap', .int .i64 0]) ∧ (groupsOf n (reachB es)).length ≤ cap' ∧ cap' ≤ 9223372036854775807 ∧ Grps w' A' (groupsOf n (reachB es))) ∧ Ext w w' := by
  obtain ⟨i0, hi, hz0, hz1, hz2⟩ := info_parts int_info
  obtain ⟨i1, hjj, hy0, hy1, hy2⟩ := info_parts ints_info
  obtain ⟨i2, hkk, hx0, hx1, hx2⟩ := info_parts bool_info
  obtain ⟨i3, hll, ht0, ht1, ht2⟩ := info_parts bools_info
  have hn : n ≤ 1000 := by unfold graphOk at hg; simp at hg; omega
  have hok : ∀ e ∈ es, edgeOk n e = true := by unfold graphOk at hg; simp at hg; exact hg.2
  have Hc := hide (r_check n A cap es w h hlen)
  rw [hg] at Hc
  have Hr := hide h
  have Hok := hide hok
  have hn1 : (n : Int) ≤ 1000 := by omega
  clear h hg hok
  go_enter Try.func13, Try.ntmps13
  go_wp2_with fail
  refine Hc.out.mono ?_
  rintro e w1 ⟨rfl, l1, d1, rfl⟩
  have HX1 : Hid (Ext w (more w l1 d1)) := hide (by repeat (first | exact Ext.refl _ | exact Ext.pre (by simp) | exact Ext.alloc (by assumption) _ | refine Ext.alloc ?_ _ |  refine Ext.more ?_ _ _ | refine Ext.drew ?_ | refine Ext.drewN ?_ _))
  generalize more w l1 d1 = w1 at *
  go_wp2
  go_loopw [7, 8] (fun u i wr => ∃ (k : Nat) (bs : List Nat), k ≤ n ∧ i = .int .i64 k ∧ bs.length = k ∧ Hid (Ext w1 wr) ∧ Hid (wr.ownsRow w1.heap.size 77 1 u bs.length (bs.map fun b => .slice (some ⟨b, 0, none⟩) n n)) ∧ Hid (∀ i (h : i < bs.length), BoolB 4 wr (bs[i]'h) n (reachB es i)) ∧ Hid (∀ b ∈ bs, u.ownBlock ≠ some b)) (fun _ i _ => n - (intOf i).toNat)
  case atStart => exact ⟨0, [], Nat.zero_le _, rfl, rfl, hide (Ext.refl _), hide (World.ownsRow_nil _ _ _ _), hide (by intro i h; simp at h), hide (by simp)⟩
  case round =>
    obtain ⟨k, bs, hk, rfl, hbs, HX, HO, HBl, HNb⟩ := hrel
    by_cases hlt : k < n
    · have hlt' : (k : Int) < (n : Int) := by omega
      have Hmk := hide (r_marks n k A cap es wr (RowOf.ext edgeC Hr.out (HX1.out.trans HX.out)) hn hlen Hok.out hlt)
      go_wp2_with fail
      refine Hmk.out.mono ?_
      rintro e w2 ⟨⟨b, M, rfl, hb, hB, hM⟩, hx2⟩
      have hMe : M = reachB es k := funext fun x => bool_eq ((hM x).trans (reachB_iff es k x).symm)
      subst hMe
      have HX2 := hide hx2
      have HB2 := hide hB
      have Hb := hide hb
      clear hb hB hM hx2
      go_wp2_with (at_builtin; refine wpList_append_row _ rfl _ _ 76 rfl w1.heap.size 77 i3 _ 1 24 Try.underlying76 hll ht0 ht1 ht2 rfl (by decide) u7 bs.length (bs.map fun b => .slice (some ⟨b, 0, none⟩) n n) rfl ((own_extB HO.out HX2.out).alloc _) _ 1 1 [.slice (some ⟨b, 0, none⟩) n n] rfl ?c2 ?c3 ?c4 ?c5 ?c6 ?_)
      case c2 => exact Row.boxV _ (at_newB _ _ _ (by simp))
      case c3 => first | rfl | (intro y hy; simp at hy; subst hy; rfl)
      case c4 => unfold maxLen; omega
      case c5 => omega
      case c6 => have := (HX.out.trans HX2.out).size; simp; omega
      intro v4 w4 hown4 hg4 hat4
      have X4 := hide (Ext.app ((HX.out.trans HX2.out).alloc _) hg4 ((own_extB HO.out HX2.out).alloc _) (Nat.le_refl _))
      have hblt : b < w2.heap.size := HB2.out.lt
      have hkeep : ∀ c, c < w2.heap.size → u7.ownBlock ≠ some c → w4.heap[c]? = w2.heap[c]? := fun c hc hne => (hg4.block c (by simp; omega) (fun e => hne e.symm)).trans (Below.heap_alloc _ _ _ hc)
      have O4 : Hid (w4.ownsRow w1.heap.size 77 1 v4 (bs ++ [b]).length ((bs ++ [b]).map fun b => .slice (some ⟨b, 0, none⟩) n n)) := hide (by rw [List.length_append, List.length_singleton, List.map_append, List.map_singleton, hbs]; first | exact hown4 | (rw [hbs] at hown4; exact hown4))
      have hub : u7.ownBlock ≠ some b := fun e => by have := (HO.out.lt b e).2; have := Hb.out; omega
      have B4 : Hid (∀ i (h : i < (bs ++ [b]).length), BoolB 4 w4 ((bs ++ [b])[i]'h) n (reachB es i)) := hide (by
        intro i hi
        by_cases e : i < bs.length
        · rw [List.getElem_append_left e]
          have h1 := (HBl.out i e).ext HX2.out
          exact (hkeep _ h1.lt (HNb.out _ (List.getElem_mem e))).trans h1
        · have e2 : i = k := by simp at hi; omega
          subst e2
          have e3 : (bs ++ [b])[i]'hi = b := by rw [List.getElem_append_right (by omega)]; simp [hbs]
          rw [e3]
          exact (hkeep b hblt hub).trans HB2.out)
      have N4 : Hid (∀ c ∈ bs ++ [b], v4.ownBlock ≠ some c) := hide (by
        intro c hc e
        have hc2 : c < w2.heap.size ∧ u7.ownBlock ≠ some c := by
          rcases List.mem_append.1 hc with hc | hc
          · obtain ⟨i, hi2, rfl⟩ := List.getElem_of_mem hc
            exact ⟨((HBl.out i hi2).ext HX2.out).lt, HNb.out _ hc⟩
          · simp at hc; subst hc; exact ⟨hblt, hub⟩
        rcases hat4 with h4 | h4
        · exact hc2.2 (h4 ▸ e)
        · rw [h4] at e
          injection e with e
          first | omega | (simp at e; omega))
      clear hown4 hg4 hat4 hkeep
      go_wp2
      go_roundw
      case rel => exact ⟨k + 1, bs ++ [b], hlt, by go_num, by simp [hbs], X4, O4, B4, N4⟩
      case measure => simp [intOf]; omega
    · rename World => wA
      have hkn : k = n := by omega
      subst hkn
      clear hlt hk
      obtain ⟨AM, cM, hmv, hM1, hM2, hM3, -⟩ := RowOf.own (blC k) (e := 77) (l := bs) (by
        show World.ownsRow _ _ _ _ _ _ (bs.flatMap fun b => [Value.slice (some ⟨b, 0, none⟩) k k])
        rw [flat_one]
        exact HO.out)
      have HMR : Hid (MR 4 wA AM k bs (reachB es)) := hide ⟨hM3, HBl.out⟩
      rw [hbs] at hM1 hmv
      subst hmv
      have Hbs := hide hbs
      clear hbs
      have HXA : Hid (Ext w wA) := hide (HX1.out.trans HX.out)
      clear hM3 HO HBl HNb
      have hmk := run_make (P := Try.prog) wA 77 4 i2 _ Try.underlying77 hkk hx0 .i64 .i64 k k (by omega) (Int.le_refl _) (by rw [hx2]; omega) (by omega)
      have hmc : madeCells (Value.bool false).cells ((k : Int).toNat * i2.size) = (List.replicate k (Value.bool false)).toArray := by
        rw [hx1]
        exact madeOne _ _ rfl
      rw [hmc] at hmk
      simp only [Int.toNat_natCast] at hmk
      clear hmc
      have HB0 : Hid (BoolB 4 (wA.alloc (.cells (List.replicate k (Value.bool false)).toArray 4)) wA.heap.size k (fun _ => false)) := hide (by
        unfold BoolB
        rw [← zero_bools]
        exact at_newB _ _ _ rfl)
      generalize hZ : (List.replicate k (Value.bool false)).toArray = Z at *
      clear hZ
      go_wp2
      go_loopw [10, 11] (fun u i wr => ∃ (done : Nat → Bool) (a : Nat) (out : List SlV) (gs : List (List Nat)), i = .int .i64 a ∧ a ≤ k ∧ Hid (Ext wA wr) ∧ Hid (BoolB 4 wr wA.heap.size k done) ∧ Hid (OutI 31 3 (wA.heap.size + 1) wr u out) ∧ Hid (out.map (·.l) = gs.map zs) ∧ Hid (RefTold k (reachB es) done a gs)) (fun _ i wr => noes wr wA.heap.size * (k + 1) + (k - (intOf i).toNat))
      case atStart => exact ⟨_, 0, [], [], rfl, Nat.zero_le _, hide (by repeat (first | exact Ext.refl _ | exact Ext.pre (by simp) | exact Ext.alloc (by assumption) _ | refine Ext.alloc ?_ _ |  refine Ext.more ?_ _ _ | refine Ext.drew ?_ | refine Ext.drewN ?_ _)), HB0, hide ⟨World.ownsRow_nil _ _ _ _, by simp, by simp⟩, hide rfl, hide RefTold.start⟩
      case round =>
        obtain ⟨done, a, out, gs, rfl, ha, HXB, HD, HOI, HOL, HRT⟩ := hrel
        have hol : out.length ≤ 1000 := by
          have h1 := congrArg List.length HOL.out
          have h2 := HRT.out.len
          simp at h1
          omega
        by_cases hlt : a < k
        · have hlt' : (a : Int) < (k : Int) := by omega
          have ha0 : (0 : Int) ≤ (a : Int) := by omega
          have hda := HD.out.cell hlt
          have Hfr := hide (r_free k a wA.heap.size cM AM bs (reachB es) done wr Hbs.out hn hlt (HMR.out.ext HXB.out) HD.out)
          have Hno := hide HD.out.noes
          cases hdd : done a
          · rw [hdd] at hda
            cases hff : freeB k (reachB es) done a
            · rw [hff] at Hfr
              have HRT2 := hide (HRT.out.skip hlt (.inr hff))
              clear hdd hff
              go_wp2_with fail
              refine Hfr.out.mono ?_
              rintro e w5 ⟨rfl, rfl⟩
              go_wp2
              go_roundw
              case rel => exact ⟨done, a + 1, out, gs, by go_num, hlt, HXB, HD, HOI, HOL, HRT2⟩
              case measure => simp [intOf]; omega
            · rw [hff] at Hfr
              have HRT2 := hide (HRT.out.tell hlt hdd hff)
              have Hun := hide (undone_add (n := k) (m := reachB es) hlt hdd)
              clear hdd hff
              go_wp2_with fail
              refine Hfr.out.mono ?_
              rintro e w5 ⟨rfl, rfl⟩
              have HD0 : Hid (BoolB 4 w5 wA.heap.size k (addK (reachB es) done a 0)) := hide (by rw [addK_zero]; exact HD.out)
              go_wp2
              go_loopw [12, 13] (fun v i wr => ∃ (j : Nat), i = .int .i64 j ∧ j ≤ k ∧ Hid (Ext wA wr) ∧ Hid (BoolB 4 wr wA.heap.size k (addK (reachB es) done a j)) ∧ Hid (OutI 31 3 (wA.heap.size + 1) wr u10 out) ∧ Hid (wr.ownsRow (wA.heap.size + 1) 3 1 v (zs (compK (reachB es) a j)).length ((zs (compK (reachB es) a j)).map (Value.int .i64))) ∧ Hid (∀ c, v.ownBlock = some c → u10.ownBlock ≠ some c ∧ ∀ s ∈ out, s.val.ownBlock ≠ some c)) (fun _ i _ => k - (intOf i).toNat)
              case atStart => exact ⟨0, rfl, Nat.zero_le _, HXB, HD0, HOI, hide (World.ownsRow_nil _ _ _ _), hide (by intro c hc; cases hc)⟩
              case round =>
                obtain ⟨j, rfl, hj, HXC, HDj, HOj, HG, HGd⟩ := hrel
                by_cases hlt3 : j < k
                · have hlt3' : (j : Int) < (k : Int) := by omega
                  have hj0 : (0 : Int) ≤ (j : Int) := by omega
                  have hjb : j < bs.length := by rw [Hbs.out]; exact hlt3
                  have hab : a < bs.length := by rw [Hbs.out]; exact hlt
                  have HMC := hide (HMR.out.ext HXC.out)
                  obtain ⟨b1, o1, rfl, hb1, q1⟩ := HMC.out.at_ hjb
                  obtain ⟨b2, o2, e2, hb2, q2⟩ := HMC.out.at_ hab
                  injection e2 with e2
                  injection e2 with e3 e4
                  rw [← e3, ← e4] at q2
                  clear e3 e4 hb2
                  have q3 := (HMC.out.blk j hjb).cell hlt
                  have q4 := (HMC.out.blk a hab).cell hlt3
                  generalize bs[j]'hjb = bj at *
                  generalize bs[a]'hab = ba at *
                  have q5 := HDj.out.cell hlt3
                  have q6 := HDj.out.free
                  have Hyes : Hid ((j == a || (reachB es j a && reachB es a j)) = true → compK (reachB es) a (j + 1) = compK (reachB es) a j ++ [j] ∧ addK (reachB es) done a (j + 1) = mark (addK (reachB es) done a j) j) := hide (fun h => ⟨by rw [compK_succ, h]; rfl, addK_yes h⟩)
                  have Hnot : Hid ((j == a || (reachB es j a && reachB es a j)) = false → compK (reachB es) a (j + 1) = compK (reachB es) a j ∧ addK (reachB es) done a (j + 1) = addK (reachB es) done a j) := hide (fun h => ⟨by rw [compK_succ, h]; simp, addK_no h⟩)
                  have hck : (compK (reachB es) a j).length ≤ j := by
                    unfold compK
                    have := List.length_filter_le (fun x => x == a || (reachB es x a && reachB es a x)) (List.range j)
                    simpa using this
                  have hzk : (zs (compK (reachB es) a j)).length ≤ 1000 := by rw [zs_len]; omega
                  generalize addK (reachB es) done a j = dj at *
                  generalize compK (reachB es) a j = cj at *
                  by_cases hja : j = a
                  · have hC : (j == a || (reachB es j a && reachB es a j)) = true := by simp [hja]
                    subst hja
                    obtain ⟨e1, e2⟩ := Hyes.out hC
                    have E1 := hide e1
                    have E2 := hide e2
                    clear e1 e2 Hyes Hnot
                    go_wp2_with (at_builtin; refine wpList_append_row _ rfl _ _ 31 rfl (wA.heap.size + 1) 3 i0 _ 1 8 Try.underlying31 hi hz0 hz1 hz2 rfl (by decide) u12 (zs cj).length ((zs cj).map (Value.int .i64)) rfl (HG.out.alloc _) _ 1 1 [.int .i64 j] rfl ?c2 ?c3 ?c4 ?c5 ?c6 ?_)
                    case c2 => exact Row.boxV _ (at_newB _ _ _ (by simp))
                    case c3 => first | rfl | (intro y hy; simp at hy; subst hy; rfl)
                    case c4 => unfold maxLen; omega
                    case c5 => omega
                    case c6 => have := HDj.out.lt; simp; omega
                    intro v4 w4 hown4 hg4 hat4
                    have X4 := hide (Ext.app (HXC.out.alloc _) hg4 (HG.out.alloc _) (Nat.le_succ wA.heap.size))
                    have D4 : Hid (BoolB 4 w4 wA.heap.size k dj) := hide (((hg4.block wA.heap.size (by have := HDj.out.lt; simp; omega) (fun e => by have := (HG.out.lt _ e.symm).1; omega)).trans (Below.heap_alloc _ _ _ HDj.out.lt)).trans HDj.out)
                    have OO4 := hide ((HOj.out.ext ((Ext.refl wr).alloc (.cells #[.int .i64 (j : Int)] 3))).keep hg4 (fun c hc e => (HGd.out c e).1 hc) (fun s hs c hc e => (HGd.out c e).2 s hs hc))
                    have G4 : Hid (w4.ownsRow (wA.heap.size + 1) 3 1 v4 (zs (compK (reachB es) j (j + 1))).length ((zs (compK (reachB es) j (j + 1))).map (Value.int .i64))) := hide (by
                      rw [E1.out]
                      have e3 : (zs (cj ++ [j])).length = (zs cj).length + 1 := by simp [zs]
                      have e4 : (zs (cj ++ [j])).map (Value.int .i64) = (zs cj).map (Value.int .i64) ++ [.int .i64 (j : Int)] := by simp [zs]
                      rw [e3, e4]
                      exact hown4)
                    have GD4 : Hid (∀ c, v4.ownBlock = some c → u10.ownBlock ≠ some c ∧ ∀ s ∈ out, s.val.ownBlock ≠ some c) := hide (by
                      intro c hc
                      rcases hat4 with h4 | h4
                      · exact HGd.out c (h4 ▸ hc)
                      · rw [h4] at hc
                        injection hc with hc
                        refine ⟨fun e => ?_, fun s hs e => ?_⟩
                        · have := (HOj.out.own.lt c e).2
                          first | omega | (simp at hc; omega)
                        · have := ((HOj.out.each s hs).lt c e).2
                          first | omega | (simp at hc; omega))
                    have q7 := D4.out.cell hlt3
                    have q8 := D4.out.free
                    clear hown4 hg4 hat4 q1 q2 q3 q4 q5 q6
                    go_wp2
                    go_roundw
                    case rel => exact ⟨j + 1, by go_num, hlt3, hide (Ext.setCell X4.out (p := ⟨wA.heap.size, j, none⟩) (Nat.le_refl _) _), hide (by rw [E2.out]; exact D4.out.set j), hide (OO4.out.low (grown_set w4 wA.heap.size j (.bool true)) (by intro c hc; injection hc with hc; omega)), hide (own_set G4.out (Nat.lt_succ_self wA.heap.size)), GD4⟩
                    case measure => simp [intOf]; omega
                  · have hja2 : ¬ (j : Int) = (a : Int) := by omega
                    have hja3 : (j == a) = false := by simpa using hja
                    have Hj3 := hide hja3
                    clear hja3
                    cases hx1 : reachB es j a
                    · have hC : (j == a || (reachB es j a && reachB es a j)) = false := by rw [Hj3.out, hx1]; rfl
                      rw [hx1] at q3
                      clear hx1
                      obtain ⟨e1, e2⟩ := Hnot.out hC
                      have E1 := hide e1
                      have E2 := hide e2
                      clear e1 e2 Hyes Hnot
                      go_wp2
                      go_roundw
                      case rel => exact ⟨j + 1, by go_num, hlt3, HXC, hide (by rw [E2.out]; exact HDj.out), HOj, hide (by rw [E1.out]; exact HG.out), HGd⟩
                      case measure => simp [intOf]; omega
                    · cases hx2 : reachB es a j
                      · have hC : (j == a || (reachB es j a && reachB es a j)) = false := by rw [Hj3.out, hx1, hx2]; rfl
                        rw [hx1] at q3
                        rw [hx2] at q4
                        clear hx1 hx2
                        obtain ⟨e1, e2⟩ := Hnot.out hC
                        have E1 := hide e1
                        have E2 := hide e2
                        clear e1 e2 Hyes Hnot
                        go_wp2
                        go_roundw
                        case rel => exact ⟨j + 1, by go_num, hlt3, HXC, hide (by rw [E2.out]; exact HDj.out), HOj, hide (by rw [E1.out]; exact HG.out), HGd⟩
                        case measure => simp [intOf]; omega
                      · have hC : (j == a || (reachB es j a && reachB es a j)) = true := by rw [Hj3.out, hx1, hx2]; rfl
                        rw [hx1] at q3
                        rw [hx2] at q4
                        clear hx1 hx2
                        obtain ⟨e1, e2⟩ := Hyes.out hC
                        have E1 := hide e1
                        have E2 := hide e2
                        clear e1 e2 Hyes Hnot
                        go_wp2_with (at_builtin; refine wpList_append_row _ rfl _ _ 31 rfl (wA.heap.size + 1) 3 i0 _ 1 8 Try.underlying31 hi hz0 hz1 hz2 rfl (by decide) u12 (zs cj).length ((zs cj).map (Value.int .i64)) rfl (HG.out.alloc _) _ 1 1 [.int .i64 j] rfl ?c2 ?c3 ?c4 ?c5 ?c6 ?_)
                        case c2 => exact Row.boxV _ (at_newB _ _ _ (by simp))
                        case c3 => first | rfl | (intro y hy; simp at hy; subst hy; rfl)
                        case c4 => unfold maxLen; omega
                        case c5 => omega
                        case c6 => have := HDj.out.lt; simp; omega
                        intro v4 w4 hown4 hg4 hat4
                        have X4 := hide (Ext.app (HXC.out.alloc _) hg4 (HG.out.alloc _) (Nat.le_succ wA.heap.size))
                        have D4 : Hid (BoolB 4 w4 wA.heap.size k dj) := hide (((hg4.block wA.heap.size (by have := HDj.out.lt; simp; omega) (fun e => by have := (HG.out.lt _ e.symm).1; omega)).trans (Below.heap_alloc _ _ _ HDj.out.lt)).trans HDj.out)
                        have OO4 := hide ((HOj.out.ext ((Ext.refl wr).alloc (.cells #[.int .i64 (j : Int)] 3))).keep hg4 (fun c hc e => (HGd.out c e).1 hc) (fun s hs c hc e => (HGd.out c e).2 s hs hc))
                        have G4 : Hid (w4.ownsRow (wA.heap.size + 1) 3 1 v4 (zs (compK (reachB es) a (j + 1))).length ((zs (compK (reachB es) a (j + 1))).map (Value.int .i64))) := hide (by
                          rw [E1.out]
                          have e3 : (zs (cj ++ [j])).length = (zs cj).length + 1 := by simp [zs]
                          have e4 : (zs (cj ++ [j])).map (Value.int .i64) = (zs cj).map (Value.int .i64) ++ [.int .i64 (j : Int)] := by simp [zs]
                          rw [e3, e4]
                          exact hown4)
                        have GD4 : Hid (∀ c, v4.ownBlock = some c → u10.ownBlock ≠ some c ∧ ∀ s ∈ out, s.val.ownBlock ≠ some c) := hide (by
                          intro c hc
                          rcases hat4 with h4 | h4
                          · exact HGd.out c (h4 ▸ hc)
                          · rw [h4] at hc
                            injection hc with hc
                            refine ⟨fun e => ?_, fun s hs e => ?_⟩
                            · have := (HOj.out.own.lt c e).2
                              first | omega | (simp at hc; omega)
                            · have := ((HOj.out.each s hs).lt c e).2
                              first | omega | (simp at hc; omega))
                        have q7 := D4.out.cell hlt3
                        have q8 := D4.out.free
                        clear hown4 hg4 hat4 q1 q2 q3 q4 q5 q6
                        go_wp2
                        go_roundw
                        case rel => exact ⟨j + 1, by go_num, hlt3, hide (Ext.setCell X4.out (p := ⟨wA.heap.size, j, none⟩) (Nat.le_refl _) _), hide (by rw [E2.out]; exact D4.out.set j), hide (OO4.out.low (grown_set w4 wA.heap.size j (.bool true)) (by intro c hc; injection hc with hc; omega)), hide (own_set G4.out (Nat.lt_succ_self wA.heap.size)), GD4⟩
                        case measure => simp [intOf]; omega
                · rename World => wC
                  have hjk : j = k := by omega
                  subst hjk
                  have hge3 : ¬ (j : Int) < (j : Int) := by omega
                  have ec : compK (reachB es) a j = compL j (reachB es) a := rfl
                  have ed : addK (reachB es) done a j = addDone j (reachB es) done a := rfl
                  have HD8 : Hid (BoolB 4 wC wA.heap.size j (addDone j (reachB es) done a)) := HDj
                  have hck : (compL j (reachB es) a).length ≤ 1000 := by
                    unfold compL
                    have := List.length_filter_le (fun x => x == a || (reachB es x a && reachB es a x)) (List.range j)
                    simp at this
                    omega
                  have HG8 : Hid (wC.ownsRow (wA.heap.size + 1) 3 1 u12 (zs (compL j (reachB es) a)).length ((zs (compL j (reachB es) a)).map (Value.int .i64))) := HG
                  have Hno8 := hide HD8.out.noes
                  clear ec ed HDj HG
                  generalize compL j (reachB es) a = cl at *
                  obtain ⟨A8, c8, rfl, -, -⟩ := own_slice HG8.out
                  go_wp2_with (at_builtin; refine wpList_append_row _ rfl _ _ 25 rfl (wA.heap.size + 1) 31 i1 _ 1 24 Try.underlying25 hjj hy0 hy1 hy2 rfl (by decide) u10 out.length (out.map (·.val)) rfl (HOj.out.own.alloc _) _ 1 1 [.slice A8 (zs cl).length c8] rfl ?c2 ?c3 ?c4 ?c5 ?c6 ?_)
                  case c2 => exact Row.boxV _ (at_newB _ _ _ (by simp))
                  case c3 => first | rfl | (intro y hy; simp at hy; subst hy; rfl)
                  case c4 => unfold maxLen; omega
                  case c5 => omega
                  case c6 => have := HD8.out.lt; simp; omega
                  intro v9 w9 hown9 hg9 hat9
                  have X9 := hide (Ext.app (HXC.out.alloc _) hg9 (HOj.out.own.alloc _) (Nat.le_succ wA.heap.size))
                  have D9 : Hid (BoolB 4 w9 wA.heap.size j (addDone j (reachB es) done a)) := hide (((hg9.block wA.heap.size (by have := HD8.out.lt; simp; omega) (fun e => by have := (HOj.out.own.lt _ e.symm).1; omega)).trans (Below.heap_alloc _ _ _ HD8.out.lt)).trans HD8.out)
                  have O9 : Hid (OutI 31 3 (wA.heap.size + 1) w9 v9 (out ++ [⟨.slice A8 (zs cl).length c8, zs cl⟩])) := hide (by
                    have hlt9 : ∀ s ∈ out, ∀ c, s.val.ownBlock = some c → c < wC.heap.size := fun s hs c hc => ((HOj.out.each s hs).lt c hc).2
                    refine ⟨by simpa using hown9, fun s hs => ?_, fun s hs c hc => ?_⟩
                    · rcases List.mem_append.1 hs with hs | hs
                      · exact own_kept ((HOj.out.each s hs).alloc _) hg9 (fun c hc => HOj.out.dis s hs c hc)
                      · simp at hs
                        subst hs
                        exact own_kept (HG8.out.alloc _) hg9 (fun c hc => (HGd.out c hc).1)
                    · have h1 : u10.ownBlock ≠ some c ∧ c < wC.heap.size := by
                        rcases List.mem_append.1 hs with hs | hs
                        · exact ⟨HOj.out.dis s hs c hc, hlt9 s hs c hc⟩
                        · simp at hs
                          subst hs
                          exact ⟨(HGd.out c hc).1, (HG8.out.lt c hc).2⟩
                      intro e
                      rcases hat9 with h9 | h9
                      · exact h1.1 (h9 ▸ e)
                      · rw [h9] at e
                        injection e with e
                        first | omega | (simp at e; omega))
                  have Hno9 := hide D9.out.noes
                  clear hown9 hg9 hat9
                  go_wp2
                  go_roundw
                  case rel =>
                    refine ⟨_, 0, out ++ [⟨.slice A8 (zs cl).length c8, zs cl⟩], gs ++ [cl], by go_num, Nat.zero_le _, X9, D9, O9, hide ?_, HRT2⟩
                    rw [List.map_append, List.map_append, HOL.out]
                    rfl
                  case measure =>
                    rw [Hno9.out, Hno.out]
                    have h1 := Hun.out
                    simp only [intOf, Int.toNat_natCast, Int.toNat_zero]
                    have h2 : (undone j (addDone j (reachB es) done a) + 1) * (j + 1) ≤ undone j done * (j + 1) := Nat.mul_le_mul_right _ h1
                    rw [Nat.add_mul, Nat.one_mul] at h2
                    omega
          · rw [hdd] at hda
            have HRT2 := hide (HRT.out.skip hlt (.inl hdd))
            clear hdd
            go_wp2
            go_roundw
            case rel => exact ⟨done, a + 1, out, gs, by go_num, hlt, HXB, HD, HOI, HOL, HRT2⟩
            case measure => simp [intOf]; omega
        · have hge : ¬ (a : Int) < (k : Int) := by omega
          have hgs : gs = groupsOf k (reachB es) := HRT.out.ended hlt
          have HR : Hid (∀ AO, u10 = .slice AO out.length (match u10 with | .slice _ _ c => c | _ => 0) → Grps wr AO (groupsOf k (reachB es))) := hide (fun AO e => by
            refine ⟨out, by rw [← hgs]; exact HOL.out, ?_, fun s hs => ?_⟩
            · obtain ⟨A9, c9, e1, _, _, e4, _⟩ := RowOf.own slvC (e := 31) (l := out) (by
                show World.ownsRow _ _ _ _ _ _ (out.flatMap fun s => [s.val])
                rw [flat_one]
                exact HOI.out.own)
              rw [e] at e1
              injection e1 with e1
              rw [e1]
              exact e4
            · obtain ⟨A9, c9, e1, e2, e3, e4, _⟩ := Ints.own (HOI.out.each s hs)
              exact ⟨A9, c9, e1, e2, e3, e4⟩)
          obtain ⟨A9, c9, rfl, e2, e3⟩ := own_slice HOI.out.own
          have HR2 := hide (HR.out A9 rfl)
          have hlen2 : (groupsOf k (reachB es)).length = out.length := by rw [← hgs]; have := congrArg List.length HOL.out; simpa using this.symm
          have Hln := hide hlen2
          clear hgs hlen2 HR
          go_wp2
          go_ret2
          rw [Hln.out]
          exact ⟨⟨A9, c9, rfl, e2, e3, HR2.out⟩, HXA.out.trans HXB.out⟩

end Go.Proofs.Ytnbnhchgkbbiiaa
