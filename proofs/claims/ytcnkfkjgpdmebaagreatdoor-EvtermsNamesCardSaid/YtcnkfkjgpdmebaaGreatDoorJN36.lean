/- Contracts on slices.Grow from nil, and slices.Concat of two, of texts. -/
import Derived.Test.YtcnkfkjgpdmebaaGreatDoorJN35
import Derived.Lib.AppendZeros
import Derived.WalkSpells
import Derived.WalkLawsBesides
import Derived.Deep.RegionLaw
import Derived.Deep.RegionHeld3
import Derived.Deep.QuietTactic
import Derived.BigQuiet
import Derived.Laws.OwnMore
/- Contracts on slices.Grow from nil, and slices.Concat of two, of texts. -/
namespace Go.Proofs.YtcnkfkjgpdmebaaGreatDoor
open Go.RowKit Go.Sort

theorem str_infoB : (Tryz.prog.info? 9).map (fun i => (i.zero, i.size, i.bytes)) = some (some (.string ⟨#[]⟩), 1, 16) := by kernel_rfl




end Go.Proofs.YtcnkfkjgpdmebaaGreatDoor

/- Contracts: the classes right above one, and all above one (the reference's and the program's). -/
namespace Go.Proofs.YtcnkfkjgpdmebaaGreatDoor
open Go.RowKit Go.Sort

end Go.Proofs.YtcnkfkjgpdmebaaGreatDoor

/- Contracts: all classes above one, the reference's. -/
namespace Go.Proofs.YtcnkfkjgpdmebaaGreatDoor
open Go.RowKit Go.Sort

end Go.Proofs.YtcnkfkjgpdmebaaGreatDoor

/- Contracts: are all classes above one there, each once; the check (the reference's). -/
namespace Go.Proofs.YtcnkfkjgpdmebaaGreatDoor
open Go.RowKit

theorem allR_yes {p : Nat → Bool} {n : Nat} (h : ∀ j, j < n → p j = true) : (List.range n).all p = true := by
  rw [List.all_eq_true]; intro j hj; exact h j (by simpa using hj)
theorem allR_no {p : Nat → Bool} {n k : Nat} (hk : k < n) (h : p k = false) : (List.range n).all p = false := by
  rw [List.all_eq_false]; exact ⟨k, by simpa using hk, by simp [h]⟩
theorem atI_neg (l : List Cls) (x : Str) : decide (atI l x < 0) = !(names l).any (· == x) := by
  have := idxI_ge (names l) x
  unfold atI
  rw [← this]
  by_cases h : idxI (names l) x < 0
  · simp [h]
  · simp [h]; omega
def knownK (ns s : List Str) (k : Nat) : Bool := ns.any (· == s.getD k []) && !((s.take k).any (· == s.getD k []))
theorem has_s_take (A : Option Addr) (cap : Nat) (l : List Str) (k : Nat) (x : Str) (w : World) (h : Strs w A l) (hk : k ≤ l.length) (hle : l.length ≤ 9223372036854775807) :
    Calls Tryz.prog 190 #[.slice A k cap, encStr x] w fun e w' => e = .returned (.bool ((l.take k).any (· == x))) ∧ w' = w := by
  have := has_s A cap (l.take k) x w (h.take hk) (by rw [List.length_take]; omega)
  rwa [List.length_take, Nat.min_eq_left hk] at this
set_option maxRecDepth 10000 in
set_option maxHeartbeats 2000000 in
theorem sup_known (A : Option Addr) (cap : Nat) (l : List Cls) (c : Cls) (w : World) (h : Classes w A l) (hl : l.length ≤ 9223372036854775807) (hs : Strs w c.A c.sup) (hc : c.sup.length ≤ c.cap) (hc2 : c.cap ≤ 9223372036854775807) :
    Calls Tryz.prog 141 #[.slice A l.length cap, .agg #[encStr c.name, .slice c.A c.sup.length c.cap, c.meth]] w fun e w' => e = .returned (.bool (knownB (names l) c.sup)) ∧ Ext w w' := by
  have HK : Hid (knownB (names l) c.sup = (List.range c.sup.length).all (knownK (names l) c.sup)) := hide rfl
  have HN : Hid (∀ k, knownK (names l) c.sup k = ((names l).any (· == c.sup.getD k []) && !((c.sup.take k).any (· == c.sup.getD k [])))) := hide (fun k => rfl)
  have Hcl := hide h
  have Hst := hide hs
  obtain ⟨nm, A1, c1, S, mt⟩ := c
  simp only at *
  clear h hs
  have hc3 : (S.length : Int) ≤ (c1 : Int) := by omega
  generalize knownB (names l) S = R at *
  go_enter Tryz.func141, Tryz.ntmps141
  go_wp2
  go_loopw [10] (fun i wr => ∃ k : Nat, k ≤ S.length ∧ i = .int .i64 k ∧ Hid (∀ j, j < k → knownK (names l) S j = true) ∧ Hid (∃ d, wr = (w.alloc (.cells #[encStr nm, .slice A1 S.length c1, mt] 70)).drewN d)) (fun i _ => S.length - (intOf i).toNat)
  case atStart => exact ⟨0, Nat.zero_le _, rfl, hide (fun j hj => absurd hj (by omega)), hide ⟨0, rfl⟩⟩
  case round =>
    obtain ⟨k, hk, rfl, HJ, HW⟩ := hrel
    obtain ⟨d, rfl⟩ := HW.out
    by_cases hlt : k < S.length
    · obtain ⟨b, o, rfl, hb, q0⟩ := Hst.out.at_ hlt
      have hlt' : (k : Int) < (S.length : Int) := by omega
      have hk0 : (0 : Int) ≤ (k : Int) := by omega
      have hk1 : (k : Int) ≤ (S.length : Int) := by omega
      have hk2 : (k : Int) ≤ (c1 : Int) := by omega
      have Hk := hide (HN.out k)
      generalize S.getD k [] = y at *
      have Ha := fun w' e => hide (sup_at A cap l y w' (Hcl.out.ext e) hl)
      have Hh := fun w' e => hide (has_s_take (some ⟨b, o, none⟩) c1 S k y w' (Hst.out.ext e) hk (by omega))
      have hneg := atI_neg l y
      generalize atI l y = a at *
      have HA := hide Ha
      have HH := hide Hh
      clear Ha Hh
      cases h1 : (names l).any (· == y)
      · rw [h1] at hneg Hk
        simp only [Bool.not_false, decide_eq_true_eq] at hneg
        have hR : R = false := by rw [HK.out]; exact allR_no hlt (by rw [Hk.out]; rfl)
        subst hR
        go_wp2_with fail
        refine (HA.out _ (by repeat (first | exact Ext.refl _ | exact Ext.pre (by simp) | exact Ext.alloc (by assumption) _ | refine Ext.alloc ?_ _ |  refine Ext.more ?_ _ _ | refine Ext.drew ?_ | refine Ext.drewN ?_ _))).out.mono ?_
        rintro e w1 ⟨rfl, rfl⟩
        go_wp2
        go_ret
        exact ⟨rfl, (by repeat (first | exact Ext.refl _ | exact Ext.pre (by simp) | exact Ext.alloc (by assumption) _ | refine Ext.alloc ?_ _ |  refine Ext.more ?_ _ _ | refine Ext.drew ?_ | refine Ext.drewN ?_ _))⟩
      · rw [h1] at hneg Hk
        simp only [Bool.not_true, decide_eq_false_iff_not] at hneg
        cases h2 : (S.take k).any (· == y)
        · rw [h2] at HH Hk
          go_wp2_with fail
          refine (HA.out _ (by repeat (first | exact Ext.refl _ | exact Ext.pre (by simp) | exact Ext.alloc (by assumption) _ | refine Ext.alloc ?_ _ |  refine Ext.more ?_ _ _ | refine Ext.drew ?_ | refine Ext.drewN ?_ _))).out.mono ?_
          rintro e w1 ⟨rfl, rfl⟩
          go_wp2_with fail
          refine (HH.out _ (by repeat (first | exact Ext.refl _ | exact Ext.pre (by simp) | exact Ext.alloc (by assumption) _ | refine Ext.alloc ?_ _ |  refine Ext.more ?_ _ _ | refine Ext.drew ?_ | refine Ext.drewN ?_ _))).out.mono ?_
          rintro e w1 ⟨rfl, rfl⟩
          go_wp2
          go_roundw
          case rel =>
            refine ⟨k + 1, hlt, by go_num, hide (fun j hj => ?_), hide ⟨_, rfl⟩⟩
            by_cases e : j = k
            · subst e; rw [Hk.out]; rfl
            · exact HJ.out j (by omega)
          case measure => simp [intOf]; omega
        · rw [h2] at HH Hk
          have hR : R = false := by rw [HK.out]; exact allR_no hlt (by rw [Hk.out]; rfl)
          subst hR
          go_wp2_with fail
          refine (HA.out _ (by repeat (first | exact Ext.refl _ | exact Ext.pre (by simp) | exact Ext.alloc (by assumption) _ | refine Ext.alloc ?_ _ |  refine Ext.more ?_ _ _ | refine Ext.drew ?_ | refine Ext.drewN ?_ _))).out.mono ?_
          rintro e w1 ⟨rfl, rfl⟩
          go_wp2_with fail
          refine (HH.out _ (by repeat (first | exact Ext.refl _ | exact Ext.pre (by simp) | exact Ext.alloc (by assumption) _ | refine Ext.alloc ?_ _ |  refine Ext.more ?_ _ _ | refine Ext.drew ?_ | refine Ext.drewN ?_ _))).out.mono ?_
          rintro e w1 ⟨rfl, rfl⟩
          go_wp2
          go_ret
          exact ⟨rfl, (by repeat (first | exact Ext.refl _ | exact Ext.pre (by simp) | exact Ext.alloc (by assumption) _ | refine Ext.alloc ?_ _ |  refine Ext.more ?_ _ _ | refine Ext.drew ?_ | refine Ext.drewN ?_ _))⟩
    · have hge : (S.length : Int) ≤ (k : Int) := by omega
      have hR : R = true := by rw [HK.out]; exact allR_yes (fun j hj => HJ.out j (by omega))
      subst hR
      go_wp2
      go_ret
      exact ⟨rfl, (by repeat (first | exact Ext.refl _ | exact Ext.pre (by simp) | exact Ext.alloc (by assumption) _ | refine Ext.alloc ?_ _ |  refine Ext.more ?_ _ _ | refine Ext.drew ?_ | refine Ext.drewN ?_ _))⟩

end Go.Proofs.YtcnkfkjgpdmebaaGreatDoor

/- Contracts: whether edges may be; where they lead from each vertex. -/
namespace Go.Proofs.YtcnkfkjgpdmebaaGreatDoor
open Go.RowKit

theorem all_drop {α : Type} (p : α → Bool) (l : List α) {k : Nat} (h : k < l.length) : (l.drop k).all p = (p (l[k]'h) && (l.drop (k + 1)).all p) := by
  rw [List.drop_eq_getElem_cons h]; rfl

set_option maxRecDepth 10000 in
set_option maxHeartbeats 2000000 in
theorem g_check (n : Int) (A : Option Addr) (cap : Nat) (es : List Edge) (w : World) (h : Edges w A es) (hlen : es.length ≤ 100000) :
    Calls Tryz.prog 192 #[.int .i64 n, .slice A es.length cap] w fun e w' => e = .returned (.int .i64 (if graphOk n es then 0 else 1)) ∧ Ext w w' := by
  have Hr := hide h
  clear h
  by_cases h0 : n < 0
  · have hR : graphOk n es = false := by unfold graphOk; simp; omega
    rw [hR]
    clear hR
    go_enter Tryz.func192, Tryz.ntmps192
    go_wp2
    go_ret
    exact ⟨rfl, (by repeat (first | exact Ext.refl _ | exact Ext.pre (by simp) | exact Ext.alloc (by assumption) _ | refine Ext.alloc ?_ _ |  refine Ext.more ?_ _ _ | refine Ext.drew ?_ | refine Ext.drewN ?_ _))⟩
  · by_cases h1 : 1000 < n
    · have hR : graphOk n es = false := by unfold graphOk; simp; omega
      rw [hR]
      clear hR
      go_enter Tryz.func192, Tryz.ntmps192
      go_wp2
      go_ret
      exact ⟨rfl, (by repeat (first | exact Ext.refl _ | exact Ext.pre (by simp) | exact Ext.alloc (by assumption) _ | refine Ext.alloc ?_ _ |  refine Ext.more ?_ _ _ | refine Ext.drew ?_ | refine Ext.drewN ?_ _))⟩
    · have hR : graphOk n es = es.all (edgeOk n) := by
        unfold graphOk
        have e1 : decide (0 ≤ n) = true := by simp; omega
        have e2 : decide (n ≤ 1000) = true := by simp; omega
        rw [e1, e2]; rfl
      rw [hR]
      have HA : Hid (∀ k, (h : k < es.length) → (es.drop k).all (edgeOk n) = (edgeOk n (es[k]'h) && (es.drop (k + 1)).all (edgeOk n))) := hide (fun k h => all_drop _ _ h)
      have HD : Hid ((es.drop 0).all (edgeOk n) = es.all (edgeOk n)) := hide rfl
      clear hR
      generalize es.all (edgeOk n) = R at *
      go_enter Tryz.func192, Tryz.ntmps192
      go_wp2
      go_loopw [15] (fun i wr => ∃ k : Nat, k ≤ es.length ∧ i = .int .i64 k ∧ Hid (Ext w wr) ∧ Hid ((es.drop k).all (edgeOk n) = R)) (fun i _ => es.length - (intOf i).toNat)
      case atStart => exact ⟨0, Nat.zero_le _, rfl, hide (by repeat (first | exact Ext.refl _ | exact Ext.pre (by simp) | exact Ext.alloc (by assumption) _ | refine Ext.alloc ?_ _ |  refine Ext.more ?_ _ _ | refine Ext.drew ?_ | refine Ext.drewN ?_ _)), HD⟩
      case round =>
        obtain ⟨k, hk, rfl, HX, HK⟩ := hrel
        by_cases hlt : k < es.length
        · obtain ⟨b, o, rfl, hb, c0, c1⟩ := Edges.at_ (RowOf.ext edgeC Hr.out HX.out) hlt
          have hlt' : (k : Int) < (es.length : Int) := by omega
          have Hs := hide (HA.out k hlt)
          have HE : Hid (edgeOk n (es[k]'hlt) = (decide (0 ≤ (es[k]'hlt).a) && decide (0 ≤ (es[k]'hlt).b) && (decide ((es[k]'hlt).a < n) && decide ((es[k]'hlt).b < n)))) := hide rfl
          generalize edgeOk n (es[k]'hlt) = E at *
          generalize (es[k]'hlt).a = ea at *
          generalize (es[k]'hlt).b = eb at *
          cases E
          · have hR : R = false := by rw [← HK.out, Hs.out]; rfl
            subst hR
            have hor : min ea eb < 0 ∨ n ≤ max ea eb := by
              have := HE.out
              simp at this
              omega
            by_cases hm : min ea eb < 0
            · go_wp2
              all_goals
                go_ret
                exact ⟨rfl, HX.out.trans (by repeat (first | exact Ext.refl _ | exact Ext.pre (by simp) | exact Ext.alloc (by assumption) _ | refine Ext.alloc ?_ _ |  refine Ext.more ?_ _ _ | refine Ext.drew ?_ | refine Ext.drewN ?_ _))⟩
            · have hm2 : n ≤ max ea eb := by omega
              have hm3 : max ea eb ≥ n := hm2
              clear hor
              go_wp2
              all_goals
                go_ret
                exact ⟨rfl, HX.out.trans (by repeat (first | exact Ext.refl _ | exact Ext.pre (by simp) | exact Ext.alloc (by assumption) _ | refine Ext.alloc ?_ _ |  refine Ext.more ?_ _ _ | refine Ext.drew ?_ | refine Ext.drewN ?_ _))⟩
          · have hok := HE.out
            simp only [eq_comm (a := true), Bool.and_eq_true, decide_eq_true_eq] at hok
            have hm : ¬ min ea eb < 0 := by omega
            have hm3 : ¬ max ea eb ≥ n := by omega
            have hm4 : ¬ n ≤ max ea eb := by omega
            clear hok
            go_wp2
            all_goals
              go_roundw
              case rel => exact ⟨k + 1, hlt, by go_num, hide (HX.out.trans (by repeat (first | exact Ext.refl _ | exact Ext.pre (by simp) | exact Ext.alloc (by assumption) _ | refine Ext.alloc ?_ _ |  refine Ext.more ?_ _ _ | refine Ext.drew ?_ | refine Ext.drewN ?_ _))), hide (by rw [← HK.out, Hs.out]; rfl)⟩
              case measure => simp [intOf]; omega
        · have hge : (es.length : Int) ≤ (k : Int) := by omega
          have hR : R = true := by rw [← HK.out, List.drop_eq_nil_of_le (by omega)]; rfl
          subst hR
          go_wp2
          go_ret
          exact ⟨rfl, HX.out⟩

theorem int_info : (Tryz.prog.info? 3).map (fun i => (i.zero, i.size, i.bytes)) = some (some (.int .i64 0), 1, 8) := by kernel_rfl
theorem ints_info : (Tryz.prog.info? 38).map (fun i => (i.zero, i.size, i.bytes)) = some (some (.slice none 0 0), 1, 24) := by kernel_rfl

theorem cell_box2 (w : World) (cs : Array Value) (t : TypeId) (o : Obj) (i : Nat) : ((w.alloc (.cells cs t)).alloc o).cell? ⟨w.heap.size, i, none⟩ = cs[i]? := by
  have h : ((w.alloc (.cells cs t)).alloc o).heap[w.heap.size]? = some (.cells cs t (0, 0)) := by
    show ((w.heap.push (.cells cs t)).push o)[w.heap.size]? = _
    rw [Array.getElem?_push]
    rw [if_neg (by simp), Array.getElem?_push]
    simp
  simp only [World.cell?, h]
  simp
theorem madeOne (v : Value) (n : Nat) (h : v.cells = #[v]) : madeCells v.cells (n * 1) = (List.replicate n v).toArray := by
  rw [h]
  unfold madeCells
  apply Array.ext
  · simp
  · intro i h1 h2
    simp [Nat.mod_one]
theorem Row.boxV {w : World} {b : Nat} {t : TypeId} {fr : Nat × Nat} (v : Value) (h : w.heap[b]? = some (.cells #[v] t fr)) : Row w (some ⟨b, 0, none⟩) 1 1 [v] := by
  refine ⟨rfl, fun _ => ⟨b, 0, rfl, lt_of_obj h, fun j u hu => ?_⟩⟩
  match j with
  | 0 => simp at hu; subst hu; simp [World.cell?, h]
  | j + 1 => simp at hu
theorem TosI.made (w : World) (n : Nat) : TosI 38 3 w.heap.size (w.alloc (.cells (List.replicate n (Value.slice none 0 0)).toArray 38)) w.heap.size (List.replicate n ⟨.slice none 0 0, []⟩) where
  blk := by
    have := heap_alloc_new w (.cells (List.replicate n (Value.slice none 0 0)).toArray 38)
    rw [this]
    simp
  ge := Nat.le_refl _
  own i h := by simp; exact World.ownsRow_nil _ _ _ _
  dis i j hi hj hij he := by simp [Value.ownBlock]
  nb i h := by simp [Value.ownBlock]

set_option maxRecDepth 10000 in
set_option maxHeartbeats 4000000 in
theorem g_next (n : Nat) (A : Option Addr) (cap : Nat) (es : List Edge) (w : World) (h : Edges w A es) (hn : n ≤ 1000) (hlen : es.length ≤ 100000) (hok : ∀ e ∈ es, edgeOk n e = true) :
    Calls Tryz.prog 194 #[.int .i64 n, .slice A es.length cap] w fun e w' => (∃ b ts, e = .returned (.slice (some ⟨b, 0, none⟩) n n) ∧ ts.length = n ∧ TosI 38 3 w.heap.size w' b ts ∧ ∀ v (h : v < ts.length), (ts[v]'h).l = nextL es v) ∧ Ext w w' := by
  obtain ⟨i0, hi, hz0, hz1, hz2⟩ := info_parts int_info
  obtain ⟨i1, hj, hy0, hy1, hy2⟩ := info_parts ints_info
  have Hr := hide h
  have Hok := hide hok
  clear h hok
  have hmk := run_make (P := Tryz.prog) w 274 38 i1 _ Tryz.underlying274 hj hy0 .i64 .i64 n n (by omega) (Int.le_refl _) (by rw [hy2]; omega) (by omega)
  have hmc : madeCells (Value.slice none 0 0).cells ((n : Int).toNat * i1.size) = (List.replicate n (Value.slice none 0 0)).toArray := by
    rw [hy1]
    exact madeOne _ _ rfl
  rw [hmc] at hmk
  simp only [Int.toNat_natCast] at hmk
  have T0 := hide (TosI.made w n)
  clear hmc
  have hn1 : (n : Int) ≤ 1000 := by omega
  generalize hZ : (List.replicate n (Value.slice none 0 0)).toArray = Z at *
  have HZ := hide hZ
  clear hZ
  go_enter Tryz.func194, Tryz.ntmps194
  go_wp2
  go_loopw [12] (fun i wr => ∃ (k : Nat) (ts : List SlV), k ≤ es.length ∧ i = .int .i64 k ∧ ts.length = n ∧ Hid (TosI 38 3 w.heap.size wr w.heap.size ts) ∧ Hid (∀ v (h : v < ts.length), (ts[v]'h).l = nextL (es.take k) v) ∧ Hid (Ext w wr)) (fun i _ => es.length - (intOf i).toNat)
  case atStart => exact ⟨0, _, Nat.zero_le _, rfl, by simp, T0, hide (by intro v h; simp [nextL]), hide (by repeat (first | exact Ext.refl _ | exact Ext.pre (by simp) | exact Ext.alloc (by assumption) _ | refine Ext.alloc ?_ _ |  refine Ext.more ?_ _ _ | refine Ext.drew ?_ | refine Ext.drewN ?_ _))⟩
  case round =>
    obtain ⟨k, ts, hk, rfl, hts, HT, HL, HX⟩ := hrel
    by_cases hlt : k < es.length
    · obtain ⟨be, o, rfl, hbe, c0, c1⟩ := Edges.at_ (RowOf.ext edgeC Hr.out HX.out) hlt
      have hlt' : (k : Int) < (es.length : Int) := by omega
      have hoke := Hok.out _ (List.getElem_mem hlt)
      have Htk : Hid (es.take (k + 1) = es.take k ++ [es[k]'hlt]) := hide (by rw [List.take_succ_eq_append_getElem hlt])
      unfold edgeOk at hoke
      simp only [Bool.and_eq_true, decide_eq_true_eq] at hoke
      obtain ⟨v, hv⟩ := Int.eq_ofNat_of_zero_le hoke.1.1
      have Hn : Hid (∀ u, nextL (es.take (k + 1)) u = nextL (es.take k) u ++ if (v : Int) == (u : Int) then [(es[k]'hlt).b] else []) := hide (fun u => by rw [Htk.out, nextL_snoc, hv])
      rw [hv] at c0 hoke
      clear Htk hv
      generalize (es[k]'hlt).b = eb at *
      have hvn : v < n := by omega
      have hvt : v < ts.length := by omega
      have hv1 : (v : Int) < (n : Int) := by omega
      have hv0 : (0 : Int) ≤ (v : Int) := by omega
      have hcv := HT.out.cell hvt
      have hbw := HT.out.lt
      have hll : (ts[v]'hvt).l.length ≤ 100000 := by rw [HL.out v hvt]; unfold nextL; rw [List.length_map]; have := List.length_filter_le (fun e : Edge => e.a == (v : Int)) (es.take k); have := List.length_take_le k es; omega
      have Hown := hide (HT.out.own v hvt)
      have HV : Hid ((ts[v]'hvt).val = (ts[v]'hvt).val) := hide rfl
      clear hoke
      generalize hval : (ts[v]'hvt).val = sv at *
      generalize hlv : (ts[v]'hvt).l = lv at *
      have Hval := hide hval
      have Hlv := hide hlv
      clear hval hlv HV
      go_wp2
      go_region_law (first
        | (refine step_append_rowB _ rfl (.tmp 23) (.tmp 26) 38 rfl w.heap.size 3 i0 _ 1 8 Tryz.underlying38 hi hz0 hz1 hz2 rfl (by decide) sv lv.length (lv.map (Value.int .i64)) rfl (own_extB Hown.out (by repeat (first | exact Ext.refl _ | exact Ext.pre (by simp) | exact Ext.alloc (by assumption) _ | refine Ext.alloc ?_ _ |  refine Ext.more ?_ _ _ | refine Ext.drew ?_ | refine Ext.drewN ?_ _))) (some ⟨_, 0, none⟩) 1 1 [.int .i64 eb] rfl (Row.boxV _ (at_newB _ _ _ (by simp))) (by intro u hu; simp at hu; subst hu; rfl) (by unfold maxLen; omega) (by omega) (Ext.size (HX.out.trans (by repeat (first | exact Ext.refl _ | exact Ext.pre (by simp) | exact Ext.alloc (by assumption) _ | refine Ext.alloc ?_ _ |  refine Ext.more ?_ _ _ | refine Ext.drew ?_ | refine Ext.drewN ?_ _)))) ?_
           intro v3 w4 hown3 hg3 hat3
           obtain ⟨A3, c3, rfl, _, _, _, _⟩ := Ints.own (l := lv ++ [eb]) (by simpa using hown3)
           have p3 := TosI.put (l' := lv ++ [eb]) (HT.out.ext (by repeat (first | exact Ext.refl _ | exact Ext.pre (by simp) | exact Ext.alloc (by assumption) _ | refine Ext.alloc ?_ _ |  refine Ext.more ?_ _ _ | refine Ext.drew ?_ | refine Ext.drewN ?_ _))) hvt Hval.out (by simpa using hown3) hg3 hat3
           rw [List.length_append, List.length_singleton] at p3
           have P3 := hide p3
           clear p3
           have X3 := hide (Ext.app (HX.out.trans (by repeat (first | exact Ext.refl _ | exact Ext.pre (by simp) | exact Ext.alloc (by assumption) _ | refine Ext.alloc ?_ _ |  refine Ext.more ?_ _ _ | refine Ext.drew ?_ | refine Ext.drewN ?_ _))) hg3 (own_extB Hown.out (by repeat (first | exact Ext.refl _ | exact Ext.pre (by simp) | exact Ext.alloc (by assumption) _ | refine Ext.alloc ?_ _ |  refine Ext.more ?_ _ _ | refine Ext.drew ?_ | refine Ext.drewN ?_ _))) (Nat.le_refl _))
           have B3 := TosI.after (HT.out.ext (by repeat (first | exact Ext.refl _ | exact Ext.pre (by simp) | exact Ext.alloc (by assumption) _ | refine Ext.alloc ?_ _ |  refine Ext.more ?_ _ _ | refine Ext.drew ?_ | refine Ext.drewN ?_ _))) hvt Hval.out hg3
           have hc3 : w4.cell? ⟨w.heap.size, v, none⟩ = some sv := by rw [← Hval.out]; simp [World.cell?, B3, hvt]
           have hf3 : w4.frozen? ⟨w.heap.size, v, none⟩ = false := by simp [World.frozen?, B3]
           have hd0 : w4.cell? ⟨wr.heap.size, 0, none⟩ = some (.int .i64 v) := (World.cell?_of_block (a := ⟨wr.heap.size, 0, none⟩) (hg3.block wr.heap.size (by simp; omega) (fun e => by have := (Hown.out.lt _ e.symm).2; omega))).trans (cell_box2 _ _ _ _ _)
           clear B3
           clear hown3 hg3 hat3))
      all_goals
        go_wp2
        go_roundw
        case rel =>
          refine ⟨k + 1, ts.set v ⟨_, lv ++ [eb]⟩, hlt, by go_num, by simp [hts], P3, hide (fun u hu => ?_), hide (Ext.setCell X3.out (Nat.le_refl _) _)⟩
          rw [Hn.out u]
          by_cases e : u = v
          · subst e
            simp only [List.getElem_set_self, beq_self_eq_true, ↓reduceIte]
            rw [← Hlv.out, HL.out u hvt]
          · rw [List.getElem_set_ne (fun h => e h.symm), HL.out u (by simpa using hu)]
            have : ((v : Int) == (u : Int)) = false := by simp; omega
            rw [this]; simp
        case measure => simp [intOf]; omega
    · have hge : (es.length : Int) ≤ (k : Int) := by omega
      have hkt : es.take k = es := List.take_of_length_le (by omega)
      rw [hkt] at HL
      go_wp2
      go_ret
      exact ⟨⟨_, ts, rfl, hts, HT.out, HL.out⟩, HX.out⟩

end Go.Proofs.YtcnkfkjgpdmebaaGreatDoor

/- What a table of rows leads to. -/
namespace Go.Proofs.YtcnkfkjgpdmebaaGreatDoor
open Go.RowKit

def succOf (ts : List SlV) (v : Nat) : List Nat := ((ts.getD v ⟨.slice none 0 0, []⟩).l).map Int.toNat
/-- All that is led to are vertices. -/
def AllIn (ts : List SlV) : Prop := ∀ s ∈ ts, ∀ y ∈ s.l, 0 ≤ y ∧ y < (ts.length : Int)

end Go.Proofs.YtcnkfkjgpdmebaaGreatDoor

/- Contracts: marking what is reached; what is reached from a vertex. -/
namespace Go.Proofs.YtcnkfkjgpdmebaaGreatDoor
open Go.RowKit

set_option maxRecDepth 10000 in
set_option maxHeartbeats 4000000 in
theorem g_from (ty : TypeId) (mb b : Nat) (ts : List SlV) (base : Nat) (hmb : mb < base) (hN : ts.length ≤ 1000) (hin : AllIn ts) : ∀ (c : Nat) (M : Nat → Bool) (v : Nat) (w : World), holes M ts.length = c → v < ts.length →
    TosI 38 3 base w b ts → Marks ty w mb M →
    Calls Tryz.prog 193 #[.pointer (some ⟨mb, 0, none⟩), .slice (some ⟨b, 0, none⟩) ts.length ts.length, .int .i64 v] w fun e w' => e = .returned (.tuple #[]) ∧ w.grownBy w' (some mb) ∧ ∃ M', Marks ty w' mb M' ∧ Dfs (succOf ts) M M' v (succOf ts v) := by
  intro c
  induction c using Nat.strongRecOn with
  | _ c ih =>
    intro M v w hc hv hT hM
    obtain ⟨A1, c1, he, hc1, hc2, hrow, hblk⟩ := Ints.own (hT.own v hv)
    have hcell := hT.cell hv
    rw [he] at hcell
    have hmlt : mb < w.heap.size := lt_of_obj hM
    have hblt := hT.lt
    have hbge := hT.ge
    have Hrow := hide hrow
    have Hblk := hide hblk
    have hs : succOf ts v = ((ts[v]'hv).l).map Int.toNat := by unfold succOf; simp [hv]
    have Hs := hide hs
    have Hl := hide (hin _ (List.getElem_mem hv))
    have hv' : (v : Int) < (ts.length : Int) := by omega
    have hv0 : (0 : Int) ≤ (v : Int) := by omega
    have HT := hide hT
    have HM := hide hM
    have HC := hide hc
    have HI := hide ih
    clear hT hM he hrow hs hin ih hc hblk
    generalize (ts[v]'hv).l = L at *
    have Hfin : Hid ((L.map Int.toNat).take L.length = succOf ts v) := hide (by rw [Hs.out]; exact List.take_of_length_le (by simp))
    go_enter Tryz.func193, Tryz.ntmps193
    go_wp2
    go_loopw [13] (fun i wr => ∃ (k : Nat), k ≤ L.length ∧ i = .int .i64 k ∧ Hid (w.grownBy wr (some mb)) ∧ Hid (∃ M1, Marks ty wr mb M1 ∧ Dfs (succOf ts) M M1 v ((L.map Int.toNat).take k))) (fun i _ => L.length - (intOf i).toNat)
    case atStart => exact ⟨0, Nat.zero_le _, rfl, hide (World.grownBy.refl _ _), hide ⟨M, HM.out, Dfs.start _ _ _⟩⟩
    case round =>
      obtain ⟨k, hk, rfl, HG, HD⟩ := hrel
      by_cases hlt : k < L.length
      · obtain ⟨M1, hM1, hD1⟩ := HD.out
        have hmr : mb < wr.heap.size := by have := HG.out.size; omega
        have HR : Hid (Ints wr A1 L) := hide (Row.keep Hrow.out HG.out.size (fun b o e hb => HG.out.block b hb (fun h => by have := (Hblk.out b o e).1; injection h with h; omega)))
        obtain ⟨b1, o1, rfl, hb1, q1⟩ := HR.out.at_ hlt
        have hlt' : (k : Int) < (L.length : Int) := by omega
        obtain ⟨hu0, hu1⟩ := Hl.out _ (List.getElem_mem hlt)
        obtain ⟨u, hu⟩ := Int.eq_ofNat_of_zero_le hu0
        have Htk : Hid ((L.map Int.toNat).take (k + 1) = (L.map Int.toNat).take k ++ [u]) := hide (by
          rw [List.take_succ_eq_append_getElem (by simpa using hlt)]
          simp [hu])
        have Hmem : Hid (u ∈ succOf ts v) := hide (by
          rw [Hs.out, List.mem_map]
          exact ⟨_, List.getElem_mem hlt, by rw [hu]; simp⟩)
        rw [hu] at q1 hu1
        clear hu hu0
        have huN : u < ts.length := by omega
        have hu2 : (u : Int) < 1000 := by omega
        have hu3 : (0 : Int) ≤ (u : Int) := by omega
        have hcm := hM1.cell (j := u) (by omega)
        have hfm := hM1.free u
        have HM1 := hide hM1
        have HD1 := hide hD1
        clear HD hM1 hD1 hu1
        cases hMu : M1 u
        · rw [hMu] at hcm
          have HT3 : Hid (TosI 38 3 base (wr.setCell ⟨mb, u, none⟩ (.bool true)) b ts) := hide (HT.out.keep (grown_trans HG.out (grown_set _ _ _ _)) (by intro j h; injection h with h; omega))
          have HM3 := hide (HM1.out.set u)
          have Hh : Hid (holes (fun i => i == u || M1 i) ts.length < c) := hide (by
            have h1 := holes_set hMu ts.length huN
            have h2 := holes_mono HD1.out.sub ts.length
            have h3 := HC.out
            omega)
          have Hcall := hide (HI.out _ Hh.out _ u _ rfl huN HT3.out HM3.out)
          have HG3 : Hid (w.grownBy (wr.setCell ⟨mb, u, none⟩ (.bool true)) (some mb)) := hide (grown_trans HG.out (grown_set _ _ _ _))
          clear hMu
          go_wp2_with fail
          refine Hcall.out.mono ?_
          rintro e w3 ⟨rfl, hg3, M3, hM3, hD3⟩
          have HM4 := hide hM3
          have HD4 := hide (HD1.out.go Hmem.out hD3)
          have HG4 := hide (grown_trans HG3.out hg3)
          clear hg3 hM3 hD3
          go_wp2
          go_roundw
          case rel => exact ⟨k + 1, hlt, by go_num, HG4, hide ⟨M3, HM4.out, by rw [Htk.out]; exact HD4.out⟩⟩
          case measure => simp [intOf]; omega
        · rw [hMu] at hcm
          have HD4 := hide (HD1.out.skip hMu)
          clear hMu
          go_wp2
          go_roundw
          case rel => exact ⟨k + 1, hlt, by go_num, HG, hide ⟨M1, HM1.out, by rw [Htk.out]; exact HD4.out⟩⟩
          case measure => simp [intOf]; omega
      · have hge : (L.length : Int) ≤ (k : Int) := by omega
        have hkl : k = L.length := by omega
        obtain ⟨M1, hM1, hD1⟩ := HD.out
        rw [hkl, Hfin.out] at hD1
        have HM1 := hide hM1
        have HD1 := hide hD1
        clear HD hM1 hD1 hkl
        go_wp2
        go_end0
        exact ⟨rfl, HG.out, M1, HM1.out, HD1.out⟩

end Go.Proofs.YtcnkfkjgpdmebaaGreatDoor

/- What an edge list leads to. -/
namespace Go.Proofs.YtcnkfkjgpdmebaaGreatDoor
open Go.RowKit

def nextN (es : List Edge) (v : Nat) : List Nat := (nextL es v).map Int.toNat
theorem succ_next {n : Nat} {es : List Edge} {ts : List SlV} (hok : ∀ e ∈ es, edgeOk n e = true) (hts : ts.length = n) (hl : ∀ v (h : v < ts.length), (ts[v]'h).l = nextL es v) : succOf ts = nextN es := by
  funext v
  unfold succOf nextN
  congr 1
  by_cases h : v < ts.length
  · simp [h, hl v h]
  · have hnil : nextL es v = [] := by
      unfold nextL
      simp only [List.map_eq_nil_iff, List.filter_eq_nil_iff]
      intro e he hv
      have := hok e he
      unfold edgeOk at this
      simp at this hv
      omega
    simp [h, hnil]
theorem all_in {n : Nat} {es : List Edge} {ts : List SlV} (hok : ∀ e ∈ es, edgeOk n e = true) (hts : ts.length = n) (hl : ∀ v (h : v < ts.length), (ts[v]'h).l = nextL es v) : AllIn ts := by
  intro s hs y hy
  obtain ⟨v, hv, rfl⟩ := List.getElem_of_mem hs
  rw [hl v hv] at hy
  unfold nextL at hy
  obtain ⟨e, he, rfl⟩ := List.mem_map.1 hy
  have := hok e (List.mem_filter.1 he).1
  unfold edgeOk at this
  simp at this
  rw [hts]
  omega
theorem markCells_none (n : Nat) : markCells n (fun _ => false) = Array.replicate n (.bool false) := by
  unfold markCells
  rw [List.map_const']
  simp
theorem zero_marks : Tryz.zeroCells272 = Array.replicate 1000 (.bool false) := by kernel_rfl
end Go.Proofs.YtcnkfkjgpdmebaaGreatDoor

/- Contract: what is reached from a vertex. -/
namespace Go.Proofs.YtcnkfkjgpdmebaaGreatDoor
open Go.RowKit

def markedL (M : Nat → Bool) (k : Nat) : List Int := ((List.range k).filter M).map Int.ofNat
theorem markedL_succ (M : Nat → Bool) (k : Nat) : markedL M (k + 1) = markedL M k ++ if M k then [(k : Int)] else [] := by
  unfold markedL
  rw [List.range_succ, List.filter_append, List.map_append]
  cases h : M k <;> simp [h]
theorem markedL_len (M : Nat → Bool) (k : Nat) : (markedL M k).length ≤ k := by
  unfold markedL
  have := List.length_filter_le M (List.range k)
  simpa using this

set_option maxRecDepth 10000 in
set_option maxHeartbeats 4000000 in
theorem g_reach (n v : Nat) (A : Option Addr) (cap : Nat) (es : List Edge) (w : World) (h : Edges w A es) (hg : graphOk n es = true) (hlen : es.length ≤ 100000) (hv : v < n) :
    Calls Tryz.prog 144 #[.int .i64 n, .slice A es.length cap, .int .i64 v] w fun e w' => (∃ A' cap' p, e = .returned (.slice A' (markedL p n).length cap') ∧ (markedL p n).length ≤ cap' ∧ cap' ≤ 9223372036854775807 ∧ Ints w' A' (markedL p n) ∧ ∀ x, p x = true ↔ SR (nextN es) v x) ∧ Ext w w' := by
  have hn : n ≤ 1000 := by unfold graphOk at hg; simp at hg; omega
  have hok : ∀ e ∈ es, edgeOk n e = true := by unfold graphOk at hg; simp at hg; exact hg.2
  have Hc := hide (g_check n A cap es w h hlen)
  rw [hg] at Hc
  have Hr := hide h
  have Hok := hide hok
  have hv' : (v : Int) < (n : Int) := by omega
  have hv0 : ¬ (v : Int) < 0 := by omega
  have hv1 : ¬ (n : Int) ≤ (v : Int) := by omega
  obtain ⟨i0, hi, hz0, hz1, hz2⟩ := info_parts int_info
  clear h hg hok
  go_enter Tryz.func144, Tryz.ntmps144
  go_wp2_with fail
  refine Hc.out.mono ?_
  rintro e w1 ⟨rfl, l1, d1, rfl⟩
  go_wp2_with fail
  refine (g_next n A cap es _ (RowOf.ext edgeC Hr.out (by repeat (first | exact Ext.refl _ | exact Ext.pre (by simp) | exact Ext.alloc (by assumption) _ | refine Ext.alloc ?_ _ |  refine Ext.more ?_ _ _ | refine Ext.drew ?_ | refine Ext.drewN ?_ _))) hn hlen Hok.out).mono ?_
  rintro e w2 ⟨⟨b, ts, rfl, hts, hT, hL⟩, hx2⟩
  subst hts
  have Hs := hide (succ_next Hok.out rfl hL)
  have Hin := hide (all_in Hok.out rfl hL)
  have HT := hide hT
  have HX2 : Hid (Ext w w2) := hide (Ext.trans (by repeat (first | exact Ext.refl _ | exact Ext.pre (by simp) | exact Ext.alloc (by assumption) _ | refine Ext.alloc ?_ _ |  refine Ext.more ?_ _ _ | refine Ext.drew ?_ | refine Ext.drewN ?_ _)) hx2)
  have HM : Hid (Marks 272 w2 (w.heap.size + l1.length) (fun _ => false)) := hide (by
    unfold Marks
    rw [markCells_none, ← zero_marks]
    exact (hx2.heap (by simp)).trans (at_newB _ _ _ (by simp)))
  have hszb : w.heap.size + l1.length < ((more w l1 d1).alloc (.cells Tryz.zeroCells272 272)).heap.size := by simp
  clear hT hL hx2
  go_wp2_with fail
  refine (g_from 272 (w.heap.size + l1.length) b ts _ hszb hn Hin.out _ _ v w2 rfl hv HT.out HM.out).mono ?_
  rintro e w3 ⟨rfl, hg3, M3, hM3, hD3⟩
  have HM3 := hide hM3
  have hmb3 : w.heap.size + l1.length < w3.heap.size := lt_of_obj hM3
  have HX3 : Hid (Ext w w3) := hide (HX2.out.grown hg3 (by intro j hj; injection hj with hj; omega))
  have HP : Hid (∀ x, M3 x = true ↔ SR (nextN es) v x) := hide (by rw [← Hs.out]; exact hD3.all)
  clear hg3 hM3 hD3 HM HT Hs Hin hszb
  have hn2 : (ts.length : Int) ≤ 1000 := by omega
  go_wp2
  go_loopw [8, 29] (fun u i wr => ∃ (k : Nat), k ≤ ts.length ∧ i = .int .i64 k ∧ Hid (Ext w3 wr) ∧ Hid (wr.ownsRow w3.heap.size 3 1 u (markedL M3 k).length ((markedL M3 k).map (Value.int .i64)))) (fun _ i _ => ts.length - (intOf i).toNat)
  case atStart => exact ⟨0, Nat.zero_le _, rfl, hide (Ext.refl _), hide (World.ownsRow_nil _ _ _ _)⟩
  case round =>
    obtain ⟨k, hk, rfl, HX, HO⟩ := hrel
    by_cases hlt : k < ts.length
    · have hlt' : (k : Int) < (ts.length : Int) := by omega
      have hk0 : (0 : Int) ≤ (k : Int) := by omega
      have hk1 : (k : Int) < 1000 := by omega
      have hcm : wr.cell? ⟨w.heap.size + l1.length, k, none⟩ = some (.bool (M3 k)) := (World.cell?_of_block (a := ⟨w.heap.size + l1.length, k, none⟩) (HX.out.heap hmb3)).trans (HM3.out.cell (by omega))
      have Hsu := hide (markedL_succ M3 k)
      have hml := markedL_len M3 k
      generalize hLk : markedL M3 k = L at *
      have HLk := hide hLk
      clear hLk
      cases hMk : M3 k
      · rw [hMk] at hcm Hsu
        go_wp2
        go_roundw
        case rel => exact ⟨k + 1, hlt, by go_num, HX, hide (by rw [Hsu.out]; simpa using HO.out)⟩
        case measure => simp [intOf]; omega
      · rw [hMk] at hcm Hsu
        go_wp2_with (at_builtin; refine wpList_append_row _ rfl _ _ 38 rfl w3.heap.size 3 i0 _ 1 8 Tryz.underlying38 hi hz0 hz1 hz2 rfl (by decide) u8 L.length (L.map (Value.int .i64)) rfl (HO.out.alloc _) _ 1 1 [.int .i64 k] rfl ?c2 ?c3 ?c4 ?c5 ?c6 ?_)
        case c2 => exact Row.boxV _ (at_newB _ _ _ (by simp))
        case c3 => first | rfl | (intro y hy; simp at hy; subst hy; rfl)
        case c4 => unfold maxLen; omega
        case c5 => omega
        case c6 => have := HX.out.size; simp; omega
        intro v4 w4 hown4 hg4 _
        have X4 := hide (Ext.app (HX.out.alloc _) hg4 (HO.out.alloc _) (Nat.le_refl _))
        have O4 := hide hown4
        clear hown4 hg4
        go_wp2
        go_roundw
        case rel => exact ⟨k + 1, hlt, by go_num, X4, hide (by rw [Hsu.out]; simpa using O4.out)⟩
        case measure => simp [intOf]; omega
    · have hge : (ts.length : Int) ≤ (k : Int) := by omega
      have hkn : k = ts.length := by omega
      rw [hkn] at HO
      clear hkn
      obtain ⟨A5, c5, rfl, p1, p2, p3, _⟩ := Ints.own HO.out
      have P3 := hide p3
      clear p3
      go_wp2
      go_ret
      exact ⟨⟨A5, c5, M3, rfl, p1, p2, P3.out, HP.out⟩, HX3.out.trans HX.out⟩

end Go.Proofs.YtcnkfkjgpdmebaaGreatDoor

/- Contracts: the edges of classes; the program's check. -/
namespace Go.Proofs.YtcnkfkjgpdmebaaGreatDoor
open Go.RowKit

/-! ### Plain facts -/
def edgesTo (l : List Cls) (i : Nat) : List Edge := (List.range i).flatMap fun i => (supAt l i).map fun s => ⟨(i : Int), atI l s⟩
theorem edgesTo_succ (l : List Cls) (i : Nat) : edgesTo l (i + 1) = edgesTo l i ++ (supAt l i).map fun s => ⟨(i : Int), atI l s⟩ := by
  unfold edgesTo
  rw [List.range_succ, List.flatMap_append]
  simp
theorem edgesTo_len (l : List Cls) (h : ∀ c ∈ l, c.sup.length ≤ 9) : ∀ i, i ≤ l.length → (edgesTo l i).length ≤ 9 * i
  | 0, _ => by simp [edgesTo]
  | i + 1, hi => by
    have ih := edgesTo_len l h i (by omega)
    have h1 : (supAt l i).length ≤ 9 := by rw [supAt_eq (by omega)]; exact h _ (List.getElem_mem _)
    rw [edgesTo_succ, List.length_append, List.length_map]
    omega
theorem graph_ok {l : List Cls} (h : Sound l) (hl : l.length ≤ 9) : graphOk l.length (edgesL l) = true := by
  unfold graphOk
  simp only [Bool.and_eq_true, decide_eq_true_eq, List.all_eq_true]
  refine ⟨⟨by omega, by omega⟩, fun e he => ?_⟩
  unfold edgesL at he
  obtain ⟨i, hi, he⟩ := List.mem_flatMap.1 he
  simp only [List.mem_range] at hi
  rw [supAt_eq hi] at he
  obtain ⟨s, hs, rfl⟩ := List.mem_map.1 he
  obtain ⟨j, hj, e, _⟩ := h.to hi hs
  unfold edgeOk
  simp only [e, Bool.and_eq_true, decide_eq_true_eq]
  omega
theorem reach_eq {l : List Cls} (h : Sound l) {i x : Nat} (hi : i < l.length) : SR (nextN (edgesL l)) i x ↔ SR (succC l) i x := by
  have hn : ∀ v, v < l.length → nextN (edgesL l) v = succC l v := fun v hv => by
    unfold nextN
    rw [next_edges h, if_pos hv]
  constructor
  · intro hr
    have key : SR (succC l) i x ∧ x < l.length := by
      induction hr with
      | one h1 => rw [hn _ hi] at h1; exact ⟨.one h1, succC_lt h _ hi _ h1⟩
      | step _ h1 ih => rw [hn _ ih.2] at h1; exact ⟨.step ih.1 h1, succC_lt h _ ih.2 _ h1⟩
    exact key.1
  · intro hr
    have key : SR (nextN (edgesL l)) i x ∧ x < l.length := by
      induction hr with
      | one h1 => exact ⟨.one (by rw [hn _ hi]; exact h1), succC_lt h _ hi _ h1⟩
      | step _ h1 ih => exact ⟨.step ih.1 (by rw [hn _ ih.2]; exact h1), succC_lt h _ ih.2 _ h1⟩
    exact key.1
theorem marked_any (p : Nat → Bool) {n i : Nat} (hi : i < n) : (markedL p n).any (· == (i : Int)) = p i := by
  rw [Bool.eq_iff_iff, List.any_eq_true]
  unfold markedL
  constructor
  · rintro ⟨y, hy, e⟩
    obtain ⟨x, hx, rfl⟩ := List.mem_map.1 hy
    have h1 := (List.mem_filter.1 hx).2
    simp at e
    have : x = i := by omega
    subst this
    exact h1
  · intro hp
    exact ⟨_, List.mem_map.2 ⟨i, List.mem_filter.2 ⟨by simpa using hi, hp⟩, rfl⟩, by simp⟩

theorem edge_info : (Tryz.prog.info? 268).map (fun i => (i.zero, i.size, i.bytes)) = some (some (.agg #[.int .i64 0, .int .i64 0]), 2, 16) := by kernel_rfl
theorem Row.box2 {w : World} {b : Nat} {t : TypeId} {fr : Nat × Nat} (u v : Value) (h : w.heap[b]? = some (.cells #[u, v] t fr)) : Row w (some ⟨b, 0, none⟩) 2 1 [u, v] := by
  refine ⟨rfl, fun _ => ⟨b, 0, rfl, lt_of_obj h, fun j x hx => ?_⟩⟩
  match j with
  | 0 => simp at hx; subst hx; simp [World.cell?, h]
  | 1 => simp at hx; subst hx; simp [World.cell?, h]
  | j + 2 => simp at hx

set_option maxRecDepth 10000 in
set_option maxHeartbeats 2000000 in
theorem sup_edges (A : Option Addr) (cap : Nat) (l : List Cls) (w : World) (h : Classes w A l) (hl : l.length ≤ 9) (hs : ∀ c ∈ l, c.sup.length ≤ 9) :
    Calls Tryz.prog 142 #[.slice A l.length cap] w fun e w' => (∃ A' cap', e = .returned (.slice A' (edgesL l).length cap') ∧ (edgesL l).length ≤ cap' ∧ cap' ≤ 9223372036854775807 ∧ Edges w' A' (edgesL l)) ∧ Ext w w' := by
  obtain ⟨i0, hi, hz0, hz1, hz2⟩ := info_parts edge_info
  have HC := hide h
  have HS := hide hs
  have HE : Hid (edgesTo l l.length = edgesL l) := hide rfl
  have Hlen := hide (edgesTo_len l hs)
  have hle : l.length ≤ 9223372036854775807 := by omega
  clear h hs
  generalize edgesL l = RES at *
  go_enter Tryz.func142, Tryz.ntmps142
  go_wp2
  go_loopw [3, 9] (fun v i wr => ∃ (k : Nat), k ≤ l.length ∧ i = .int .i64 k ∧ Hid (Ext w wr) ∧ Hid (wr.ownsRow w.heap.size 268 2 v (edgesTo l k).length ((edgesTo l k).flatMap edgeC.f))) (fun _ i _ => l.length - (intOf i).toNat)
  case atStart => exact ⟨0, Nat.zero_le _, rfl, hide (Ext.refl _), hide (World.ownsRow_nil _ _ _ _)⟩
  case round =>
    obtain ⟨k, hk, rfl, HX, HO⟩ := hrel
    obtain ⟨wo, rfl⟩ : ∃ wo : World, wo = wr := ⟨_, rfl⟩
    by_cases hlt : k < l.length
    · obtain ⟨b, o, rfl, hb, q0, q1, q2⟩ := (HC.out.ext HX.out).at_ hlt
      have hlt' : (k : Int) < (l.length : Int) := by omega
      have hk0 : (0 : Int) ≤ (k : Int) := by omega
      have Hst := hide (HC.out.sup _ (List.getElem_mem hlt))
      have hsl := HS.out _ (List.getElem_mem hlt)
      have Hsu : Hid (edgesTo l (k + 1) = edgesTo l k ++ ((l[k]'hlt).sup).map fun s => ⟨(k : Int), atI l s⟩) := hide (by rw [edgesTo_succ, supAt_eq hlt])
      have hll := Hlen.out k hk
      clear q0 q2
      generalize (l[k]'hlt).sup = S at *
      generalize (l[k]'hlt).A = A1 at *
      generalize (l[k]'hlt).cap = c1 at *
      generalize edgesTo l k = E at *
      go_wp2
      go_loopw [3, 18] (fun v i wr => ∃ (m : Nat), m ≤ S.length ∧ i = .int .i64 m ∧ Hid (Ext w wr) ∧ Hid (wr.ownsRow w.heap.size 268 2 v (E ++ (S.take m).map fun s => (⟨(k : Int), atI l s⟩ : Edge)).length ((E ++ (S.take m).map fun s => (⟨(k : Int), atI l s⟩ : Edge)).flatMap edgeC.f))) (fun _ i _ => S.length - (intOf i).toNat)
      case atStart => exact ⟨0, Nat.zero_le _, rfl, HX, hide (by simpa using HO.out)⟩
      case round =>
        obtain ⟨m, hm, rfl, HX2, HO2⟩ := hrel
        by_cases hlt2 : m < S.length
        · obtain ⟨b2, o2, rfl, hb2, z0⟩ := (Hst.out.ext HX2.out).at_ hlt2
          have hlt2' : (m : Int) < (S.length : Int) := by omega
          have Htk : Hid (∀ f : Str → Edge, (S.take (m + 1)).map f = (S.take m).map f ++ [f (S.getD m [])]) := hide (fun f => by rw [List.take_succ_eq_append_getElem hlt2, List.map_append]; simp [hlt2])
          generalize S.getD m [] = y at *
          have Ha := hide (sup_at (some ⟨b, o, none⟩) cap l y wr (HC.out.ext HX2.out) hle)
          have Hfin : Hid ((E ++ (S.take (m + 1)).map fun s => (⟨(k : Int), atI l s⟩ : Edge)) = (E ++ (S.take m).map fun s => (⟨(k : Int), atI l s⟩ : Edge)) ++ [⟨(k : Int), atI l y⟩]) := hide (by rw [Htk.out]; simp)
          have hlE : (E ++ (S.take m).map fun s => (⟨(k : Int), atI l s⟩ : Edge)).length ≤ 1000 := by
            rw [List.length_append, List.length_map, List.length_take]; omega
          clear Htk
          generalize (E ++ (S.take m).map fun s => (⟨(k : Int), atI l s⟩ : Edge)) = E2 at *
          generalize atI l y = a at *
          go_wp2_with fail
          refine Ha.out.mono ?_
          rintro e w1 ⟨rfl, rfl⟩
          go_wp2_with (at_builtin; refine wpList_append_row _ rfl _ _ 216 rfl w.heap.size 268 i0 _ 2 16 Tryz.underlying216 hi hz0 hz1 hz2 rfl (by decide) u3 E2.length (E2.flatMap edgeC.f) rfl (HO2.out.alloc _) _ 1 1 [.int .i64 k, .int .i64 a] rfl ?c2 ?c3 ?c4 ?c5 ?c6 ?_)
          case c2 => exact Row.box2 _ _ (at_newB _ _ _ (by simp))
          case c3 => intro y hy; simp at hy; rcases hy with rfl | rfl <;> rfl
          case c4 => unfold maxLen; omega
          case c5 => omega
          case c6 => have := HX2.out.size; simp; omega
          intro v4 w4 hown4 hg4 _
          have X4 := hide (Ext.app (HX2.out.alloc _) hg4 (HO2.out.alloc _) (Nat.le_refl _))
          have O4 := hide hown4
          clear hown4 hg4
          go_wp2
          go_roundw
          case rel => exact ⟨m + 1, hlt2, by go_num, X4, hide (by rw [Hfin.out]; simpa [edgeC] using O4.out)⟩
          case measure => simp [intOf]; omega
        · have hge2 : (S.length : Int) ≤ (m : Int) := by omega
          have hmt : S.take m = S := List.take_of_length_le (by omega)
          rw [hmt, ← Hsu.out] at HO2
          clear hmt
          go_wp2
          go_roundw
          case rel => exact ⟨k + 1, hlt, by go_num, HX2, HO2⟩
          case measure => simp [intOf]; omega
    · have hge : (l.length : Int) ≤ (k : Int) := by omega
      have hkl : k = l.length := by omega
      rw [hkl, HE.out] at HO
      clear hkl
      obtain ⟨A5, c5, rfl, p1, p2, p3, _⟩ := RowOf.own edgeC HO.out
      have P3 := hide p3
      clear p3
      go_wp2
      go_ret
      exact ⟨⟨A5, c5, rfl, p1, p2, P3.out⟩, HX.out⟩

end Go.Proofs.YtcnkfkjgpdmebaaGreatDoor
