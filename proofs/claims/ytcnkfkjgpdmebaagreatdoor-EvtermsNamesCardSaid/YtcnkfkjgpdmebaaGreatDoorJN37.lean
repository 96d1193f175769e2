/- Contract: the reference's check. -/
import Derived.Test.YtcnkfkjgpdmebaaGreatDoorJN36
import Derived.Deep.RegionHeld3
import Derived.Laws.OwnMore
/- Contract: the reference's check. -/
namespace Go.Proofs.YtcnkfkjgpdmebaaGreatDoor
open Go.RowKit

end Go.Proofs.YtcnkfkjgpdmebaaGreatDoor

/- Contracts: the program's check; may classes be; all above one. -/
namespace Go.Proofs.YtcnkfkjgpdmebaaGreatDoor
open Go.RowKit

set_option maxRecDepth 10000 in
set_option maxHeartbeats 4000000 in
theorem sup_check (A : Option Addr) (cap : Nat) (l : List Cls) (w : World) (h : Classes w A l) (hl : l.length ≤ 9) (hs : ∀ c ∈ l, c.sup.length ≤ 9) :
    Calls Tryz.prog 97 #[.slice A l.length cap] w fun e w' => e = .returned (.tuple #[.int .i64 (checkL l).1, .int .i64 (checkL l).2]) ∧ Ext w w' := by
  have F1 := hide (fun k => @check_1 l k)
  have F2 := hide (@check_2 l)
  have F3 := hide (@check_3 l)
  have F4 := hide (@check_4 l)
  have HC := hide h
  have HS := hide hs
  have HT : Hid (∀ i (h : i < l.length), twiceB l i = decide (atI l (l[i]'h).name < (i : Int))) := hide (fun i h => by unfold twiceB; rw [nameAt_eq h])
  have HB : Hid (∀ i (h : i < l.length), badB l i = !knownB (names l) (l[i]'h).sup) := hide (fun i h => by unfold badB; rw [supAt_eq h])
  have HSo : Hid ((∀ j, j < l.length → twiceB l j = false) → (∀ j, j < l.length → badB l j = false) → Sound l) := hide (fun h1 h2 => ⟨firstI_none _ _ h1, firstI_none _ _ h2⟩)
  have hle : l.length ≤ 9223372036854775807 := by omega
  clear h hs
  generalize checkL l = R at *
  go_enter Tryz.func97, Tryz.ntmps97
  go_wp2
  go_loop [10] (fun i => ∃ k : Nat, k ≤ l.length ∧ i = .int .i64 k ∧ Hid (∀ j, j < k → twiceB l j = false)) (fun i => l.length - (intOf i).toNat)
  case atStart => exact ⟨0, Nat.zero_le _, rfl, hide (fun j hj => absurd hj (by omega))⟩
  case round =>
    obtain ⟨k, hk, rfl, HJ⟩ := hrel
    by_cases hlt : k < l.length
    · obtain ⟨b, o, rfl, hb, q0, q1, q2⟩ := HC.out.at_ hlt
      have hlt' : (k : Int) < (l.length : Int) := by omega
      have Hk := hide (HT.out k hlt)
      generalize (l[k]'hlt).name = y at *
      have Ha := hide (sup_at (some ⟨b, o, none⟩) cap l y w HC.out hle)
      clear q1 q2
      generalize atI l y = a at *
      by_cases h1 : a < (k : Int)
      · have hR := F1.out k hlt HJ.out (by rw [Hk.out]; simpa using h1)
        subst hR
        go_wp2_with fail
        refine Ha.out.mono ?_
        rintro e w1 ⟨rfl, rfl⟩
        go_wp2
        go_ret2
        exact ⟨rfl, (by repeat (first | exact Ext.refl _ | exact Ext.pre (by simp) | exact Ext.alloc (by assumption) _ | refine Ext.alloc ?_ _ |  refine Ext.more ?_ _ _ | refine Ext.drew ?_ | refine Ext.drewN ?_ _))⟩
      · have Hk' : Hid (twiceB l k = false) := hide (by rw [Hk.out]; simpa using h1)
        go_wp2_with fail
        refine Ha.out.mono ?_
        rintro e w1 ⟨rfl, rfl⟩
        go_wp2
        go_round
        case rel =>
          refine ⟨k + 1, hlt, by go_num, hide (fun j hj => ?_)⟩
          by_cases e : j = k
          · subst e; exact Hk'.out
          · exact HJ.out j (by omega)
        case measure => simp [intOf]; omega
    · have hge : (l.length : Int) ≤ (k : Int) := by omega
      have J1 : Hid (∀ j, j < l.length → twiceB l j = false) := hide (fun j hj => HJ.out j (by omega))
      clear HJ HT F1
      go_wp2
      go_loopw [26] (fun i wr => ∃ k : Nat, k ≤ l.length ∧ i = .int .i64 k ∧ Hid (∀ j, j < k → badB l j = false) ∧ Hid (Ext w wr)) (fun i _ => l.length - (intOf i).toNat)
      case atStart => exact ⟨0, Nat.zero_le _, rfl, hide (fun j hj => absurd hj (by omega)), hide (by repeat (first | exact Ext.refl _ | exact Ext.pre (by simp) | exact Ext.alloc (by assumption) _ | refine Ext.alloc ?_ _ |  refine Ext.more ?_ _ _ | refine Ext.drew ?_ | refine Ext.drewN ?_ _))⟩
      case round =>
        obtain ⟨m, hm, rfl, HJ, HX⟩ := hrel
        by_cases hlt : m < l.length
        · obtain ⟨b, o, rfl, hb, q0, q1, q2⟩ := (HC.out.ext HX.out).at_ hlt
          have hlt' : (m : Int) < (l.length : Int) := by omega
          have Hk := hide (HB.out m hlt)
          have Hst := hide (HC.out.sup _ (List.getElem_mem hlt))
          have hcl := (HC.out.le _ (List.getElem_mem hlt))
          generalize (l[m]'hlt).name = y at *
          generalize (l[m]'hlt).sup = S at *
          generalize (l[m]'hlt).A = A1 at *
          generalize (l[m]'hlt).cap = c1 at *
          generalize (l[m]'hlt).meth = mt at *
          obtain ⟨hcl1, hcl2⟩ := hcl
          have Hkn := hide (sup_known (some ⟨b, o, none⟩) cap l ⟨y, A1, c1, S, mt⟩ wr (HC.out.ext HX.out) hle (Hst.out.ext HX.out) hcl1 hcl2)
          simp only at Hkn
          cases h1 : knownB (names l) S
          · rw [h1] at Hkn Hk
            have hR := F2.out J1.out hlt HJ.out (by rw [Hk.out]; rfl)
            subst hR
            go_wp2_with fail
            refine Hkn.out.mono ?_
            rintro e w1 ⟨rfl, l1, d1, rfl⟩
            go_wp2
            go_ret2
            exact ⟨rfl, HX.out.trans (by repeat (first | exact Ext.refl _ | exact Ext.pre (by simp) | exact Ext.alloc (by assumption) _ | refine Ext.alloc ?_ _ |  refine Ext.more ?_ _ _ | refine Ext.drew ?_ | refine Ext.drewN ?_ _))⟩
          · rw [h1] at Hkn Hk
            go_wp2_with fail
            refine Hkn.out.mono ?_
            rintro e w1 ⟨rfl, l1, d1, rfl⟩
            go_wp2
            go_roundw
            case rel =>
              refine ⟨m + 1, hlt, by go_num, hide (fun j hj => ?_), hide (HX.out.trans (by repeat (first | exact Ext.refl _ | exact Ext.pre (by simp) | exact Ext.alloc (by assumption) _ | refine Ext.alloc ?_ _ |  refine Ext.more ?_ _ _ | refine Ext.drew ?_ | refine Ext.drewN ?_ _)))⟩
              by_cases e : j = m
              · subst e; rw [Hk.out]; rfl
              · exact HJ.out j (by omega)
            case measure => simp [intOf]; omega
        · have hge3 : (l.length : Int) ≤ (m : Int) := by omega
          have J2 : Hid (∀ j, j < l.length → badB l j = false) := hide (fun j hj => HJ.out j (by omega))
          have SO := hide (HSo.out J1.out J2.out)
          have Hgo := hide (graph_ok SO.out hl)
          have Hcy : Hid (∀ i p, i < l.length → (∀ x, p x = true ↔ SR (nextN (edgesL l)) i x) → (markedL p l.length).any (· == (i : Int)) = cycB l i) := hide (by
            intro i p hi hp
            rw [marked_any p hi, Bool.eq_iff_iff, hp, reach_eq SO.out hi, cyc_reach SO.out hi])
          clear HJ HB F2 HSo
          go_wp2_with fail
          refine (sup_edges A cap l wr (HC.out.ext HX.out) hl HS.out).mono ?_
          rintro e w1 ⟨⟨A9, c9, rfl, p1, p2, p3⟩, hx⟩
          have HE := hide p3
          have HX1 := hide (HX.out.trans hx)
          have hlen9 : (edgesL l).length ≤ 100000 := by have := edgesTo_len l HS.out l.length (Nat.le_refl _); unfold edgesTo at this; unfold edgesL; omega
          clear p3 hx
          generalize edgesL l = ES at *
          go_wp2
          go_loopw [42] (fun i wr => ∃ k : Nat, k ≤ l.length ∧ i = .int .i64 k ∧ Hid (∀ j, j < k → cycB l j = false) ∧ Hid (Ext w1 wr)) (fun i _ => l.length - (intOf i).toNat)
          case atStart => exact ⟨0, Nat.zero_le _, rfl, hide (fun j hj => absurd hj (by omega)), hide (by repeat (first | exact Ext.refl _ | exact Ext.pre (by simp) | exact Ext.alloc (by assumption) _ | refine Ext.alloc ?_ _ |  refine Ext.more ?_ _ _ | refine Ext.drew ?_ | refine Ext.drewN ?_ _))⟩
          case round =>
            obtain ⟨k, hk, rfl, HJ, HX2⟩ := hrel
            by_cases hlt : k < l.length
            · have hlt' : (k : Int) < (l.length : Int) := by omega
              have hk0 : (0 : Int) ≤ (k : Int) := by omega
              go_wp2_with fail
              refine (g_reach l.length k A9 c9 ES wr (RowOf.ext edgeC HE.out HX2.out) Hgo.out hlen9 hlt).mono ?_
              rintro e w3 ⟨⟨A3, c3, p, rfl, g1, g2, g3, g4⟩, l3, d3, rfl⟩
              have G3 := hide g3
              have Hc := hide (Hcy.out k p hlt g4)
              clear g3 g4
              have Hh := hide (has_i A3 c3 (markedL p l.length) k _ G3.out (by omega))
              cases h1 : cycB l k
              · rw [Hc.out, h1] at Hh
                go_wp2_with fail
                refine Hh.out.mono ?_
                rintro e w4 ⟨rfl, rfl⟩
                go_wp2
                go_roundw
                case rel =>
                  refine ⟨k + 1, hlt, by go_num, hide (fun j hj => ?_), hide (HX2.out.trans (by repeat (first | exact Ext.refl _ | exact Ext.pre (by simp) | exact Ext.alloc (by assumption) _ | refine Ext.alloc ?_ _ |  refine Ext.more ?_ _ _ | refine Ext.drew ?_ | refine Ext.drewN ?_ _)))⟩
                  by_cases e : j = k
                  · subst e; exact h1
                  · exact HJ.out j (by omega)
                case measure => simp [intOf]; omega
              · rw [Hc.out, h1] at Hh
                have hR := F3.out J1.out J2.out hlt HJ.out h1
                subst hR
                go_wp2_with fail
                refine Hh.out.mono ?_
                rintro e w4 ⟨rfl, rfl⟩
                go_wp2
                go_ret2
                exact ⟨rfl, HX1.out.trans (HX2.out.trans (by repeat (first | exact Ext.refl _ | exact Ext.pre (by simp) | exact Ext.alloc (by assumption) _ | refine Ext.alloc ?_ _ |  refine Ext.more ?_ _ _ | refine Ext.drew ?_ | refine Ext.drewN ?_ _)))⟩
            · have hge4 : (l.length : Int) ≤ (k : Int) := by omega
              have hR := F4.out J1.out J2.out (fun j hj => HJ.out j (by omega))
              subst hR
              go_wp2
              go_ret2
              exact ⟨rfl, HX1.out.trans HX2.out⟩

set_option maxRecDepth 10000 in
set_option maxHeartbeats 1000000 in
theorem sup_sound (A : Option Addr) (cap : Nat) (l : List Cls) (w : World) (h : Classes w A l) (hl : l.length ≤ 9) (hs : ∀ c ∈ l, c.sup.length ≤ 9) :
    Calls Tryz.prog 223 #[.slice A l.length cap] w fun e w' => e = .returned (.bool (okL l)) ∧ Ext w w' := by
  have H := hide (sup_check A cap l w h hl hs)
  clear h hs
  unfold okL
  generalize checkL l = R at *
  go_enter Tryz.func223, Tryz.ntmps223
  go_wp2_with fail
  refine H.out.mono ?_
  rintro e w1 ⟨rfl, l1, d1, rfl⟩
  go_wp2
  go_ret
  exact ⟨rfl, (by repeat (first | exact Ext.refl _ | exact Ext.pre (by simp) | exact Ext.alloc (by assumption) _ | refine Ext.alloc ?_ _ |  refine Ext.more ?_ _ _ | refine Ext.drew ?_ | refine Ext.drewN ?_ _))⟩
end Go.Proofs.YtcnkfkjgpdmebaaGreatDoor

/- Contracts: all classes above one; those below. -/
namespace Go.Proofs.YtcnkfkjgpdmebaaGreatDoor
open Go.RowKit

/-! ### Plain -/
section
variable (A : Option Addr) (cap : Nat) (l : List Cls) (x : Str) (w : World)


end

end Go.Proofs.YtcnkfkjgpdmebaaGreatDoor

/- Contracts: rows of numbers alike; a copy of a row of numbers; ways, by the reference. -/
namespace Go.Proofs.YtcnkfkjgpdmebaaGreatDoor
open Go.RowKit

set_option maxRecDepth 10000 in
set_option maxHeartbeats 1000000 in
theorem clone_i (A : Option Addr) (cap : Nat) (l : List Int) (w : World) (h : Ints w A l) (hl : l.length ≤ 100000) (hn : A = none → l = [] ∧ cap = 0) :
    Calls Tryz.prog 224 #[.slice A l.length cap] w fun e w' => (∃ v, e = .returned v ∧ w'.ownsRow w.heap.size 3 1 v l.length (l.map (Value.int .i64))) ∧ Ext w w' := by
  obtain ⟨i0, hi, hz0, hz1, hz2⟩ := info_parts int_info
  rcases A with _ | a
  · obtain ⟨rfl, rfl⟩ := hn rfl
    have heq := fun (w : World) (a : Option Addr) (n c : Nat) => Lib.run_eql_slice_nil (P := Tryz.prog) w 38 3 a n c 0 0 Tryz.underlying38
    clear h hn
    go_enter Tryz.func224, Tryz.ntmps224
    go_wp2
    go_ret
    exact ⟨⟨_, rfl, World.ownsRow_nil _ _ _ _⟩, (by repeat (first | exact Ext.refl _ | exact Ext.pre (by simp) | exact Ext.alloc (by assumption) _ | refine Ext.alloc ?_ _ |  refine Ext.more ?_ _ _ | refine Ext.drew ?_ | refine Ext.drewN ?_ _))⟩
  · have Hr := hide h.row
    have Hown : Hid ((w.alloc (.cells #[] 3)).ownsRow w.heap.size 3 1 (.slice (some ⟨w.heap.size, 0, none⟩) 0 0) 0 []) := hide (World.ownsRow_made w #[] 0 (Nat.le_refl _) (by simp) (by simp))
    have heq := fun (w : World) (a : Option Addr) (n c : Nat) => Lib.run_eql_slice_nil (P := Tryz.prog) w 38 3 a n c 0 0 Tryz.underlying38
    clear h hn
    go_enter Tryz.func224, Tryz.ntmps224
    go_wp2_with (at_builtin; refine wpList_append_row _ rfl _ _ 38 rfl w.heap.size 3 i0 _ 1 8 Tryz.underlying38 hi hz0 hz1 hz2 rfl (by decide) _ 0 [] rfl Hown.out (some a) l.length cap (l.map (Value.int .i64)) rfl ?c2 ?c3 ?c4 ?c5 ?c6 ?_)
    case c2 => exact Row.ext Hr.out (Ext.alloc (Ext.refl _) _)
    case c3 => exact one_ints _
    case c4 => unfold maxLen; omega
    case c5 => omega
    case c6 => simp
    intro v4 w4 hown4 hg4 _
    have X4 : Hid (Ext w w4) := hide (Ext.app (Ext.alloc (Ext.refl _) _) hg4 Hown.out (Nat.le_refl _))
    have O4 : Hid (w4.ownsRow w.heap.size 3 1 v4 l.length (l.map (Value.int .i64))) := hide (by simpa using hown4)
    clear hown4 hg4
    go_wp2
    go_ret
    exact ⟨⟨_, rfl, O4.out⟩, X4.out⟩

/-! ### Ways by names -/
def pathN (l : List Cls) (tgt : Str) : Nat → Str → Option (List Nat)
  | 0, x => if x == tgt then some [] else none
  | n + 1, x => (supL l x).zipIdx.findSome? fun y => (pathN l tgt n y.1).map (y.2 :: ·)
theorem pathN_len (l : List Cls) (tgt : Str) : ∀ (n : Nat) (x : Str) (p : List Nat), pathN l tgt n x = some p → p.length = n ∧ (x = tgt ∨ Up l x tgt)
  | 0, x, p, h => by
    simp only [pathN] at h
    split at h
    · rename_i he
      injection h with h; subst h
      exact ⟨rfl, .inl (by simpa using he)⟩
    · cases h
  | n + 1, x, p, h => by
    obtain ⟨y, hy, hf⟩ := List.exists_of_findSome?_eq_some h
    simp only [Option.map_eq_some_iff] at hf
    obtain ⟨q, hq, rfl⟩ := hf
    obtain ⟨h1, h2⟩ := pathN_len l tgt n y.1 q hq
    have hm : y.1 ∈ supL l x := by
      have := List.mem_zipIdx_iff_getElem?.1 hy
      exact List.mem_of_getElem? this
    refine ⟨by simp [h1], .inr ?_⟩
    rcases h2 with h2 | h2
    · rw [← h2]; exact .one hm
    · exact (Up.one hm).trans h2
def ofNats (p : Option (List Nat)) : List Int := (p.getD []).map Int.ofNat

end Go.Proofs.YtcnkfkjgpdmebaaGreatDoor

/- Contract: the way from one class to another one, the reference's; plain facts on both. -/
namespace Go.Proofs.YtcnkfkjgpdmebaaGreatDoor
open Go.RowKit

def pathL (l : List Cls) (a b : Str) : Option (List Nat) :=
  if okL l && !decide (atI l a < 0) && !decide (atI l b < 0) then (List.range l.length).findSome? fun n => pathN l b n a else none
theorem zip_map_congr {β γ δ : Type} (F : γ × Nat → Option β) (G : δ × Nat → Option β) (g : γ → δ) : ∀ (row : List γ) (i0 : Nat), (∀ s ∈ row, ∀ k, F (s, k) = G (g s, k)) → (row.zipIdx i0).findSome? F = ((row.map g).zipIdx i0).findSome? G
  | [], _, _ => rfl
  | s :: row, i0, h => by
    simp only [List.zipIdx_cons, List.map_cons, List.findSome?_cons]
    rw [h s (by simp) i0, zip_map_congr F G g row (i0 + 1) (fun t ht k => h t (by simp [ht]) k)]
theorem pathN_R {l : List Cls} (h : Sound l) {b : Nat} (hb : b < l.length) : ∀ (n a : Nat) (ha : a < l.length), pathN l (l[b]'hb).name n (l[a]'ha).name = pathR (succC l) b n a
  | 0, a, ha => by
    simp only [pathN, pathR]
    by_cases e : a = b
    · subst e; simp
    · rw [if_neg e, if_neg]
      intro hh
      exact e (h.inj ha hb (by simpa using hh))
  | n + 1, a, ha => by
    simp only [pathN, pathR]
    rw [h.sup ha]
    have hsc : succC l a = ((l[a]'ha).sup).map fun s => (atI l s).toNat := by unfold succC; rw [supAt_eq ha]
    rw [hsc]
    refine zip_map_congr _ _ _ _ 0 (fun s hs k => ?_)
    obtain ⟨j, hj, e, en⟩ := h.to ha hs
    have ih := pathN_R h hb n j hj
    simp only
    rw [e, Int.toNat_natCast, ← ih, en]
theorem pathL_bfs {l : List Cls} (ho : okL l = true) {a b : Nat} (ha : a < l.length) (hb : b < l.length) (x y : Str) (hx : (l[a]'ha).name = x) (hy : (l[b]'hb).name = y) {f : Nat} (hf : 1 + restG (succC l) (fun _ => false) l.length ≤ f) :
    pathL l x y = bfsGo (succC l) b f (fun _ => false) [(a, [])] := by
  have hso := (okL_sound ho).1
  rw [bfs_path (N := l.length) (fun x hx y hy => succC_lt hso x hx y hy) ha hf]
  unfold pathL pathUpto
  have e1 := hso.at_ ha
  have e2 := hso.at_ hb
  rw [hx] at e1
  rw [hy] at e2
  rw [ho, e1, e2]
  have h1 : decide ((a : Int) < 0) = false := by simp
  have h2 : decide ((b : Int) < 0) = false := by simp
  rw [h1, h2]
  simp only [Bool.not_false, Bool.and_self, ↓reduceIte]
  congr 1
  funext n
  rw [← hx, ← hy]
  exact pathN_R hso hb n a ha

section
variable (A : Option Addr) (cap : Nat) (l : List Cls) (x y : Str) (w : World)
end

end Go.Proofs.YtcnkfkjgpdmebaaGreatDoor
