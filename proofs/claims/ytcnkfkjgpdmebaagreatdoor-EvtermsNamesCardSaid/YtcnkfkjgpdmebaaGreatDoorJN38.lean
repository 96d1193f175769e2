/- Contracts: the place of an instance (heads.Find); may a predicate not be (entail.illegal). -/
import Derived.Test.YtcnkfkjgpdmebaaGreatDoorJN37
import Derived.RegionTactic
import Derived.Deep.RegionHeld3
/- Contracts: the place of an instance (heads.Find); may a predicate not be (entail.illegal). -/
namespace Go.Proofs.YtcnkfkjgpdmebaaGreatDoor
open Go.RowKit

def headIs (c t : Str) (x : InD) : Bool := x.cls == c && x.con == t
/-- The place of the first instance of a head. -/
def findH (l : List InD) (c t : Str) : Option Nat := l.findIdx? (headIs c t)
theorem findH_at {l : List InD} {c t : Str} {k : Nat} (hk : k < l.length) (hl : ∀ j (h : j < l.length), j < k → headIs c t (l[j]'h) = false) (h : headIs c t (l[k]'hk) = true) : findH l c t = some k := by
  unfold findH
  rw [List.findIdx?_eq_some_iff_getElem]
  refine ⟨hk, h, fun j hj => ?_⟩
  rw [hl j (by omega) hj]
  simp
theorem findH_no {l : List InD} {c t : Str} (hl : ∀ j (h : j < l.length), headIs c t (l[j]'h) = false) : findH l c t = none := by
  unfold findH
  rw [List.findIdx?_eq_none_iff]
  intro x hx
  obtain ⟨j, hj, rfl⟩ := List.mem_iff_getElem.1 hx
  exact hl j hj

set_option maxRecDepth 10000 in
set_option maxHeartbeats 4000000 in
theorem h_find (A : Option Addr) (cap : Nat) (l : List InD) (c t : Str) (w : World) (h : InsIn w A l) (hl : l.length ≤ 9223372036854775806) :
    Calls Tryz.prog 196 #[.slice A l.length cap, encStr c, encStr t] w fun e w' => e = .returned (.tuple #[.int .i64 ((findH l c t).getD 0 : Nat), .bool (findH l c t).isSome]) ∧ Ext w w' := by
  have H := hide h
  have Hat := hide (fun k hk => @findH_at l c t k hk)
  have Hno := hide (@findH_no l c t)
  generalize findH l c t = R at *
  clear h
  go_enter Tryz.func196, Tryz.ntmps196
  go_wp2
  go_loopw [12] (fun i wr => ∃ k : Nat, k ≤ l.length ∧ i = .int .i64 k ∧ Hid (∀ j (h : j < l.length), j < k → headIs c t (l[j]'h) = false) ∧ Hid (Ext w wr)) (fun i _ => l.length - (intOf i).toNat)
  case atStart => exact ⟨0, Nat.zero_le _, rfl, hide (fun j _ hj => absurd hj (by omega)), hide (Ext.refl _)⟩
  case round =>
    obtain ⟨k, hk, rfl, HJ, HX⟩ := hrel
    by_cases hlt : k < l.length
    · have hlt' : (k : Int) < (l.length : Int) := by omega
      have hk0 : (0 : Int) ≤ (k : Int) := by omega
      obtain ⟨b, o, rfl, hb, q0, q1, q2, q3⟩ := (H.out.ext HX.out).at_ hlt
      have HAk := hide (fun h => Hat.out k hlt HJ.out h)
      have HJ2 : Hid (headIs c t (l[k]'hlt) = false → ∀ j (h : j < l.length), j < k + 1 → headIs c t (l[j]'h) = false) := hide (fun h0 j hj hjk => by
        by_cases e : j = k
        · subst e; exact h0
        · exact HJ.out j hj (by omega))
      generalize l[k]'hlt = x at *
      cases e1 : (x.cls == c)
      · have f1 : ¬ x.cls = c := by simpa using e1
        have HJ3 := hide (HJ2.out (by unfold headIs; rw [e1]; rfl))
        clear HAk HJ2
        go_wp2
        go_roundw
        case rel => exact ⟨k + 1, hlt, by go_num, HJ3, hide (HX.out.alloc _)⟩
        case measure => simp [intOf]; omega
      · have f1 : x.cls = c := by simpa using e1
        cases e2 : (x.con == t)
        · have f2 : ¬ x.con = t := by simpa using e2
          have HJ3 := hide (HJ2.out (by unfold headIs; rw [e1, e2]; rfl))
          clear HAk HJ2 f1
          go_wp2
          go_roundw
          case rel => exact ⟨k + 1, hlt, by go_num, HJ3, hide (HX.out.alloc _)⟩
          case measure => simp [intOf]; omega
        · have f2 : x.con = t := by simpa using e2
          have hR : R = some k := HAk.out (by unfold headIs; rw [e1, e2]; rfl)
          clear HAk HJ2 Hat Hno f1 f2
          subst hR
          have X2 := hide (HX.out.alloc (.cells #[encStr x.cls, encStr x.con, .int .i64 x.n, .slice x.A x.preds.length x.cap] 72))
          go_wp2
          go_ret2
          exact ⟨rfl, X2.out⟩
    · have hge : ¬ (k : Int) < (l.length : Int) := by omega
      have hR : R = none := Hno.out (fun j hj => HJ.out j hj (by omega))
      clear Hat Hno
      subst hR
      go_wp2
      go_ret2
      exact ⟨rfl, HX.out⟩

set_option maxRecDepth 10000 in
set_option maxHeartbeats 1000000 in
theorem en_illegal (p : Pd) (w : World) (h : PdIn w p) : Calls Tryz.prog 60 #[pdV p] w fun e w' => e = .returned (.bool (!pdB p)) ∧ Ext w w' := by
  have X0 : Hid (Ext w (w.alloc (.cells #[encStr p.cls, encStr p.ty.con, .int .i64 p.ty.var, .slice p.ty.A p.ty.args.length p.ty.cap] 55))) := hide ((Ext.refl w).alloc _)
  have HL := hide (p_legalU p _ (h.ext X0.out))
  clear h
  generalize pdB p = B at *
  unfold pdV at *
  go_enter Tryz.func60, Tryz.ntmps60
  go_wp2_with fail
  refine HL.out.mono ?_
  rintro e w2 ⟨rfl, hx⟩
  have X2 := hide (X0.out.trans hx)
  clear hx HL
  cases B
  · go_wp2
    go_ret
    exact ⟨rfl, X2.out⟩
  · go_wp2
    go_ret
    exact ⟨rfl, X2.out⟩

end Go.Proofs.YtcnkfkjgpdmebaaGreatDoor

/- The classes of what is declared, as chapter 22 has them. -/
namespace Go.Proofs.YtcnkfkjgpdmebaaGreatDoor
open Go.RowKit

def toCls (k : KlD) : Cls := ⟨k.name, k.S, k.sc, k.sups, .slice k.A k.meths.length k.cap⟩
theorem toCls_cells (l : List KlD) : (l.map toCls).flatMap clsC.f = l.flatMap klC.f := by
  rw [List.flatMap_map]
  rfl
theorem classes_row {w : World} {A : Option Addr} {l : List KlD} (h : RowOf klC w A l) : RowOf clsC w A (l.map toCls) := by
  unfold RowOf at h ⊢
  rw [toCls_cells, List.length_map]
  exact h

theorem classes_of {w : World} {A : Option Addr} {l : List KlD} (h : KlsIn w A l) : Classes w A (l.map toCls) :=
  ⟨classes_row h.row, fun c hc => by
    obtain ⟨k, hk, rfl⟩ := List.mem_map.1 hc
    exact (h.all k hk).srow, fun c hc => by
    obtain ⟨k, hk, rfl⟩ := List.mem_map.1 hc
    exact ⟨(h.all k hk).sle, (h.all k hk).smax⟩⟩

end Go.Proofs.YtcnkfkjgpdmebaaGreatDoor

/- Contracts of the reference of chapter 17: what stands in a variable's place, how great a type is, and what it is, with all replaced. -/
namespace Go.Proofs.YtcnkfkjgpdmebaaGreatDoor
open Go.RowKit

theorem PrsIn.tys {w : World} {S : Option Addr} {s : List Pr} (h : PrsIn w S s) : ∀ k ∈ tsP s, TyIn w k := fun k hk => by
  obtain ⟨p, hp, rfl⟩ := List.mem_map.1 hk
  exact h.ty p hp

end Go.Proofs.YtcnkfkjgpdmebaaGreatDoor

/- Contract of the reference of chapter 17: a type with all replaced. (A program of ours has printed this.) -/
namespace Go.Proofs.YtcnkfkjgpdmebaaGreatDoor
open Go.RowKit

end Go.Proofs.YtcnkfkjgpdmebaaGreatDoor

/- Contract of the reference of chapter 17: with a type for a variable. (A program of ours has printed this.) -/
namespace Go.Proofs.YtcnkfkjgpdmebaaGreatDoor
open Go.RowKit

end Go.Proofs.YtcnkfkjgpdmebaaGreatDoor
