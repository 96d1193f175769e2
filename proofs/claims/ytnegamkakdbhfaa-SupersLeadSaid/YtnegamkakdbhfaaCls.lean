/- Rows of classes, and looking for one by its name. -/
import Derived.Test.YtnegamkakdbhfaaSeek
namespace Go.Proofs.Ytnegamkakdbhfaa
open Go.RowKit

structure Cls where
  name : Str
  A : Option Addr
  cap : Nat
  sup : List Str
  meth : Value
def Cls.cells (c : Cls) : List Value := [encStr c.name, .slice c.A c.sup.length c.cap, c.meth]
def clsC : Coder Cls := ⟨3, Cls.cells, fun _ => rfl, by omega⟩
def Cls.zero : Cls := ⟨[], none, 0, [], .slice none 0 0⟩
/-- Classes that stand in memory. -/
structure Classes (w : World) (A : Option Addr) (l : List Cls) : Prop where
  row : RowOf clsC w A l
  sup : ∀ c ∈ l, Strs w c.A c.sup
  le : ∀ c ∈ l, c.sup.length ≤ c.cap ∧ c.cap ≤ 9223372036854775807

section
variable {w w' : World} {A : Option Addr} {l : List Cls}
theorem Classes.ext (h : Classes w A l) (k : Ext w w') : Classes w' A l := ⟨RowOf.ext clsC h.row k, fun c hc => (h.sup c hc).ext k, h.le⟩
theorem Classes.nil (w : World) (A : Option Addr) : Classes w A [] := ⟨RowOf.nil _ _ _, by simp, by simp⟩
theorem Classes.at_ (h : Classes w A l) {i : Nat} (hi : i < l.length) :
    ∃ b o, A = some ⟨b, o, none⟩ ∧ b < w.heap.size ∧ w.cell? ⟨b, o + i * 3, none⟩ = some (.string ⟨(l[i]'hi).name.toArray⟩) ∧
      w.cell? ⟨b, o + i * 3 + 1, none⟩ = some (.slice (l[i]'hi).A (l[i]'hi).sup.length (l[i]'hi).cap) ∧ w.cell? ⟨b, o + i * 3 + 2, none⟩ = some (l[i]'hi).meth := by
  obtain ⟨b, o, e, hb, hc⟩ := RowOf.at_ clsC h.row hi
  refine ⟨b, o, e, hb, ?_, ?_, ?_⟩
  · have := hc 0 (by decide); simpa [clsC, Cls.cells] using this
  · have := hc 1 (by decide); simpa [clsC, Cls.cells] using this
  · have := hc 2 (by decide); simpa [clsC, Cls.cells] using this
end
def names (l : List Cls) : List Str := l.map (·.name)
theorem names_len (l : List Cls) : (names l).length = l.length := by simp [names]
theorem names_get (l : List Cls) {i : Nat} (h : i < l.length) : (names l).getD i [] = (l[i]'h).name := by simp [names, h]
def atI (l : List Cls) (x : Str) : Int := idxI (names l) x

set_option maxHeartbeats 1000000 in
theorem sup_at (A : Option Addr) (cap : Nat) (l : List Cls) (x : Str) (w : World) (h : Classes w A l) (hle : l.length ≤ 9223372036854775807) :
    Calls Try.prog 74 #[.slice A l.length cap, encStr x] w fun e w' => e = .returned (.int .i64 (atI l x)) ∧ w' = w := by
  have Hat := hide (fun k => @idxI_at _ _ (names l) x [] k)
  have Hno := hide (idxI_no (names l) x [])
  have Hr := hide h
  have Hn : Hid (∀ i (h : i < l.length), (names l).getD i [] = (l[i]'h).name) := hide (fun i h => names_get l h)
  have Hl := hide (names_len l)
  clear h
  unfold atI
  generalize idxI (names l) x = R at *
  go_enter Try.func74, Try.ntmps74
  go_wp2
  go_loop [8] (fun i => ∃ j : Nat, j ≤ l.length ∧ i = .int .i64 j ∧ Hid (∀ i, i < j → ((names l).getD i [] == x) = false)) (fun i => l.length - (intOf i).toNat)
  case atStart => exact ⟨0, Nat.zero_le _, rfl, hide (fun i hi => absurd hi (by omega))⟩
  case round =>
    obtain ⟨j, hj, rfl, Hj⟩ := hrel
    by_cases hlt : j < l.length
    · obtain ⟨b, o, rfl, hb, hc, hc1, hc2⟩ := Hr.out.at_ hlt
      have hlt' : (j : Int) < (l.length : Int) := by omega
      have Hy : Hid ((names l).getD j [] = (l[j]'hlt).name) := hide (Hn.out j hlt)
      generalize (l[j]'hlt).name = y at *
      clear hc1 hc2
      cases hs : (y == x)
      · go_wp2
        go_round
        case rel =>
          refine ⟨j + 1, hlt, by go_num, hide (fun i hi => ?_)⟩
          by_cases hij : i = j
          · rw [hij, Hy.out]; exact hs
          · exact Hj.out i (by omega)
        case measure => simp [intOf]; omega
      · have hR := Hat.out j (by rw [Hl.out]; exact hlt) Hj.out (by rw [Hy.out]; exact hs)
        subst hR
        go_wp2
        go_ret
        exact ⟨rfl, rfl⟩
    · have hge : (l.length : Int) ≤ (j : Int) := by omega
      have hR := Hno.out (fun i hi => Hj.out i (by rw [Hl.out] at hi; omega))
      subst hR
      go_wp2
      go_ret
      exact ⟨rfl, rfl⟩

set_option maxHeartbeats 1000000 in
theorem ref_at22 (A : Option Addr) (cap : Nat) (l : List Cls) (x : Str) (w : World) (h : Classes w A l) (hle : l.length ≤ 9223372036854775807) :
    Calls Try.prog 55 #[.slice A l.length cap, encStr x] w fun e w' => e = .returned (.int .i64 (atI l x)) ∧ w' = w := by
  have Hat := hide (fun k => @idxI_at _ _ (names l) x [] k)
  have Hno := hide (idxI_no (names l) x [])
  have Hr := hide h
  have Hn : Hid (∀ i (h : i < l.length), (names l).getD i [] = (l[i]'h).name) := hide (fun i h => names_get l h)
  have Hl := hide (names_len l)
  clear h
  unfold atI
  generalize idxI (names l) x = R at *
  go_enter Try.func55, Try.ntmps55
  go_wp2
  go_loop [5] (fun i => ∃ j : Nat, j ≤ l.length ∧ i = .int .i64 j ∧ Hid (∀ i, i < j → ((names l).getD i [] == x) = false)) (fun i => l.length - (intOf i).toNat)
  case atStart => exact ⟨0, Nat.zero_le _, rfl, hide (fun i hi => absurd hi (by omega))⟩
  case round =>
    obtain ⟨j, hj, rfl, Hj⟩ := hrel
    by_cases hlt : j < l.length
    · obtain ⟨b, o, rfl, hb, hc, hc1, hc2⟩ := Hr.out.at_ hlt
      have hlt' : (j : Int) < (l.length : Int) := by omega
      have Hy : Hid ((names l).getD j [] = (l[j]'hlt).name) := hide (Hn.out j hlt)
      generalize (l[j]'hlt).name = y at *
      clear hc1 hc2
      cases hs : (y == x)
      · go_wp2
        go_round
        case rel =>
          refine ⟨j + 1, hlt, by go_num, hide (fun i hi => ?_)⟩
          by_cases hij : i = j
          · rw [hij, Hy.out]; exact hs
          · exact Hj.out i (by omega)
        case measure => simp [intOf]; omega
      · have hR := Hat.out j (by rw [Hl.out]; exact hlt) Hj.out (by rw [Hy.out]; exact hs)
        subst hR
        go_wp2
        go_ret
        exact ⟨rfl, rfl⟩
    · have hge : (l.length : Int) ≤ (j : Int) := by omega
      have hR := Hno.out (fun i hi => Hj.out i (by rw [Hl.out] at hi; omega))
      subst hR
      go_wp2
      go_ret
      exact ⟨rfl, rfl⟩

end Go.Proofs.Ytnegamkakdbhfaa
