/- Rows of deeds: three cells each. No program in sight. -/
import Derived.Test.YtnegamkakdbhfaaTok
namespace Go.Proofs.Ytnegamkakdbhfaa
open Go.RowKit

structure Deed where
  kind : Int
  n : Int
  text : ByteArray
def Deed.cells (t : Deed) : List Value := [.int .i64 t.kind, .int .i64 t.n, .string t.text]
def Deed.zero : Deed := ⟨0, 0, ⟨#[]⟩⟩
def deedAt (ds : List Deed) (i : Nat) : Deed := ds.getD i Deed.zero
def deeds (ds : List Deed) : List Value := ds.flatMap Deed.cells
theorem deeds_len (ds : List Deed) : (deeds ds).length = ds.length * 3 := flat_len _ 3 (fun _ => rfl) ds
/-- Deeds that stand in memory. -/
def Deeds (w : World) (A : Option Addr) (ds : List Deed) : Prop := Row w A 3 ds.length (deeds ds)
theorem Deeds.at_ {w : World} {A : Option Addr} {ds : List Deed} (h : Deeds w A ds) {i : Nat} (hi : i < ds.length) :
    ∃ b o, A = some ⟨b, o, none⟩ ∧ b < w.heap.size ∧ w.cell? ⟨b, o + i * 3, none⟩ = some (.int .i64 (deedAt ds i).kind) ∧ w.cell? ⟨b, o + i * 3 + 1, none⟩ = some (.int .i64 (deedAt ds i).n) ∧
      w.cell? ⟨b, o + i * 3 + 2, none⟩ = some (.string (deedAt ds i).text) := by
  obtain ⟨b, o, e, hb, hc⟩ := h.2 (by omega)
  have e0 : ds[i]? = some (deedAt ds i) := by simp [deedAt, hi]
  have g (j : Nat) (hj : j < 3) : (deeds ds)[i * 3 + j]? = (deedAt ds i).cells[j]? := by
    unfold deeds
    rw [flat_get _ 3 (fun _ => rfl) ds i j hj, e0]; rfl
  refine ⟨b, o, e, hb, ?_, ?_, ?_⟩
  · have := hc (i * 3 + 0) _ (g 0 (by omega)); simpa using this
  · have := hc (i * 3 + 1) _ (g 1 (by omega)); simpa [Nat.add_assoc] using this
  · have := hc (i * 3 + 2) _ (g 2 (by omega)); simpa [Nat.add_assoc] using this
theorem Deeds.ext {w w' : World} {A : Option Addr} {ds : List Deed} (h : Deeds w A ds) (k : Ext w w') : Deeds w' A ds := Row.ext h k

end Go.Proofs.Ytnegamkakdbhfaa
