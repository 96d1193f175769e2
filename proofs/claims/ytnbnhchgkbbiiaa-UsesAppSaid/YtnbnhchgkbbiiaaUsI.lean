/- Contract: the walk over a tree's names. -/
import Derived.Test.YtnbnhchgkbbiiaaUsH
import Derived.Shelf.Abstract
import Derived.Laws.EntriesVeiled
namespace Go.Proofs.Ytnbnhchgkbbiiaa
open Go.RowKit Go.Shelf

theorem uwalk11_opens : Opens 76 := enters_of Try.func76 (by kernel_rfl) rfl
theorem uuses1_opens : Opens 55 := enters_of Try.func55 (by kernel_rfl) rfl
/-- The walk's contract at a tree. -/
def WalksT (t : Tree) : Prop := ∀ (w0 w : World) (c base : Nat) (v fv : Value) (us : List Use) (p : Str → Bool), NodeIn w0 t → Below w0.heap.size w0 w → w0.heap.size ≤ c → OutAt c base w v us → AsksB c w v fv p → walkOk t → us.length + t.size ≤ 100000 →
  Calls Try.prog 54 #[treeV t, fv, .func (.func 56) #[] #[.pointer (some ⟨c, 0, none⟩)]] w fun e w' => e = .returned (.tuple #[]) ∧ ∃ v', OutAt c base w' v' (us ++ usesL t p) ∧ Tr c w v w' v'

end Go.Proofs.Ytnbnhchgkbbiiaa
