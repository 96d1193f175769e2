/- A quiet call of a Go function as one step of a region that draws. No program in sight. -/
import Derived.Test.YtnbnhchgkbbiiaaApp
namespace Go.Proofs.Ytnbnhchgkbbiiaa
open Go.RowKit

section
variable {P : Program} (w : World)
theorem run_enter {o : Oper} {a : Act} {f : FuncId} {fn : Func} {args : Array Operand} {ats : Array TypeId} (ho : o.op = .call { callee := .value (.func f), args := args, argTypes := ats })
    (hf : P.funcs[f]? = some fn) (hn : (fn.name == "runtime.NumGoroutine") = false) (hb : fn.body.isNone = false) : (execOp a.eval o).run P w = .ok (.enter f (args.map a.eval)) w := by
  have h1 : ¬ fn.name = "runtime.NumGoroutine" := by simpa using hn
  have h2 : ¬ fn.body = none := by intro e; rw [e] at hb; cases hb
  unfold execOp
  simp [ho, resolve, Deferred.ofValue, invoke, callFunc, hf, h1, h2, Act.eval]
/-- A quiet call of a Go function as one step of a region that draws ('go_region_law'). -/
theorem step_callP {ops : Array Oper} {o : Oper} {a : Act} {K : Act → World → Prop} {Q : Exit → Act → World → Prop} {E : Prop} {α : Type} (g : α → Value) (p : α → Prop) (hgd : o.guard = none) {f : FuncId} {fn : Func} {args : Array Operand} {ats : Array TypeId} (vs : Array Value)
    (ho : o.op = .call { callee := .value (.func f), args := args, argTypes := ats }) (hf : P.funcs[f]? = some fn) (hn : (fn.name == "runtime.NumGoroutine") = false) (hb : fn.body.isNone = false)
    (hv : args.toList.map a.eval = vs.toList) (hc : Calls P f vs w fun e w' => (∃ m, e = .returned (g m) ∧ p m) ∧ w' = w) (h : ∀ m, p m → K (a.put o.dst (g m)) w) :
    if Region.wanted o (yielded ops a.tmps) = true then Oper.wp P o a w K Q else E := by
  have hv' : args.map a.eval = vs := by rw [← Array.toList_inj, Array.toList_map]; exact hv
  have hw : Region.wanted o (yielded ops a.tmps) = true := by simp [Region.wanted, hgd]
  rw [if_pos hw]
  unfold Oper.wp
  rw [run_enter w ho hf hn hb, Oper.upon_enter, hv']
  refine hc.mono fun e w'' hh => ?_
  obtain ⟨⟨m, rfl, hp⟩, rfl⟩ := hh
  exact h m hp
end

end Go.Proofs.Ytnbnhchgkbbiiaa
