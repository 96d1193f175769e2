/- Contracts: errors.As at a refusal of proofs, and at none. (After the guide's worked text on errors.As.) -/
import Derived.Test.YtcnkfkjgpdmebaaGreatDoorJN17
import Derived.Test.YtcnkfkjgpdmebaaGreatDoorProg
import Derived.LaidEql
import Derived.Stop.Asserts
import Derived.RowKitTokens
/- Contracts: errors.As at a refusal of proofs, and at none. (After the guide's worked text on errors.As.) -/
namespace Go.Proofs.YtcnkfkjgpdmebaaGreatDoor
open Go.RowKit Go.Extern.Stop Go.Stop Go.Extern

/-- errors.As(nil, target). -/
theorem as_nil (t : Value) (w : World) :
    Calls Tryz.prog 80 #[.nilIface, t] w fun e w' => e = .returned (.bool false) ∧ w' = w := by
  go_enter Tryz.func80, Tryz.ntmps80
  go_wp2
  go_ret
  exact ⟨rfl, rfl⟩

theorem as_valueOfP (t : Addr) (w : World) : (ReflectliteValue.unpack (.iface 144 (.pointer (some t)))).run Tryz.prog w
    = .ok (.agg #[.pointer (some ⟨4, 144, none⟩), .pointer (some ⟨w.heap.size, 0, none⟩), .int .u64 150]) (w.alloc (.cells #[.pointer (some t)] 144)) := by kernel_rfl
theorem as_typeP (a : Addr) (w : World) : (ReflectliteValue.methodAny (ReflectliteValue.valueError "reflectlite.Value.Type" 0) (fun t _ _ _ => ReflectliteType.toType t) #[.agg #[.pointer (some ⟨4, 144, none⟩), .pointer (some a), .int .u64 150]]).run Tryz.prog w
    = .ok (.iface 203 (.agg #[.pointer (some ⟨4, 144, none⟩)])) w := by kernel_rfl
theorem as_methodKind (h : Value) (w : World) : (Go.method 439 203 (.agg #[h]) "Kind").run Tryz.prog w = .ok (255, h) w := by kernel_rfl
theorem as_kindP (w : World) : ((ReflectliteType.abiMethod fun t => (fun a : Nat => Value.int IntKind.u8 (a : Int)) <$> Rtype.kind t) #[.pointer (some ⟨4, 144, none⟩)]).run Tryz.prog w = .ok (.int .u8 22) w := by kernel_rfl
theorem as_kindR (w : World) : ((ReflectliteType.abiMethod fun t => (fun a : Nat => Value.int IntKind.u8 (a : Int)) <$> Rtype.kind t) #[.pointer (some ⟨4, 142, none⟩)]).run Tryz.prog w = .ok (.int .u8 25) w := by kernel_rfl
theorem as_rlm (z : Sem Value) (f : TypeId → Addr → Nat → Nat → Sem Value) (v : Value) :
    ReflectliteValue.method z f #[v] = (do match ← ReflectliteValue.parts v with | none => z | some (t, a, fl) => f t a fl (fl % 32)) := rfl
theorem as_partsP (a : Addr) (w : World) : (ReflectliteValue.parts (.agg #[.pointer (some ⟨4, 144, none⟩), .pointer (some a), .int .u64 150])).run Tryz.prog w = .ok (some (144, a, 150)) w := by kernel_rfl
theorem as_isNilP (a p : Addr) (W : World) (ha : W.cell? a = some (.pointer (some p))) :
    (ReflectliteValue.method (ReflectliteValue.valueError "reflectlite.Value.IsNil" 0) ReflectliteValue.isNil #[.agg #[.pointer (some ⟨4, 144, none⟩), .pointer (some a), .int .u64 150]]).run Tryz.prog W = .ok (.bool false) W := by
  rw [as_rlm]
  simp only [Sem.run_bind, as_partsP, Result.andThen]
  simp [ReflectliteValue.isNil, loadVar, isAgg, underlying, Tryz.underlying144, ha, Result.andThen]
theorem as_methodElem (h : Value) (w : World) : (Go.method 439 203 (.agg #[h]) "Elem").run Tryz.prog w = .ok (265, .agg #[h]) w := by kernel_rfl
theorem as_methodImpl (h : Value) (w : World) : (Go.method 439 203 (.agg #[h]) "Implements").run Tryz.prog w = .ok (266, .agg #[h]) w := by kernel_rfl
theorem as_methodAssign (h : Value) (w : World) : (Go.method 439 203 (.agg #[h]) "AssignableTo").run Tryz.prog w = .ok (263, .agg #[h]) w := by kernel_rfl
theorem as_elemP (w : World) : (ReflectliteType.method ReflectliteType.elem #[.agg #[.pointer (some ⟨4, 144, none⟩)]]).run Tryz.prog w = .ok (.iface 203 (.agg #[.pointer (some ⟨4, 142, none⟩)])) w := by kernel_rfl
theorem as_implR (w : World) : (ReflectliteType.relation "Implements" ReflectliteType.implements_ #[.agg #[.pointer (some ⟨4, 142, none⟩)], .iface 203 (.agg #[.pointer (some ⟨4, 78, none⟩)])]).run Tryz.prog w = .ok (.bool true) w := by kernel_rfl
theorem as_typeOfR (v : Value) (w : World) : (ReflectliteType.typeOf #[.iface 142 v]).run Tryz.prog w = .ok (.iface 203 (.agg #[.pointer (some ⟨4, 142, none⟩)])) w := by kernel_rfl
theorem as_assignR (w : World) : (ReflectliteType.relation "AssignableTo" ReflectliteType.assignableTo #[.agg #[.pointer (some ⟨4, 142, none⟩)], .iface 203 (.agg #[.pointer (some ⟨4, 142, none⟩)])]).run Tryz.prog w = .ok (.bool true) w := by kernel_rfl
theorem as_valueOfR (n : Int) (w : World) : (ReflectliteValue.unpack (.iface 142 (.agg #[.int .i64 n]))).run Tryz.prog w
    = .ok (.agg #[.pointer (some ⟨4, 142, none⟩), .pointer (some ⟨w.heap.size, 0, none⟩), .int .u64 153]) (w.alloc (.cells #[.int .i64 n] 142)) := by kernel_rfl
theorem as_elemOfP (w : World) : (Rtype.elem? 144).run Tryz.prog w = .ok (some 142) w := by kernel_rfl
theorem as_mkR (p : Addr) (w : World) : (ReflectliteValue.mk 142 p ReflectliteValue.flagAddr).run Tryz.prog w = .ok (.agg #[.pointer (some ⟨4, 142, none⟩), .pointer (some p), .int .u64 409]) w := by kernel_rfl
theorem as_elemVP (a p : Addr) (W : World) (ha : W.cell? a = some (.pointer (some p))) :
    (ReflectliteValue.method (ReflectliteValue.valueError "reflectlite.Value.Elem" 0) ReflectliteValue.elem #[.agg #[.pointer (some ⟨4, 144, none⟩), .pointer (some a), .int .u64 150]]).run Tryz.prog W
      = .ok (.agg #[.pointer (some ⟨4, 142, none⟩), .pointer (some p), .int .u64 409]) W := by
  rw [as_rlm]
  simp only [Sem.run_bind, as_partsP, Result.andThen]
  simp [ReflectliteValue.elem, loadVar, isAgg, underlying, Tryz.underlying144, ha, Result.andThen, as_elemOfP, as_mkR]
theorem as_rls (v x : Value) : ReflectliteValue.set #[v, x] = (do
    let (some (dst, a, fl), some (src, b, _)) := (← ReflectliteValue.parts v, ← ReflectliteValue.parts x)
      | unsupported (.noEntry "extern/(internal/reflectlite.Value).Set.zeroValue")
    if fl / ReflectliteValue.flagAddr % 2 == 0 then unsupported (.noEntry "extern/(internal/reflectlite.Value).Set.unaddressable")
    let val ← loadVar src b
    if ← Rtype.directlyAssignable dst src then storeVar dst a val
    else if ← Rtype.implements dst src then
      if (← Rtype.kind src) == 20 then
        match val with
        | .nilIface => unsupported (.noEntry "extern/reflectlite: a nil value of one interface type handed on as a value of another")
        | _ => storeVar dst a val
      else storeVar dst a (.iface src val)
    else panicString ("reflectlite.Set: value of type " ++ (← Rtype.spelt src) ++ " is not assignable to type " ++ (← Rtype.spelt dst))
    pure (.tuple #[])) := rfl
theorem as_partsRa (a : Addr) (w : World) : (ReflectliteValue.parts (.agg #[.pointer (some ⟨4, 142, none⟩), .pointer (some a), .int .u64 409])).run Tryz.prog w = .ok (some (142, a, 409)) w := by kernel_rfl
theorem as_partsR (a : Addr) (w : World) : (ReflectliteValue.parts (.agg #[.pointer (some ⟨4, 142, none⟩), .pointer (some a), .int .u64 153])).run Tryz.prog w = .ok (some (142, a, 153)) w := by kernel_rfl
theorem as_directR (w : World) : (Rtype.directlyAssignable 142 142).run Tryz.prog w = .ok true w := by kernel_rfl
theorem as_setR (ta b : Nat) (n : Int) (old : Value) (W : World) (hb : W.cell? ⟨b, 0, none⟩ = some (.int .i64 n)) (ht : W.cell? ⟨ta, 0, none⟩ = some old) (hf : W.frozen? ⟨ta, 0, none⟩ = false) :
    (ReflectliteValue.set #[.agg #[.pointer (some ⟨4, 142, none⟩), .pointer (some ⟨ta, 0, none⟩), .int .u64 409], .agg #[.pointer (some ⟨4, 142, none⟩), .pointer (some ⟨b, 0, none⟩), .int .u64 153]]).run Tryz.prog W
      = .ok (.tuple #[]) (W.setCell ⟨ta, 0, none⟩ (.int .i64 n)) := by
  rw [as_rls]
  simp only [Sem.run_bind, as_partsRa, as_partsR, Result.andThen]
  simp [ReflectliteValue.flagAddr, loadVar, isAgg, underlying, Tryz.underlying142, Result.andThen, as_directR, storeVar, Value.cells, storeCells, Addr.add]
  have hl := run_loadCells_list (P := Tryz.prog) W ⟨b, 0, none⟩ [.int .i64 n] (by
    intro j v hv
    cases j with
    | zero => injection hv with hv; subst hv; exact hb
    | succ j => cases hv)
  simp only [List.length_cons, List.length_nil, Nat.reduceAdd] at hl
  rw [hl]
  simp [storeCells, Addr.add]
  rw [run_store Tryz.prog W ⟨ta, 0, none⟩ _ _ (by rfl)]
  simp [ht, hf]

set_option maxHeartbeats 4000000 in
theorem as_hit (n : Int) (tb : Nat) (old : Value) (w : World) (hg : w.cell? ⟨2, 0, none⟩ = some (.iface 203 (.agg #[.pointer (some ⟨4, 78, none⟩)]))) (ht0 : w.cell? ⟨tb, 0, none⟩ = some old) (hf0 : w.frozen? ⟨tb, 0, none⟩ = false) :
    Calls Tryz.prog 80 #[.iface 142 (.agg #[.int .i64 n]), .iface 144 (.pointer (some ⟨tb, 0, none⟩))] w fun ev w' => ev = .returned (.bool true) ∧ w' = ((((w.setCell ⟨tb, 0, none⟩ (.int .i64 n)).alloc (.cells #[.pointer (some ⟨tb, 0, none⟩)] 144)).alloc (.cells #[.pointer (some ⟨4, 144, none⟩), .pointer (some ⟨w.heap.size, 0, none⟩), .int .u64 150] 185)).alloc (.cells #[.pointer (some ⟨4, 144, none⟩), .pointer (some ⟨w.heap.size, 0, none⟩), .int .u64 150] 185)).alloc (.cells #[.int .i64 n] 142) := by
  have h6 := @run_callFunc_extern Tryz.prog 128 _ (fun args => ReflectliteValue.unpack (args.getD 0 (.tuple #[]))) Tryz.func128 (by kernel_rfl) (by kernel_rfl) (by kernel_rfl) (by kernel_rfl)
  have h7 := @run_callFunc_extern Tryz.prog 129 _ (ReflectliteValue.methodAny (ReflectliteValue.valueError "reflectlite.Value.Type" 0) (fun t _ _ _ => ReflectliteType.toType t)) Tryz.func129 (by kernel_rfl) (by kernel_rfl) (by kernel_rfl) (by kernel_rfl)
  have h8 := @run_callFunc_extern Tryz.prog 130 _ (ReflectliteValue.method (ReflectliteValue.valueError "reflectlite.Value.IsNil" 0) ReflectliteValue.isNil) Tryz.func130 (by kernel_rfl) (by kernel_rfl) (by kernel_rfl) (by kernel_rfl)
  have h27 := @run_callFunc_extern Tryz.prog 255 _ (ReflectliteType.abiMethod fun t => do pure (.int .u8 (← Rtype.kind t))) Tryz.func255 (by kernel_rfl) (by kernel_rfl) (by kernel_rfl) (by kernel_rfl)
  have h37 := @run_callFunc_extern Tryz.prog 265 _ (ReflectliteType.method ReflectliteType.elem) Tryz.func265 (by kernel_rfl) (by kernel_rfl) (by kernel_rfl) (by kernel_rfl)
  have h38 := @run_callFunc_extern Tryz.prog 266 _ (ReflectliteType.relation "Implements" ReflectliteType.implements_) Tryz.func266 (by kernel_rfl) (by kernel_rfl) (by kernel_rfl) (by kernel_rfl)
  have h10 := @run_callFunc_extern Tryz.prog 85 _ ReflectliteType.typeOf Tryz.func85 (by kernel_rfl) (by kernel_rfl) (by kernel_rfl) (by kernel_rfl)
  have h35 := @run_callFunc_extern Tryz.prog 263 _ (ReflectliteType.relation "AssignableTo" ReflectliteType.assignableTo) Tryz.func263 (by kernel_rfl) (by kernel_rfl) (by kernel_rfl) (by kernel_rfl)
  have h11 := @run_callFunc_extern Tryz.prog 177 _ (ReflectliteValue.method (ReflectliteValue.valueError "reflectlite.Value.Elem" 0) ReflectliteValue.elem) Tryz.func177 (by kernel_rfl) (by kernel_rfl) (by kernel_rfl) (by kernel_rfl)
  have h12 := @run_callFunc_extern Tryz.prog 178 _ ReflectliteValue.set Tryz.func178 (by kernel_rfl) (by kernel_rfl) (by kernel_rfl) (by kernel_rfl)
  have tO := as_typeOfR
  have mA := as_methodAssign
  have a25 := as_assignR
  have v25 := as_valueOfR
  have f6 := as_valueOfP
  have f7 := as_typeP
  have mK := as_methodKind
  have mE := as_methodElem
  have mI := as_methodImpl
  have k27 := as_kindP
  have k25 := as_kindR
  have e27 := as_elemP
  have i25 := as_implR
  obtain ⟨W2, hW2⟩ : ∃ W2, W2 = (w.alloc (.cells #[.pointer (some ⟨tb, 0, none⟩)] 144)).alloc (.cells #[.pointer (some ⟨4, 144, none⟩), .pointer (some ⟨w.heap.size, 0, none⟩), .int .u64 150] 185) := ⟨_, rfl⟩
  have n8 := as_isNilP ⟨w.heap.size, 0, none⟩ ⟨tb, 0, none⟩ ((w.alloc (.cells #[.pointer (some ⟨tb, 0, none⟩)] 144)).alloc (.cells #[.pointer (some ⟨4, 144, none⟩), .pointer (some ⟨w.heap.size, 0, none⟩), .int .u64 150] 185)) (by simp)
  clear hW2 W2
  have hlt : 2 < w.heap.size := by
    rcases Nat.lt_or_ge 2 w.heap.size with h | h
    · exact h
    · simp [World.cell?, Array.getElem?_eq_none h] at hg
  have hg2 : ((w.alloc (.cells #[.pointer (some ⟨tb, 0, none⟩)] 144)).alloc (.cells #[.pointer (some ⟨4, 144, none⟩), .pointer (some ⟨w.heap.size, 0, none⟩), .int .u64 150] 185)).cell? ⟨2, 0, none⟩ = some (.iface 203 (.agg #[.pointer (some ⟨4, 78, none⟩)])) := by
    rw [World.cell?_alloc_lt _ _ ⟨2, 0, none⟩ (by show 2 < _; rw [World.size_alloc]; omega), World.cell?_alloc_lt _ _ ⟨2, 0, none⟩ hlt]; exact hg
  have htl : tb < w.heap.size := by
    rcases Nat.lt_or_ge tb w.heap.size with h | h
    · exact h
    · simp [World.cell?, Array.getElem?_eq_none h] at ht0
  have el := as_elemVP ⟨w.heap.size, 0, none⟩ ⟨tb, 0, none⟩ (((w.alloc (.cells #[.pointer (some ⟨tb, 0, none⟩)] 144)).alloc (.cells #[.pointer (some ⟨4, 144, none⟩), .pointer (some ⟨w.heap.size, 0, none⟩), .int .u64 150] 185)).alloc (.cells #[.pointer (some ⟨4, 144, none⟩), .pointer (some ⟨w.heap.size, 0, none⟩), .int .u64 150] 185)) (by rw [World.cell?_alloc_lt _ _ ⟨w.heap.size, 0, none⟩ (by simp; omega)]; simp)
  have st := as_setR tb (w.heap.size + 1 + 1 + 1) n old ((((w.alloc (.cells #[.pointer (some ⟨tb, 0, none⟩)] 144)).alloc (.cells #[.pointer (some ⟨4, 144, none⟩), .pointer (some ⟨w.heap.size, 0, none⟩), .int .u64 150] 185)).alloc (.cells #[.pointer (some ⟨4, 144, none⟩), .pointer (some ⟨w.heap.size, 0, none⟩), .int .u64 150] 185)).alloc (.cells #[.int .i64 n] 142))
    (by rw [World.cell?_alloc_at _ _ _ _ (by simp)]; rfl)
    (by rw [World.cell?_alloc_lt _ _ ⟨tb, 0, none⟩ (by simp; omega), World.cell?_alloc_lt _ _ ⟨tb, 0, none⟩ (by simp; omega), World.cell?_alloc_lt _ _ ⟨tb, 0, none⟩ (by simp; omega), World.cell?_alloc_lt _ _ ⟨tb, 0, none⟩ htl]; exact ht0)
    (by rw [World.frozen?_alloc_old _ _ ⟨tb, 0, none⟩ (by simp; omega), World.frozen?_alloc_old _ _ ⟨tb, 0, none⟩ (by simp; omega), World.frozen?_alloc_old _ _ ⟨tb, 0, none⟩ (by simp; omega), World.frozen?_alloc_old _ _ ⟨tb, 0, none⟩ (Nat.ne_of_lt htl)]; exact hf0)
  go_enter Tryz.func80, Tryz.ntmps80
  go_wp2
  refine wp_loop_rounds 1 ?_
  rw [rounds_succ]
  go_wp2
  go_ret
  exact ⟨rfl, rfl⟩

end Go.Proofs.YtcnkfkjgpdmebaaGreatDoor

/- What a row of its own becomes; rows apart from it. Plain. -/
namespace Go.Proofs.YtcnkfkjgpdmebaaGreatDoor
open Go.RowKit

theorem ext_grown {a b : World} (e : Ext a b) (row : Option Nat) : a.grownBy b row := by
  have h := e.below
  obtain ⟨l, d, rfl⟩ := e
  exact ⟨rfl, rfl, rfl, h.size, fun i hi _ => h.block i hi⟩
/-- What a row of its own becomes: nothing else turns. -/
structure Ap (w : World) (v : Value) (w' : World) (v' : Value) : Prop where
  grown : w.grownBy w' v.ownBlock
  own : v'.ownBlock = v.ownBlock ∨ ∀ k, v'.ownBlock = some k → w.heap.size ≤ k
section
variable {a b c : World} {u v x : Value}
theorem Ap.refl (a : World) (u : Value) : Ap a u a u := ⟨World.grownBy.refl _ _, .inl rfl⟩
theorem Ap.trans (h : Ap a u b v) (k : Ap b v c x) : Ap a u c x := by
  refine ⟨⟨k.grown.os.trans h.grown.os, k.grown.tape.trans h.grown.tape, k.grown.output.trans h.grown.output, Nat.le_trans h.grown.size k.grown.size, fun j hj hne => ?_⟩, ?_⟩
  · refine (k.grown.block j (Nat.lt_of_lt_of_le hj h.grown.size) (fun e => ?_)).trans (h.grown.block j hj hne)
    rcases h.own with h2 | h2
    · rw [h2] at e; exact hne e
    · have := h2 j e.symm; omega
  · rcases k.own with h2 | h2
    · rw [h2]; exact h.own
    · exact .inr (fun j hj => Nat.le_trans h.grown.size (h2 j hj))
theorem Ap.of_ext (e : Ext a b) (u : Value) : Ap a u b u := ⟨ext_grown e _, .inl rfl⟩
theorem Ap.ext (h : Ap a u b v) (e : Ext b c) : Ap a u c v := h.trans (Ap.of_ext e v)
theorem Ap.size (h : Ap a u b v) : a.heap.size ≤ b.heap.size := h.grown.size
theorem Ap.below {B : Nat} (h : Ap a u b v) (hB : B ≤ a.heap.size) (hu : ∀ k, u.ownBlock = some k → B ≤ k) : Below B a b := (Below.refl B a).grown h.grown hB hu
theorem Ap.ge {B : Nat} (h : Ap a u b v) (hB : B ≤ a.heap.size) (hu : ∀ k, u.ownBlock = some k → B ≤ k) : ∀ k, v.ownBlock = some k → B ≤ k := by
  intro k hk
  rcases h.own with h2 | h2
  · exact hu k (h2 ▸ hk)
  · exact Nat.le_trans hB (h2 k hk)
end
/-- A row lies in another block than what a value owns. -/
def OffO (v : Value) (A : Option Addr) (n : Nat) : Prop := n ≠ 0 → ∀ c o, A = some ⟨c, o, none⟩ → v.ownBlock ≠ some c
theorem OffO.keep {w w' : World} {v v' : Value} {A : Option Addr} {k n : Nat} {l : List Value} (h : OffO v A n) (hr : Row w A k n l) (a : Ap w v w' v') : OffO v' A n := by
  intro hn c o e
  obtain ⟨b', o', e', hb, -⟩ := hr.2 (by omega)
  rw [e'] at e
  injection e with e
  injection e with e1 e2
  subst e1 e2
  rcases a.own with h2 | h2
  · rw [h2]; exact h hn _ _ e'
  · intro h3; have := h2 _ h3; omega
theorem OffO.row {w w' : World} {v v' : Value} {A : Option Addr} {k n : Nat} {l : List Value} (h : OffO v A n) (hr : Row w A k n l) (a : Ap w v w' v') : Row w' A k n l := by
  refine row_grown hr a.grown (fun hn ad e he => ?_)
  obtain ⟨b', o', e', hb, -⟩ := hr.2 (by omega)
  rw [e'] at e
  injection e with e
  subst e
  exact h hn _ _ e' he
theorem OffO.new {w : World} {v : Value} {A : Option Addr} {n : Nat} (hv : ∀ k, v.ownBlock = some k → k < w.heap.size) (h : ∀ c o, A = some ⟨c, o, none⟩ → w.heap.size ≤ c) : OffO v A n := fun _ c o e he => by
  have h1 := h c o e
  have h2 := hv c he
  omega

end Go.Proofs.YtcnkfkjgpdmebaaGreatDoor
