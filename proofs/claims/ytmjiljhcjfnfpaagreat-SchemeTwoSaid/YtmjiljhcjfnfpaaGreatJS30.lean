/- Maps from variables to types: what they say; look-ups; what is laid in; a range's step. -/
import Derived.Test.YtmjiljhcjfnfpaaGreatJS29
import Derived.Maps.Own
import Derived.Maps.OwnOps
import Derived.Maps.OwnSet
import Derived.Maps.Views
import Derived.Maps.RangeWalk
import Derived.Maps.Ext
import Derived.Deep.RegionHeld3
import Derived.BigQuiet
/- Maps from variables to types: what they say; look-ups; what is laid in; a range's step. -/
namespace Go.Proofs.YtmjiljhcjfnfpaaGreat
open Go.RowKit Go.Sort Go.Maps

abbrev VD := DataW Value
/-- An element, as it is. -/
def heldE (v : Value) : Option (VD × List MemPlace) := some (.held v, [])
def heldV : VD → Value
  | .held v => v
  | _ => .nilIface
theorem int_law : Keyed Tryz.prog 3 := int_keyed Tryz.underlying3
def InI (x : Int) : Prop := -9223372036854775808 ≤ x ∧ x ≤ 9223372036854775807
theorem key_int {x : Int} (h : InI x) : keyOf Tryz.prog 3 (.int .i64 x) = some (.int .i64 x) := by
  have hw : (Lit.int .i64 x).wf = true := by simpa [Lit.wf, IntKind.min, IntKind.max, IntKind.signed, IntKind.bits, InI] using h
  simp [keyOf, Tryz.underlying3, mapKey, hw]
def lookV (D : VD) (x : Int) : Option Value := if has D (.int .i64 x) then some (heldV (D.atKey (.int .i64 x) (.held (.agg #[.string ⟨#[]⟩, .int .i64 0, .slice none 0 0])))) else none
theorem lookV_empty (x : Int) : lookV (.map []) x = none := rfl
theorem lookV_put (D : VD) (h : IsMap D) (k : Int) (v : Value) (y : Int) : lookV (D.put (.int .i64 k) (.held v)) y = if y = k then some v else lookV D y := by
  unfold lookV
  by_cases e : y = k
  · subst e
    rw [has_put_same (k := .int .i64 y) h trivial, atKey_put_same (k := .int .i64 y) h trivial, if_pos rfl, if_pos rfl]
    rfl
  · rw [has_put_other (by intro h; injection h with _ h; exact e h), atKey_put_other (by intro h; injection h with _ h; exact e h), if_neg e]
theorem zero_ty (w : World) : (zeroValue 25).run Tryz.prog w = .ok (.agg #[.string ⟨#[]⟩, .int .i64 0, .slice none 0 0]) w := by kernel_rfl
/-- A map in memory. -/
def MapV (w : World) (b n : Nat) (f : Int → Option Value) : Prop := ∃ D : VD, w.ownsMap Tryz.prog 3 heldE b n D ∧ ∀ x, lookV D x = f x
section
variable {w w' : World} {b n : Nat} {f : Int → Option Value}
theorem MapV.lt (h : MapV w b n f) : b < w.heap.size := by obtain ⟨D, h, -⟩ := h; exact h.lt
theorem MapV.mono (h : MapV w b n f) {m : Nat} (hm : n ≤ m) : MapV w b m f := by obtain ⟨D, h, k⟩ := h; exact ⟨D, h.mono hm, k⟩
theorem MapV.grown (h : MapV w b n f) {row : Option Nat} (g : w.grownBy w' row) (h1 : row ≠ some b) : MapV w' b n f := by
  obtain ⟨D, h, k⟩ := h
  exact ⟨D, h.kept g (fun e => h1 e.symm), k⟩
theorem MapV.ext (h : MapV w b n f) (e : Ext w w') : MapV w' b n f :=
  h.grown (row := none) ⟨e.below.os, e.below.tape, e.below.output, e.size, fun k hk _ => e.heap hk⟩ (by simp)
theorem MapV.new (w : World) : MapV (w.alloc (.map #[] 0)) w.heap.size 0 (fun _ => none) := ⟨.map [], World.ownsMap_made _ _ _ _, lookV_empty⟩
theorem MapV.look (h : MapV w b n f) {x : Int} (hx : InI x) :
    ∃ v : Value, (Instr.lookup 54 (.map (some b)) (.int .i64 x) true).run Tryz.prog w = .ok (.tuple #[v, .bool (f x).isSome]) w ∧ (∀ y, f x = some y → v = y) ∧ (f x = none → v = .agg #[.string ⟨#[]⟩, .int .i64 0, .slice none 0 0]) := by
  obtain ⟨D, h, k⟩ := h
  obtain ⟨v, ps, hrun, hv⟩ := h.look_ok int_law Tryz.underlying54 (zero_ty w) (zd := .held (.agg #[.string ⟨#[]⟩, .int .i64 0, .slice none 0 0])) (zp := []) rfl (key_int hx)
  have hat : D.atKey (.int .i64 x) (.held (.agg #[.string ⟨#[]⟩, .int .i64 0, .slice none 0 0])) = .held v := by
    exact (congrArg Prod.fst (Option.some.inj (show some ((DataW.held v : VD), ([] : List MemPlace)) = _ from hv))).symm
  have hf : f x = if has D (.int .i64 x) then some v else none := by
    rw [← k x]
    unfold lookV
    rw [hat]
    rfl
  refine ⟨v, ?_, fun y hy => ?_, fun hy => ?_⟩
  · rw [hrun, hf]
    cases has D (.int .i64 x) <;> rfl
  · rw [hf] at hy
    cases hh : has D (.int .i64 x)
    · rw [hh] at hy; cases hy
    · rw [hh] at hy; injection hy
  · rw [hf] at hy
    cases hh : has D (.int .i64 x)
    · have := Maps.atKey_of_not_has hh (.held (.agg #[.string ⟨#[]⟩, .int .i64 0, .slice none 0 0]))
      rw [hat] at this
      injection this
    · rw [hh] at hy; cases hy
end
/-- A key is laid in that was not there ('Op.insert', of a literal). -/
theorem wpList_insert_own {H : Type} {P : Program} (w : World) {ops : Array Oper} {rest : List Oper} {o : Oper} {a : Act} {Q : Exit → Act → World → Prop}
    (hg : o.guard = none) (m x v : Operand) (t : TypeId) (hop : o.op = Op.insert t m x v)
    (k e : TypeId) (K : Keyed P k) (ht : P.underlying t = some (.map k e)) (R : Value → Option (DataW H × List MemPlace)) (b n : Nat) (D : DataW H)
    (hm : a.eval m = .map (some b)) (hown : w.ownsMap P k R b n D) (hn : n < maxLen) (key val : Value) (kl : Lit) (hx : a.eval x = key) (hv : a.eval v = val) (hkey : keyOf P k key = some kl)
    (d : DataW H) (ps : List MemPlace) (hval : R val = some (d, ps))
    (hK : ∀ w', w'.ownsMap P k R b (n + 1) (D.put kl d) → w.grownBy w' (some b) → wpList P ops Q rest (a.put o.dst undef) w') :
    wpList P ops Q (o :: rest) a w := by
  refine wpList_plain hg fun K' hK' => ?_
  obtain ⟨w', hrun, r1, r2⟩ := hown.update K ht hn hkey hval
  unfold Oper.wp
  simp [execOp, hop, hm, hx, hv, hrun, Result.andThen]
  exact hK' _ _ (hK w' r1 r2)

/-- The range's step, variables and whatever they have. -/
theorem wpList_next_ranges_iv {P : Program} (w : World) {ops : Array Oper} {rest : List Oper} {o : Oper} {a : Act} {Q : Exit → Act → World → Prop}
    (hg : o.guard = none) (it : Operand) (hop : o.op = Op.next it false) (k : TypeId) (K : Keyed P k) (hk : P.underlying k = some (.int .i64))
    (b r n : Nat) (D : VD) (left : Lit → Bool) (cnt : Nat) (hit : a.eval it = .pointer (some ⟨r, 0, none⟩)) (h : w.ranges P k heldE b r n D left cnt)
    (hDone : cnt = 0 → (∀ kl, left kl = false) → wpList P ops Q rest (a.put o.dst (.tuple #[.bool false])) w)
    (hMore : ∀ (x : Int) (c : Value) (w' : World) (cnt' : Nat), InI x → left (.int .i64 x) = true → (∀ zd, D.atKey (.int .i64 x) zd = .held c) → w'.ranges P k heldE b r n D (fun z => left z && !z.sameKey (.int .i64 x)) cnt' → cnt' < cnt →
      w.grownBy w' (some r) → w'.heap.size = w.heap.size → (Instr.entry (.pointer (some ⟨r, 0, none⟩))).run P w' = .ok (.tuple #[.int .i64 x, c]) w' → wpList P ops Q rest (a.put o.dst (.tuple #[.bool true, .int .i64 x, c])) w') :
    wpList P ops Q (o :: rest) a w :=
  wpList_next_ranges w hg it hop k K heldE (Value.int .i64) (fun v : Value => v) (fun key kl hkey => by obtain ⟨x, rfl, _⟩ := Maps.keyOf_int_inv hk hkey; exact ⟨x, rfl⟩)
    (fun v y _ => ⟨v, rfl⟩)
    b r n D left cnt hit h hDone (fun x c kl y w' cnt' hkey hlk hv hat hrg hlt hgr hsz hen => by
      obtain ⟨x', ex, rfl, hwx⟩ := Maps.keyOf_int_inv hk hkey
      cases ex
      have hy : y = (.held c, []) := (Option.some.inj hv).symm
      subst hy
      exact hMore x c w' cnt' (by simpa [Lit.wf, IntKind.min, IntKind.max, IntKind.signed, IntKind.bits, InI] using hwx) hlk hat hrg hlt hgr hsz hen)

/-- How a map that is copied behind an entry of its own stands, while the other one is ranged over. -/
def CopyM (Dout D : VD) (left : Lit → Bool) (pv : Int) (tv : Value) : Prop := ∀ x, lookV Dout x = if x = pv then some tv else if left (.int .i64 x) = true then none else lookV D x
theorem CopyM.start {D : VD} (pv : Int) (tv : Value) : CopyM ((DataW.map [] : VD).put (.int .i64 pv) (.held tv)) D (has D) pv tv := fun x => by
  rw [lookV_put _ ⟨[], rfl⟩, lookV_empty]
  split
  · rfl
  · unfold lookV
    cases has D (.int .i64 x) <;> rfl
theorem CopyM.step {Dout D : VD} {left : Lit → Bool} {pv : Int} {tv c : Value} {x : Int} (h : CopyM Dout D left pv tv) (hm : IsMap Dout) (hl : ∀ kl, left kl = true → has D kl = true) (hp : has D (.int .i64 pv) = false) (hx : left (.int .i64 x) = true) (hat : ∀ zd, D.atKey (.int .i64 x) zd = .held c) :
    CopyM (Dout.put (.int .i64 x) (.held c)) D (fun z => left z && !z.sameKey (.int .i64 x)) pv tv := fun y => by
  rw [lookV_put _ hm]
  have hD : has D (.int .i64 x) = true := hl _ hx
  by_cases e : y = x
  · subst e
    have hne : y ≠ pv := fun e => by rw [e, hp] at hD; cases hD
    rw [if_pos rfl, if_neg hne]
    have hs : (Lit.int .i64 y).sameKey (.int .i64 y) = true := by simp [Lit.sameKey]
    simp only [hs, Bool.not_true, Bool.and_false, Bool.false_eq_true, if_false]
    unfold lookV
    rw [hD, hat]
    rfl
  · rw [if_neg e, h y]
    have hs : (Lit.int .i64 y).sameKey (.int .i64 x) = false := by simp [Lit.sameKey, e]
    simp [hs]
theorem CopyM.done {Dout D : VD} {left : Lit → Bool} {pv : Int} {tv : Value} (h : CopyM Dout D left pv tv) (hl : ∀ kl, left kl = false) (x : Int) : lookV Dout x = if x = pv then some tv else lookV D x := by
  rw [h x, hl]
  simp

end Go.Proofs.YtmjiljhcjfnfpaaGreat

/- Contract: a pattern is a type, behind what is known (scheme's on). -/
namespace Go.Proofs.YtmjiljhcjfnfpaaGreat
open Go.RowKit Go.Sort Go.Maps

/-- What variables of a pattern have, in memory. -/
def BndIn (w : World) (b n : Nat) (m : Bnd) : Prop := ∃ F : Int → Option Ty, MapV w b n (fun x => (F x).map tyV) ∧ (∀ x, (F x).map Ty.pure = m x) ∧ ∀ x u, F x = some u → TyIn w u
theorem BndIn.ext {w w' : World} {b n : Nat} {m : Bnd} (h : BndIn w b n m) (e : Ext w w') : BndIn w' b n m := by
  obtain ⟨F, h1, h2, h3⟩ := h
  exact ⟨F, h1.ext e, h2, fun x u hu => (h3 x u hu).ext e⟩
theorem BndIn.mono {w : World} {b n k : Nat} {m : Bnd} (h : BndIn w b n m) (hk : n ≤ k) : BndIn w b k m := by
  obtain ⟨F, h1, h2, h3⟩ := h
  exact ⟨F, h1.mono hk, h2, h3⟩
/-- What 'on' tells. -/
structure OnOk (w' : World) (O : Option Bnd) (n : Nat) (mv : Value) (ok : Bool) : Prop where
  no : O = none → ok = false
  yes : ∀ m', O = some m' → ok = true ∧ ∃ b', mv = .map (some b') ∧ BndIn w' b' n m'
def OnCo (p : Ty) : Prop := ∀ (t : Ty) (b n : Nat) (m : Bnd) (w : World), TyIn w p → TyIn w t → okI p = true → BndIn w b n m → n + p.size ≤ 1000000000 →
  Calls Tryz.prog 27 #[.map (some b), tyV p, tyV t] w fun e w' => (∃ mv ok, e = .returned (.tuple #[mv, .bool ok]) ∧ OnOk w' (onT p t m) (n + p.size) mv ok) ∧ Ext w w'
theorem BndIn.put {w : World} {b n : Nat} {F : Int → Option Ty} {m : Bnd} {pv : Int} {t : Ty} {D Dout : VD} (hout : w.ownsMap Tryz.prog 3 heldE b n Dout) (hd : ∀ x, lookV Dout x = if x = pv then some (tyV t) else lookV D x) (hl : ∀ x, lookV D x = (F x).map tyV) (hF : ∀ x, (F x).map Ty.pure = m x)
    (hT : ∀ x u, F x = some u → TyIn w u) (ht : TyIn w t) : BndIn w b n (fun v => if v = pv then some t.pure else m v) := by
  refine ⟨fun x => if x = pv then some t else F x, ⟨Dout, hout, fun x => ?_⟩, fun x => ?_, fun x u hu => ?_⟩
  · rw [hd x, hl x]
    by_cases e : x = pv
    · simp only [e, if_true, Option.map_some]
    · simp only [e, if_false]
  · by_cases e : x = pv
    · simp only [e, if_true, Option.map_some]
    · simp only [e, if_false, hF x]
  · by_cases e : x = pv
    · simp only [e, if_true] at hu
      injection hu with hu
      subst hu
      exact ht
    · simp only [e, if_false] at hu
      exact hT x u hu
theorem okI_in {t : Ty} (h : okI t = true) : InI t.var := by
  rw [okI_eq, Bool.and_eq_true, decide_eq_true_eq] at h
  exact ⟨h.1.1, h.1.2.1⟩

set_option maxRecDepth 10000 in
set_option maxHeartbeats 8000000 in
theorem on_var (p : Ty) (hc : p.con = []) : OnCo p := by
  intro t b n m w hp ht hok hm hn
  obtain ⟨F, hM, hF, hT⟩ := hm
  obtain ⟨W, hW⟩ : ∃ W, W = (w.alloc (.cells #[encStr p.con, .int .i64 p.var, .slice p.A p.args.length p.cap] 25)).alloc (.cells #[encStr t.con, .int .i64 t.var, .slice t.A t.args.length t.cap] 25) := ⟨_, rfl⟩
  have HW := hide hW.symm
  have X0 : Hid (Ext w W) := hide (by rw [hW]; exact ((Ext.refl _).alloc _).alloc _)
  have B1 : Hid (TBox W w.heap.size p) := hide (by rw [hW]; exact (TBox.new w p).ext ((Ext.refl _).alloc _))
  have B2 : Hid (TBox W (w.heap.size + 1) t) := hide (by rw [hW]; exact at_newB _ _ _ (by simp))
  have hWs : W.heap.size = w.heap.size + 2 := by rw [hW]; simp
  have HWs := hide hWs
  have hpv := okI_in hok
  have hps : 1 ≤ p.size := by rw [Ty.size_eq]; omega
  have HO := hide (onT_eq p t m)
  obtain ⟨O, hO⟩ : ∃ O, O = onT p t m := ⟨_, rfl⟩
  rw [← hO] at HO ⊢
  have hcB : (p.con == ([] : Str)) = true := by simpa using hc
  have Hc := hide hc
  rw [if_pos hc] at HO
  have H := hide ht
  obtain ⟨v, hrun, hy1, hy2⟩ := (hM.ext X0.out).look hpv
  have HM := hide (hM.ext X0.out)
  have HT := hide (fun x u (h : F x = some u) => (hT x u h).ext X0.out)
  have HF := hide hF
  have c0 := B1.out.c0
  have c1 := B1.out.c1
  have c2 := B1.out.c2
  have d0 := B2.out.c0
  have d1 := B2.out.c1
  have d2 := B2.out.c2
  have l1 := B1.out.lt
  have l2 := B2.out.lt
  cases hFp : F p.var with
  | some u =>
    rw [hFp] at hrun hy1 hy2
    obtain rfl := hy1 _ rfl
    have Hu := hide (HT.out _ u hFp)
    have HSm := hide (fun w' (e : Ext W w') => hide (t_same u t w' (Hu.out.ext e) ((H.out.ext X0.out).ext e)))
    have HOk : Hid (∀ w' : World, Ext W w' → OnOk w' O (n + p.size) (.map (some b)) (sameB u t)) := hide (fun w' e => by
      have hmu : m p.var = some u.pure := by rw [← HF.out, hFp]; rfl
      rw [HO.out, hmu]
      by_cases h : u.pure = t.pure
      · have e1 : sameB u t = true := sameB_iff.2 h
        rw [e1]
        refine ⟨fun h0 => ?_, fun m' hm' => ?_⟩
        · have : (some m : Option Bnd) = none := (if_pos h).symm.trans h0
          cases this
        · have : (some m : Option Bnd) = some m' := (if_pos h).symm.trans hm'
          injection this with this
          subst this
          exact ⟨rfl, b, rfl, BndIn.mono ⟨F, HM.out.ext e, HF.out, fun x u hu => (HT.out x u hu).ext e⟩ (by omega)⟩
      · have e1 : sameB u t = false := by rw [← Bool.not_eq_true, sameB_iff]; exact h
        rw [e1]
        refine ⟨fun _ => rfl, fun m' hm' => ?_⟩
        have : (none : Option Bnd) = some m' := (if_neg h).symm.trans hm'
        cases this)
    simp only [Option.map_some, Option.isSome_some] at hrun
    clear hW hp ht hok hM hF hT hO HO hc hWs hy1 hy2 hFp HM HT HF hpv
    unfold tyV at *
    generalize sameB u t = R at *
    go_enter Tryz.func27, Tryz.ntmps27
    go_upto_region 1 with fail
    rw [HW.out]
    clear HW
    go_upto_region 4 with fail
    refine wp_named ?_
    intro W1 hW1
    have X1 : Hid (Ext W W1) := hide (by rw [hW1]; exact (Ext.refl _).alloc _)
    have BU : Hid (TBox W1 W.heap.size u) := hide (by rw [hW1]; exact TBox.new W u)
    clear hW1
    obtain ⟨k0, k1, k2⟩ := And.intro BU.out.c0 (And.intro BU.out.c1 BU.out.c2)
    have lk := BU.out.lt
    have D2 := B2.out.ext X1.out
    obtain ⟨j0, j1, j2⟩ := And.intro D2.c0 (And.intro D2.c1 D2.c2)
    have lj := D2.lt
    clear c0 c1 c2 d0 d1 d2 l1 l2 D2
    go_wp2_with fail
    refine (HSm.out _ X1.out).out.mono ?_
    rintro e w3 ⟨rfl, hx⟩
    have X3 := hide (X1.out.trans hx)
    clear hx
    go_wp2
    go_ret2
    exact ⟨⟨_, R, rfl, HOk.out _ X3.out⟩, X0.out.trans X3.out⟩
  | none =>
    rw [hFp] at hrun hy1 hy2
    obtain rfl := hy2 rfl
    have hmn : m p.var = none := by rw [← HF.out, hFp]; rfl
    rw [hmn] at HO
    have HFp := hide hFp
    simp only [Option.map_none, Option.isSome_none] at hrun
    have hbW := hM.lt
    have Hpv := hide hpv
    clear hW hp ht hok hM hF hT hO hc hWs hy1 hy2 hFp hmn
    unfold tyV at *
    go_enter Tryz.func27, Tryz.ntmps27
    go_upto_region 1 with fail
    rw [HW.out]
    clear HW
    go_upto_region 5 with fail
    refine wp_named ?_
    intro W1 hW1
    have X1 : Hid (Ext W W1) := hide (by rw [hW1]; exact (Ext.refl _).alloc _)
    clear hW1
    have D1 := B1.out.ext X1.out
    obtain ⟨k0, k1, k2⟩ := And.intro D1.c0 (And.intro D1.c1 D1.c2)
    have lk := D1.lt
    have D2 := B2.out.ext X1.out
    obtain ⟨j0, j1, j2⟩ := And.intro D2.c0 (And.intro D2.c1 D2.c2)
    have lj := D2.lt
    clear c0 c1 c2 d0 d1 d2 l1 l2 D1 D2 hrun
    have hmm := @run_makeMap Tryz.prog
    have HM0 : Hid ((W1.alloc (.map #[] 0)).ownsMap Tryz.prog 3 heldE W1.heap.size 0 (.map [] : VD)) := hide (World.ownsMap_made (H := Value) W1 Tryz.prog 3 heldE)
    go_upto_region 6 with (first
      | (refine wpList_insert_own _ rfl _ _ _ 54 rfl 3 25 int_law Tryz.underlying54 heldE W1.heap.size 0 (.map [] : VD) rfl HM0.out (by decide) _ _ _ rfl rfl (key_int Hpv.out) _ [] rfl ?_; intro w5 ho5 hg5; go_frame)
      | go_in)
    have hs1 := X1.out.size
    have XA : Hid (Ext W w5) := hide ((X1.out.alloc _).grown hg5 (fun j e => by injection e with e; omega))
    have hM5 := hide (HM.out.ext XA.out)
    obtain ⟨D, hD, hl⟩ := hM5.out
    have HD := hide hD
    have HL := hide hl
    have HO5 := hide ho5
    have hs5 := hg5.size
    rw [World.size_alloc] at hs5
    clear hD hl ho5 hg5 HM0 k0 k1 k2 lk j0 j1 j2 lj
    go_wp2_with (first
      | (at_range; refine wpList_range_own _ rfl _ 54 rfl 3 25 int_law Tryz.underlying54 heldE b n D rfl HD.out ?_; intro w0 hrg0 hg0 hs0)
      | go_in)
    have HMo : Hid (w0.ownsMap Tryz.prog 3 heldE W1.heap.size 1 ((DataW.map [] : VD).put (.int .i64 p.var) (.held (.agg #[encStr t.con, .int .i64 t.var, .slice t.A t.args.length t.cap])))) := hide (HO5.out.kept hg0 (by simp))
    have X00 : Hid (Ext W w0) := hide (XA.out.grown hg0 (fun j e => by cases e))
    have HRG0 := hide hrg0
    have hHp : has D (.int .i64 p.var) = false := by
      have h := HL.out p.var
      rw [HFp.out] at h
      unfold lookV at h
      cases hh : has D (.int .i64 p.var)
      · rfl
      · rw [hh] at h; cases h
    have HHp := hide hHp
    have hsz := HD.out.size_le
    have hb5 : b < w5.heap.size := HD.out.lt
    clear hrg0 hg0 hHp hmm
    go_loopw [11] (fun _ wr => ∃ (left : Lit → Bool) (cnt : Nat) (Dout : VD), Hid (wr.ranges Tryz.prog 3 heldE b w5.heap.size n D left cnt) ∧ cnt ≤ Maps.size D ∧
      Hid (wr.ownsMap Tryz.prog 3 heldE W1.heap.size (1 + (Maps.size D - cnt)) Dout) ∧ Hid (CopyM Dout D left p.var (tyV t)) ∧ Hid (∀ kl, left kl = true → has D kl = true) ∧ Hid (Ext W wr))
      (fun _ wr => wr.rangeLeft b w5.heap.size)
    case atStart =>
      exact ⟨_, _, _, HRG0, Nat.le_refl _, by rw [Nat.sub_self]; exact HMo, hide (CopyM.start p.var (tyV t)), hide (fun kl h => h), X00⟩
    case round =>
      obtain ⟨left, cnt, Dout, Hrg, hcs, Hout, HC, HLe, HX⟩ := hrel
      go_wp2_with (first
        | (at_next; refine wpList_next_ranges_iv _ rfl _ rfl 3 int_law Tryz.underlying3 b w5.heap.size n _ _ _ rfl Hrg.out ?_ ?_)
        | go_in)
      · intro hc0 hl0
        subst hc0
        have HOk : Hid (OnOk wr O (n + p.size) (.map (some W1.heap.size)) true) := hide (by
          rw [HO.out]
          refine ⟨fun h => (by cases h), fun m' hm' => ?_⟩
          have hm' := Option.some.inj hm'
          subst hm'
          exact ⟨rfl, _, rfl, BndIn.mono (BndIn.put Hout.out (fun x => HC.out.done hl0 x) HL.out HF.out (fun x u hu => (HT.out x u hu).ext HX.out) (H.out.ext (X0.out.trans HX.out))) (by omega)⟩)
        clear HC HLe Hout Hrg hl0 HMo HRG0 X00
        go_wp2
        go_ret2
        exact ⟨⟨_, true, rfl, HOk.out⟩, X0.out.trans HX.out⟩
      · intro x c w1 cnt1 hx hlx hat hrg1 hlt hg1 hs1' hen
        obtain ⟨u, rfl⟩ : ∃ u, c = tyV u := by
          have h := HL.out x
          unfold lookV at h
          rw [HLe.out _ hlx, hat, if_pos rfl] at h
          cases hFx : F x with
          | none => rw [hFx] at h; cases h
          | some u => rw [hFx] at h; exact ⟨u, by injection h⟩
        have hout1 := Hout.out.kept hg1 (fun e => by injection e with e; have := HO5.out.lt; omega)
        have X2 := hide (HX.out.grown hg1 (fun j e => by injection e with e; have := XA.out.size; omega))
        have HRG1 := hide hrg1
        have HA2 := hide (HC.out.step hout1.isMap HLe.out HHp.out hlx hat)
        have HL2 : Hid (∀ kl, (fun z => left z && !z.sameKey (.int .i64 x)) kl = true → has D kl = true) := hide (fun kl h => HLe.out kl (by
          simp only [Bool.and_eq_true] at h
          exact h.1))
        clear hrg1 hg1 hat hlx HC HLe
        unfold tyV at *
        have hW1 : w1.heap.size = wr.heap.size := hs1'
        have hbne : b ≠ W1.heap.size := by have := HWs.out; have := X1.out.size; omega
        have hrne : w5.heap.size ≠ W1.heap.size := by have := HO5.out.lt; omega
        go_wp2_with (first
          | (at_mapUpdate; refine wpList_mapUpdate_own _ rfl _ _ _ 54 rfl 3 25 int_law Tryz.underlying54 heldE W1.heap.size (1 + (Maps.size D - cnt)) Dout rfl (hout1.alloc _) (by unfold maxLen; omega) _ _ _ rfl rfl (key_int hx) _ [] rfl ?_; intro w2 hout2 hg2; go_frame)
          | go_in)
        have HRG2 := hide ((HRG1.out.kept (World.grownBy_alloc w1 _ none) (by simp) (by simp)).kept hg2 (fun e => by have := Option.some.inj e; omega) (fun e => by have := Option.some.inj e; omega))
        have X3 := hide ((X2.out.alloc _).grown hg2 (fun j e => by injection e with e; have := X1.out.size; omega))
        have HO2 := hide (hout2.mono (n' := 1 + (Maps.size D - cnt1)) (by omega))
        clear hout1 hout2 hg2
        go_roundw
        case rel => exact ⟨_, cnt1, _, HRG2, by omega, HO2, HA2, HL2, X3⟩
        case measure => rw [HRG2.out.left_eq, Hrg.out.left_eq]; exact hlt

end Go.Proofs.YtmjiljhcjfnfpaaGreat

/- Contract: a pattern is a type, behind what is known (scheme's on), whatever it is. -/
namespace Go.Proofs.YtmjiljhcjfnfpaaGreat
open Go.RowKit Go.Sort Go.Maps

noncomputable def tsum (l : List Ty) : Nat := (l.map Ty.size).sum
theorem tsum_cons (t : Ty) (l : List Ty) : tsum (t :: l) = t.size + tsum l := by unfold tsum; rw [List.map_cons, List.sum_cons]

set_option maxRecDepth 10000 in
set_option maxHeartbeats 8000000 in
theorem on_con (p : Ty) (hc : p.con ≠ []) (ih : ∀ k ∈ p.args, OnCo k) : OnCo p := by
  intro t b n m w hp ht hok hm hn
  obtain ⟨W, hW⟩ : ∃ W, W = (w.alloc (.cells #[encStr p.con, .int .i64 p.var, .slice p.A p.args.length p.cap] 25)).alloc (.cells #[encStr t.con, .int .i64 t.var, .slice t.A t.args.length t.cap] 25) := ⟨_, rfl⟩
  have HW := hide hW.symm
  have X0 : Hid (Ext w W) := hide (by rw [hW]; exact ((Ext.refl _).alloc _).alloc _)
  have B1 : Hid (TBox W w.heap.size p) := hide (by rw [hW]; exact (TBox.new w p).ext ((Ext.refl _).alloc _))
  have B2 : Hid (TBox W (w.heap.size + 1) t) := hide (by rw [hW]; exact at_newB _ _ _ (by simp))
  have HO := hide (onT_eq p t m)
  obtain ⟨O, hO⟩ : ∃ O, O = onT p t m := ⟨_, rfl⟩
  rw [← hO] at HO ⊢
  rw [if_neg hc] at HO
  have hcB : (p.con == ([] : Str)) = false := by simpa using hc
  have Hp := hide hp.all
  have Ht := hide ht.all
  have hlp := hp.le
  have hmp := hp.max
  have hlt' := ht.le
  have hmt := ht.max
  have HM := hide (hm.ext X0.out)
  have HI := hide (fun k (hk : k < p.args.length) => ih _ (List.getElem_mem hk))
  have HOk := hide (fun k (hk : k < p.args.length) => okI_arg hok (List.getElem_mem hk))
  have HSz : Hid (p.size = tsum p.args + 1) := hide (Ty.size_eq p)
  have c0 := B1.out.c0
  have c1 := B1.out.c1
  have c2 := B1.out.c2
  have d0 := B2.out.c0
  have d1 := B2.out.c1
  have d2 := B2.out.c2
  have l1 := B1.out.lt
  have l2 := B2.out.lt
  clear hW hp ht hm hO ih hok hc
  unfold tyV at *
  by_cases hcon : p.con = t.con
  case neg =>
    have hF : O = none := by rw [HO.out, if_neg (fun h => hcon h.1)]
    have g1 : (p.con != t.con) = true := by simpa using hcon
    have g2 : (p.con == t.con) = false := by simpa using hcon
    clear HO hcon
    subst hF
    go_enter Tryz.func27, Tryz.ntmps27
    go_upto_region 1 with fail
    rw [HW.out]
    clear HW
    go_wp2
    go_ret2
    exact ⟨⟨_, false, rfl, ⟨fun _ => rfl, fun m' h => by cases h⟩⟩, X0.out⟩
  have g1 : (p.con != t.con) = false := by simpa using hcon
  have g2 : (p.con == t.con) = true := by simpa using hcon
  by_cases hlen : p.args.length = t.args.length
  case neg =>
    have hF : O = none := by rw [HO.out, if_neg (fun h => hlen h.2)]
    have g3 : ((p.args.length : Int) != (t.args.length : Int)) = true := by simp; omega
    have g4 : (p.args.length != t.args.length) = true := by simpa using hlen
    have g5 : (p.args.length == t.args.length) = false := by simpa using hlen
    clear HO hlen hcon
    subst hF
    go_enter Tryz.func27, Tryz.ntmps27
    go_upto_region 1 with fail
    rw [HW.out]
    clear HW
    go_wp2
    go_ret2
    exact ⟨⟨_, false, rfl, ⟨fun _ => rfl, fun m' h => by cases h⟩⟩, X0.out⟩
  rw [if_pos ⟨hcon, hlen⟩] at HO
  have g3 : ((p.args.length : Int) != (t.args.length : Int)) = false := by rw [hlen]; simp
  have g4 : (p.args.length != t.args.length) = false := by simpa using hlen
  have g5 : (p.args.length == t.args.length) = true := by simpa using hlen
  have HLn := hide hlen
  clear hlen hcon
  go_enter Tryz.func27, Tryz.ntmps27
  go_upto_region 1 with fail
  rw [HW.out]
  clear HW
  go_wp2
  clear c0 c1 c2 d0 d1 d2 l1 l2 g1 g2 g3 g4 g5 hcB
  go_loopw [0, 64] (fun s0 i wr => ∃ (k b' N : Nat) (m' : Bnd), k ≤ p.args.length ∧ s0 = .map (some b') ∧ i = .int .i64 k ∧ Hid (O = onFs ((p.args.drop k).map onT) (t.args.drop k) m') ∧ Hid (BndIn wr b' N m') ∧ N + tsum (p.args.drop k) ≤ n + tsum p.args ∧ Hid (Ext W wr)) (fun _ i _ => p.args.length - (intOf i).toNat)
  case atStart => exact ⟨0, b, n, m, Nat.zero_le _, rfl, rfl, hide (by rw [List.drop_zero, List.drop_zero]; exact HO.out), HM, by rw [List.drop_zero]; exact Nat.le_refl _, hide (Ext.refl W)⟩
  case round =>
    obtain ⟨k, b', N, m', hk, rfl, rfl, HOk', HB, hN, HX⟩ := hrel
    by_cases hlt : k < p.args.length
    · have hltb : k < t.args.length := by rw [← HLn.out]; exact hlt
      have hlt1 : (k : Int) < (p.args.length : Int) := by omega
      have hlt2 : (k : Int) < (t.args.length : Int) := by omega
      have hk0 : (0 : Int) ≤ (k : Int) := by omega
      obtain ⟨bp, op, hA, hbp, q0, q1, q2⟩ := (Hp.out.ext (X0.out.trans HX.out)).at_ hlt
      obtain ⟨bt, ot, hB, hbt, r0, r1, r2⟩ := (Ht.out.ext (X0.out.trans HX.out)).at_ hltb
      have hd : tsum (p.args.drop k) = (p.args[k]'hlt).size + tsum (p.args.drop (k + 1)) := by rw [List.drop_eq_getElem_cons hlt, tsum_cons]
      have hN2 : N + ((p.args[k]'hlt).size + tsum (p.args.drop (k + 1))) ≤ n + tsum p.args := by rw [← hd]; exact hN
      have hs := HSz.out
      have HC := hide (fun w' (e : Ext wr w') => hide (HI.out k hlt (t.args[k]'hltb) b' N m' w' ((Hp.out.args _ (List.getElem_mem hlt)).ext (X0.out.trans (HX.out.trans e))) ((Ht.out.args _ (List.getElem_mem hltb)).ext (X0.out.trans (HX.out.trans e))) (HOk.out k hlt) (HB.out.ext e) (by omega)))
      have HO1 : Hid (O = (onT (p.args[k]'hlt) (t.args[k]'hltb) m').bind fun m => onFs ((p.args.drop (k + 1)).map onT) (t.args.drop (k + 1)) m) := hide (by
        rw [HOk'.out, List.drop_eq_getElem_cons hlt, List.drop_eq_getElem_cons hltb]
        rfl)
      have c2 := (B1.out.ext HX.out).c2
      have l1 := (B1.out.ext HX.out).lt
      have d2 := (B2.out.ext HX.out).c2
      have l2 := (B2.out.ext HX.out).lt
      generalize onT (p.args[k]'hlt) (t.args[k]'hltb) m' = O1 at *
      generalize p.args[k]'hlt = x at *
      generalize t.args[k]'hltb = y at *
      rw [hA] at c2
      rw [hB] at d2
      clear hA hB hd hN hs
      have HSS := hide (fun w' (e : Ext wr w') => And.intro (e.cell c2) (And.intro (e.cell d2) (And.intro (e.cell q0) (And.intro (e.cell q1) (And.intro (e.cell q2) (And.intro (e.cell r0) (And.intro (e.cell r1) (e.cell r2))))))))
      unfold tyV at HC
      go_upto_region 17 with fail
      go_region_held3 (fun w' => w'.cell? ⟨w.heap.size, 2, none⟩ = some (.slice (some ⟨bp, op, none⟩) p.args.length p.cap) ∧ w'.cell? ⟨w.heap.size + 1, 2, none⟩ = some (.slice (some ⟨bt, ot, none⟩) t.args.length t.cap) ∧ w'.cell? ⟨bp, op + k * 3, none⟩ = some (encStr x.con) ∧ w'.cell? ⟨bp, op + k * 3 + 1, none⟩ = some (.int .i64 x.var) ∧ w'.cell? ⟨bp, op + k * 3 + 2, none⟩ = some (.slice x.A x.args.length x.cap) ∧ w'.cell? ⟨bt, ot + k * 3, none⟩ = some (encStr y.con) ∧ w'.cell? ⟨bt, ot + k * 3 + 1, none⟩ = some (.int .i64 y.var) ∧ w'.cell? ⟨bt, ot + k * 3 + 2, none⟩ = some (.slice y.A y.args.length y.cap)) (first | with_reducible assumption | go_keep) (first
        | (go_at_call 27
           refine Calls.mono (HC.out _ (by repeat (first | exact Ext.refl _ | exact Ext.pre (by simp) | exact Ext.alloc (by assumption) _ | refine Ext.alloc ?_ _ |  refine Ext.more ?_ _ _ | refine Ext.drew ?_ | refine Ext.drewN ?_ _))).out ?_
           rintro e z ⟨⟨mv, ok, rfl, hok⟩, hxy⟩
           have kS := HSS.out z (by refine Ext.trans ?_ hxy; exact (by repeat (first | exact Ext.refl _ | exact Ext.pre (by simp) | exact Ext.alloc (by assumption) _ | refine Ext.alloc ?_ _ |  refine Ext.more ?_ _ _ | refine Ext.drew ?_ | refine Ext.drewN ?_ _)))
           have XZ : Hid (Ext wr z) := hide (by refine Ext.trans ?_ hxy; exact (by repeat (first | exact Ext.refl _ | exact Ext.pre (by simp) | exact Ext.alloc (by assumption) _ | refine Ext.alloc ?_ _ |  refine Ext.more ?_ _ _ | refine Ext.drew ?_ | refine Ext.drewN ?_ _)))))
      all_goals
        cases O1 with
        | none =>
          obtain rfl := hok.no rfl
          have hF : O = none := HO1.out
          clear HO1 HOk' HO hok
          subst hF
          go_wp2
          go_ret2
          exact ⟨⟨_, false, rfl, ⟨fun _ => rfl, fun m' h => by cases h⟩⟩, X0.out.trans (HX.out.trans XZ.out)⟩
        | some m2 =>
          obtain ⟨rfl, b2, rfl, hB2⟩ := hok.yes m2 rfl
          have HB2 := hide hB2
          have HO2 := hide (show O = onFs ((p.args.drop (k + 1)).map onT) (t.args.drop (k + 1)) m2 from HO1.out)
          clear hok hB2 HO1 HOk'
          go_wp2
          go_roundw
          case rel => exact ⟨k + 1, b2, N + x.size, m2, hlt, rfl, by go_num, HO2, HB2, by omega, hide (HX.out.trans XZ.out)⟩
          case measure => simp [intOf]; omega
    · have hge : ¬ (k : Int) < (p.args.length : Int) := by omega
      have hF : O = some m' := by rw [HOk'.out, List.drop_eq_nil_of_le (by omega), List.drop_eq_nil_of_le (by have := HLn.out; omega)]; rfl
      have HBe := hide (BndIn.mono HB.out (show N ≤ n + p.size by have hs := HSz.out; rw [List.drop_eq_nil_of_le (by omega)] at hN; unfold tsum at hN hs; simp at hN; omega))
      clear HO HOk' hN
      subst hF
      go_wp2
      go_ret2
      have hR : OnOk wr (some m') (n + p.size) (.map (some b')) true := ⟨(fun h => by cases h), (fun m2 h => by injection h with h; subst h; exact ⟨rfl, b', rfl, HBe.out⟩)⟩
      first
        | exact ⟨⟨_, true, rfl, hR⟩, X0.out.trans HX.out⟩
        | exact ⟨⟨_, .inr ⟨rfl, hR⟩⟩, X0.out.trans HX.out⟩
/-- A pattern is a type, behind what is known. -/
theorem s_on (p : Ty) : OnCo p := by
  induction p using Ty.ind with
  | h p ih =>
  by_cases hc : p.con = []
  · exact on_var p hc
  · exact on_con p hc ih

end Go.Proofs.YtmjiljhcjfnfpaaGreat

/- Contract: each of some predicates is one of others, for some types (scheme's all). -/
namespace Go.Proofs.YtmjiljhcjfnfpaaGreat
open Go.RowKit Go.Sort Go.Maps

theorem PdsIn.cut1 {w : World} {A : Option Addr} {l : List Pd} (h : PdsIn w A l) {cap : Nat} (hk : 1 ≤ l.length) (hc : l.length ≤ cap) : PdsIn w (if cap = 1 then A else A.map (·.add (1 * 4))) (l.drop 1) :=
  ⟨RowOf.cut pdC h.row hk hc, fun x hx => h.all x (List.mem_of_mem_drop hx)⟩
def AllCo (O : Option Addr) (oc : Nat) (of l : List Pd) : Prop := ∀ (L : Option Addr) (cap b n : Nat) (m : Bnd) (w : World), PdsIn w L l → l.length ≤ cap → cap ≤ 9223372036854775807 → PdsIn w O of → (∀ q ∈ l, okI q.ty = true) → BndIn w b n m → n + psz l ≤ 1000000000 →
  Calls Tryz.prog 28 #[.map (some b), .slice L l.length cap, .slice O of.length oc] w fun e w' => e = .returned (.bool (allM l of m)) ∧ Ext w w'

set_option maxRecDepth 10000 in
set_option maxHeartbeats 8000000 in
theorem s_all_cons (O : Option Addr) (oc : Nat) (of : List Pd) (hof : of.length ≤ 1000000000) (q : Pd) (l : List Pd) (ih : AllCo O oc of l) : AllCo O oc of (q :: l) := by
  intro L cap b n m w hL hle hcap hO hok hm hn
  have HL := hide hL
  have HOf := hide hO
  have HM := hide hm
  have hpz : psz (q :: l) = q.ty.size + psz l := by unfold psz; simp
  have HOn := hide (fun (r : Pd) (hr : TyIn w r.ty) w' (e : Ext w w') => hide (s_on q.ty r.ty b n m w' ((hL.all q (by simp)).ty.ext e) (hr.ext e) (hok q (by simp)) (hm.ext e) (by omega)))
  have HOa := hide (fun r hr => (hO.all r hr).ty)
  have hcut := hL.cut1 (cap := cap) (by simp) hle
  have HC := hide hcut
  have hll : l.length + 1 ≤ cap := hle
  have HIH := hide (fun A b2 m2 w' (e : Ext w w') (hA : PdsIn w A l) (hb : BndIn w' b2 (n + q.ty.size) m2) => hide (ih A (cap - 1) b2 (n + q.ty.size) m2 w' (hA.ext e) (by omega) (by omega) (hO.ext e) (fun x hx => hok x (by simp [hx])) hb (by omega)))
  obtain ⟨bl, ol, rfl, hbl, q0, q1, q2, q3⟩ := hL.at_ (i := 0) (by simp)
  simp only [List.getElem_cons_zero, Nat.zero_mul, Nat.add_zero] at q0 q1 q2 q3
  have HSq := hide (fun w' (e : Ext w w') => And.intro (e.cell q0) (And.intro (e.cell q1) (And.intro (e.cell q2) (e.cell q3))))
  obtain ⟨R, hR⟩ : ∃ R, R = allM (q :: l) of m := ⟨_, rfl⟩
  have HR : Hid (R = of.any fun r => (r.cls == q.cls) && (match onT q.ty r.ty m with | some m' => allM l of m' | none => false)) := hide hR
  rw [← hR]
  have hne : ¬ ((l.length : Int) + 1 = 0) := by omega
  have hne2 : ((l.length : Int) + 1 == 0) = false := by simpa using hne
  have h01 : (0 : Int) < (l.length : Int) + 1 := by omega
  clear hL hO hm hok hn hpz ih hcut hR
  simp only [List.length_cons]
  obtain ⟨f, hf⟩ : ∃ f : Pd → Bool, f = fun r => (r.cls == q.cls) && (match onT q.ty r.ty m with | some m' => allM l of m' | none => false) := ⟨_, rfl⟩
  have HF := hide hf
  rw [← hf] at HR
  clear hf
  go_enter Tryz.func28, Tryz.ntmps28
  go_wp2
  go_loopw [16] (fun i wr => ∃ k : Nat, k ≤ of.length ∧ i = .int .i64 k ∧ Hid (R = (of.drop k).any f) ∧ Hid (Ext w wr)) (fun i _ => of.length - (intOf i).toNat)
  case atStart => exact ⟨0, Nat.zero_le _, rfl, hide (by rw [List.drop_zero]; exact HR.out), hide (Ext.refl w)⟩
  case round =>
    obtain ⟨k, hk, rfl, HRk, HX⟩ := hrel
    by_cases hlt : k < of.length
    · have hlt1 : (k : Int) < (of.length : Int) := by omega
      have hk0 : (0 : Int) ≤ (k : Int) := by omega
      obtain ⟨bo, oo, rfl, hbo, r0, r1, r2, r3⟩ := (HOf.out.ext HX.out).at_ hlt
      have HRs : Hid (R = (f (of[k]'hlt) || (of.drop (k + 1)).any f)) := hide (by rw [HRk.out, List.drop_eq_getElem_cons hlt, List.any_cons])
      have HTy := hide (HOa.out _ (List.getElem_mem hlt))
      generalize of[k]'hlt = y at *
      go_upto_region 6 with fail
      refine wp_named ?_
      intro W1 hW1
      have X1 : Hid (Ext wr W1) := hide (by rw [hW1]; exact (Ext.refl _).alloc _)
      have BY : Hid (PdBox W1 wr.heap.size y) := hide (by rw [hW1]; exact PdBox.new wr y)
      have XW := hide (HX.out.trans X1.out)
      clear hW1 r0 r1 r2 r3
      obtain ⟨k0, k1, k2, k3⟩ := BY.out.cells
      have lk := BY.out.lt
      obtain ⟨s0, s1, s2, s3⟩ := HSq.out _ XW.out
      have hblW : bl < W1.heap.size := by have := XW.out.size; omega
      have Hf := hide (congrFun HF.out y)
      cases hcl : (y.cls == q.cls)
      · have hfy : f y = false := by rw [Hf.out, hcl]; rfl
        have hcn : (y.cls != q.cls) = true := by rw [bne, hcl]; rfl
        have HRn : Hid (R = (of.drop (k + 1)).any f) := hide (by rw [HRs.out, hfy]; rfl)
        clear HRs HRk Hf hfy
        go_quiet (fail)
        go_wp2
        go_roundw
        case rel => exact ⟨k + 1, hlt, by go_num, HRn, hide (XW.out.drewN nq)⟩
        case measure => simp [intOf]; omega
      · have hcn : (y.cls != q.cls) = false := by rw [bne, hcl]; rfl
        have HCa := hide (fun w' (e : Ext w w') => (HOn.out y HTy.out w' e))
        have HRs2 : Hid (R = ((match onT q.ty y.ty m with | some m' => allM l of m' | none => false) || (of.drop (k + 1)).any f)) := hide (by rw [HRs.out, Hf.out, hcl]; rfl)
        clear HRs HRk Hf
        unfold tyV at HCa
        go_quiet (fail)
        have XW2 := hide (XW.out.drewN nq)
        have BY2 := BY.out.ext ((Ext.refl W1).drewN nq)
        clear k0 k1 k2 k3 lk s0 s1 s2 s3 hblW
        generalize W1.drewN nq = W2 at *
        obtain ⟨k0, k1, k2, k3⟩ := BY2.cells
        have lk := BY2.lt
        obtain ⟨s0, s1, s2, s3⟩ := HSq.out _ XW2.out
        have hblW : bl < W2.heap.size := by have := XW2.out.size; omega
        have HSS := hide (fun w' (e : Ext W2 w') => And.intro (e.cell k0) (And.intro (e.cell k1) (And.intro (e.cell k2) (And.intro (e.cell k3) (And.intro (e.cell s0) (And.intro (e.cell s1) (And.intro (e.cell s2) (e.cell s3))))))))
        clear BY2
        go_upto_region 7 with fail
        go_region_held3 (fun w' => w'.cell? ⟨wr.heap.size, 0, none⟩ = some (encStr y.cls) ∧ w'.cell? ⟨wr.heap.size, 1, none⟩ = some (encStr y.ty.con) ∧ w'.cell? ⟨wr.heap.size, 2, none⟩ = some (.int .i64 y.ty.var) ∧ w'.cell? ⟨wr.heap.size, 3, none⟩ = some (.slice y.ty.A y.ty.args.length y.ty.cap) ∧ w'.cell? ⟨bl, ol, none⟩ = some (encStr q.cls) ∧ w'.cell? ⟨bl, ol + 1, none⟩ = some (encStr q.ty.con) ∧ w'.cell? ⟨bl, ol + 2, none⟩ = some (.int .i64 q.ty.var) ∧ w'.cell? ⟨bl, ol + 3, none⟩ = some (.slice q.ty.A q.ty.args.length q.ty.cap)) (first | with_reducible assumption | go_keep) (first
          | (go_at_call 27
             refine Calls.mono (HCa.out _ (XW2.out.trans (by repeat (first | exact Ext.refl _ | exact Ext.pre (by simp) | exact Ext.alloc (by assumption) _ | refine Ext.alloc ?_ _ |  refine Ext.more ?_ _ _ | refine Ext.drew ?_ | refine Ext.drewN ?_ _)))).out ?_
             rintro e z ⟨⟨mv, ok, rfl, hok⟩, hxy⟩
             have kS := HSS.out z (by refine Ext.trans ?_ hxy; exact (by repeat (first | exact Ext.refl _ | exact Ext.pre (by simp) | exact Ext.alloc (by assumption) _ | refine Ext.alloc ?_ _ |  refine Ext.more ?_ _ _ | refine Ext.drew ?_ | refine Ext.drewN ?_ _)))
             have XZ : Hid (Ext w z) := hide (XW2.out.trans (by refine Ext.trans ?_ hxy; exact (by repeat (first | exact Ext.refl _ | exact Ext.pre (by simp) | exact Ext.alloc (by assumption) _ | refine Ext.alloc ?_ _ |  refine Ext.more ?_ _ _ | refine Ext.drew ?_ | refine Ext.drewN ?_ _))))))
        all_goals
          clear kS
          generalize onT q.ty y.ty m = O1 at *
          cases O1 with
          | none =>
            obtain rfl := hok.no rfl
            have HRn : Hid (R = (of.drop (k + 1)).any f) := HRs2
            clear HRs2 hok
            go_wp2
            go_roundw
            case rel => exact ⟨k + 1, hlt, by go_num, HRn, XZ⟩
            case measure => simp [intOf]; omega
          | some m2 =>
            obtain ⟨rfl, b2, rfl, hB2⟩ := hok.yes m2 rfl
            have HB2 := hide hB2
            have HR2 : Hid (R = (allM l of m2 || (of.drop (k + 1)).any f)) := HRs2
            clear hok hB2 HRs2
            by_cases hc1 : cap = 1
            · have hcA := HC.out
              rw [if_pos hc1] at hcA
              have HCall := hide (HIH.out _ b2 m2 z XZ.out hcA HB2.out)
              have hl0 : l.length = 0 := by omega
              rw [hl0, hc1] at HCall
              have h01' : (1 : Int) ≤ (l.length : Int) + 1 := by omega
              generalize allM l of m2 = B at *
              clear hcA
              go_wp2_with fail
              refine HCall.out.mono ?_
              rintro e z2 ⟨rfl, hx⟩
              have XZ2 := hide (XZ.out.trans hx)
              clear hx HCall hc1 hl0
              cases B
              · have HRn : Hid (R = (of.drop (k + 1)).any f) := HR2
                clear HR2
                go_wp2
                go_roundw
                case rel => exact ⟨k + 1, hlt, by go_num, HRn, XZ2⟩
                case measure => simp [intOf]; omega
              · have hT : R = true := HR2.out
                clear HR2 HR
                subst hT
                go_wp2
                go_ret
                exact ⟨rfl, XZ2.out⟩
            · have hcA : PdsIn w (some ⟨bl, ol + 4, none⟩) l := by
                have := HC.out
                rw [if_neg hc1] at this
                exact this
              have HCall := hide (HIH.out _ b2 m2 z XZ.out hcA HB2.out)
              have h01' : (1 : Int) ≤ (l.length : Int) + 1 := by omega
              have hcp : 1 ≤ cap := by omega
              generalize allM l of m2 = B at *
              clear hcA
              go_wp2_with fail
              refine HCall.out.mono ?_
              rintro e z2 ⟨rfl, hx⟩
              have XZ2 := hide (XZ.out.trans hx)
              clear hx HCall hc1
              cases B
              · have HRn : Hid (R = (of.drop (k + 1)).any f) := HR2
                clear HR2
                go_wp2
                go_roundw
                case rel => exact ⟨k + 1, hlt, by go_num, HRn, XZ2⟩
                case measure => simp [intOf]; omega
              · have hT : R = true := HR2.out
                clear HR2 HR
                subst hT
                go_wp2
                go_ret
                exact ⟨rfl, XZ2.out⟩
    · have hge : ¬ (k : Int) < (of.length : Int) := by omega
      have hF : R = false := by rw [HRk.out, List.drop_eq_nil_of_le (by omega)]; rfl
      clear HRk HR
      subst hF
      go_wp2
      go_ret
      exact ⟨rfl, HX.out⟩
theorem s_all_nil (O : Option Addr) (oc : Nat) (of : List Pd) : AllCo O oc of [] := by
  intro L cap b n m w hL hle hcap hO hok hm hn
  clear hL hO hok hm hn
  simp only [List.length_nil]
  go_enter Tryz.func28, Tryz.ntmps28
  go_wp2
  go_ret
  exact ⟨rfl, Ext.refl _⟩
/-- Each of some predicates is one of others. -/
theorem s_all (O : Option Addr) (oc : Nat) (of : List Pd) (hof : of.length ≤ 1000000000) : ∀ l, AllCo O oc of l
  | [] => s_all_nil O oc of
  | q :: l => s_all_cons O oc of hof q l (s_all O oc of hof l)

end Go.Proofs.YtmjiljhcjfnfpaaGreat

/- Contracts: the variables of a scheme that are not own ones; of the program, and of the reference. (A program of ours has printed this.) -/
namespace Go.Proofs.YtmjiljhcjfnfpaaGreat
open Go.RowKit

theorem fr_step {L : List Int} {n : Int} {k : Nat} (hk : k < L.length) : (L.take (k + 1)).filter (fun v => !ownB n v) = if ownB n (L[k]'hk) = true then (L.take k).filter (fun v => !ownB n v) else (L.take k).filter (fun v => !ownB n v) ++ [L[k]'hk] := by
  rw [List.take_succ_eq_append_getElem hk, List.filter_append, List.filter_cons]
  cases ownB n (L[k]'hk) <;> simp

set_option maxRecDepth 10000 in
set_option maxHeartbeats 4000000 in
theorem s_free (s : Sc) (w : World) (h : ScIn w s) (hl : s.preds.length ≤ 40000) (hsz : s.ty.size + psz s.preds ≤ 50000) :
    Calls Tryz.prog 12 #[scV s] w fun e w' => (∃ A c, e = .returned (.slice A (frS s).length c) ∧ (frS s).length ≤ c ∧ c ≤ 9223372036854775807 ∧ Ints w' A (frS s)) ∧ Ext w w' := by
  obtain ⟨i0, hi, hz0, hz1, hz2⟩ := info_parts int64_info
  obtain ⟨W, hW⟩ : ∃ W, W = w.alloc (.cells #[.int .i64 s.n, .slice s.A s.preds.length s.cap, encStr s.ty.con, .int .i64 s.ty.var, .slice s.ty.A s.ty.args.length s.ty.cap] 27) := ⟨_, rfl⟩
  have HW := hide hW.symm
  have X0 : Hid (Ext w W) := hide (by rw [hW]; exact (Ext.refl _).alloc _)
  have B1 : Hid (ScBox W w.heap.size s) := hide (by rw [hW]; exact ScBox.new w s)
  have HV := hide (s_vars s.ty s.A s.cap s.preds W (h.ty.ext X0.out) (h.row.ext X0.out) hl hsz)
  have hLn : (sVars s.ty s.preds).length ≤ 50000 := Nat.le_trans (sVars_len _ _) hsz
  have HF : Hid (frS s = (sVars s.ty s.preds).filter fun v => !ownB s.n v) := hide rfl
  have HSt := hide (fun k (hk : k < (sVars s.ty s.preds).length) => fr_step (n := s.n) hk)
  clear hW h hl hsz
  generalize frS s = F at *
  generalize sVars s.ty s.preds = L at *
  obtain ⟨c0, c1, c2, c3, c4⟩ := B1.out.cells
  have lb := B1.out.lt
  unfold scV
  unfold tyV at HV
  go_enter Tryz.func12, Tryz.ntmps12
  go_upto_region 1 with fail
  rw [HW.out]
  clear HW
  go_wp2_with fail
  refine HV.out.mono ?_
  rintro e w2 ⟨⟨A2, k2, rfl, p1, p2, p3⟩, hx⟩
  have X2 := hide hx
  have HI := hide p3
  clear hx p3 c0 c1 c2 c3 c4 lb HV
  go_wp2
  go_loopw [3, 12] (fun u i wr => ∃ (k : Nat) (O : List Int), k ≤ L.length ∧ i = .int .i64 k ∧ Hid (O = (L.take k).filter (fun v => !ownB s.n v)) ∧ Hid (Ext w2 wr) ∧ Hid (wr.ownsRow w2.heap.size 3 1 u O.length (O.map (Value.int .i64)))) (fun _ i _ => L.length - (intOf i).toNat)
  case atStart => exact ⟨0, [], Nat.zero_le _, rfl, hide (by rw [List.take_zero]; rfl), hide (Ext.refl _), hide (World.ownsRow_nil _ _ _ _)⟩
  case round =>
    obtain ⟨k, O, hk, rfl, HOe, HX, HO⟩ := hrel
    have XR := hide (X2.out.trans HX.out)
    have hO1 : O.length ≤ L.length := by rw [HOe.out]; exact Nat.le_trans (List.length_filter_le _ _) (by rw [List.length_take]; omega)
    by_cases hlt : k < L.length
    · have hlt' : (k : Int) < (L.length : Int) := by omega
      have hk0 : (0 : Int) ≤ (k : Int) := by omega
      obtain ⟨b, o, rfl, hb, hc⟩ := Ints.at_ (RowOf.ext intC HI.out HX.out) hlt
      have Htk := hide (HSt.out k hlt)
      generalize L[k]'hlt = x at *
      obtain ⟨c0, -⟩ := (B1.out.ext XR.out).cells
      have lb := (B1.out.ext XR.out).lt
      obtain ⟨A5, c5, rfl, q1, q2, q3, _⟩ := Ints.own HO.out
      clear q3
      have HOw := hide (fun w' => hide (s_own x s.n w'))
      cases ho : ownB s.n x
      · rw [ho] at Htk HOw
        go_wp2_with fail
        refine (HOw.out _).out.mono ?_
        rintro e w5 ⟨rfl, rfl⟩
        go_wp2_with (at_builtin; refine wpList_append_row _ rfl _ _ 31 rfl w2.heap.size 3 i0 _ 1 8 Tryz.underlying31 hi hz0 hz1 hz2 rfl (by decide) (.slice A5 O.length c5) O.length (O.map (Value.int .i64)) rfl (HO.out.alloc _) _ 1 1 [.int .i64 x] rfl ?c2 ?c3 ?c4 ?c5 ?c6 ?_)
        case c2 => exact Row.boxI _ (at_newB _ _ _ (by simp))
        case c3 => first | rfl | (intro y hy; simp at hy; subst hy; rfl)
        case c4 => unfold maxLen; omega
        case c5 => omega
        case c6 => have := HX.out.size; simp; omega
        intro v4 w4 hown4 hg4 _
        have X4 := hide (Ext.app (HX.out.alloc _) hg4 (HO.out.alloc _) (Nat.le_refl _))
        have O4 := hide hown4
        clear hown4 hg4 HO
        go_wp2
        go_roundw
        case rel => exact ⟨k + 1, O ++ [x], hlt, by go_num, hide (by rw [Htk.out, if_neg (by simp), HOe.out]), X4, hide (by simpa using O4.out)⟩
        case measure => simp [intOf]; omega
      · rw [ho] at Htk HOw
        go_wp2_with fail
        refine (HOw.out _).out.mono ?_
        rintro e w5 ⟨rfl, rfl⟩
        go_wp2
        go_roundw
        case rel => exact ⟨k + 1, O, hlt, by go_num, hide (by rw [Htk.out, if_pos trivial, HOe.out]), HX, HO⟩
        case measure => simp [intOf]; omega
    · have hge : ¬ (k : Int) < (L.length : Int) := by omega
      have hF : O = F := by rw [HOe.out, HF.out, List.take_of_length_le (by omega)]
      clear HOe HF
      subst hF
      obtain ⟨A5, c5, rfl, q1, q2, q3, _⟩ := Ints.own HO.out
      have P3 := hide q3
      clear q3
      go_wp2
      go_ret
      exact ⟨⟨A5, c5, rfl, q1, q2, P3.out⟩, X0.out.trans XR.out⟩

set_option maxRecDepth 10000 in
set_option maxHeartbeats 4000000 in
theorem r_free21 (s : Sc) (w : World) (h : ScIn w s) (hl : s.preds.length ≤ 40000) (hsz : s.ty.size + psz s.preds ≤ 50000) :
    Calls Tryz.prog 29 #[scV s] w fun e w' => (∃ A c, e = .returned (.slice A (frS s).length c) ∧ (frS s).length ≤ c ∧ c ≤ 9223372036854775807 ∧ Ints w' A (frS s)) ∧ Ext w w' := by
  obtain ⟨i0, hi, hz0, hz1, hz2⟩ := info_parts int64_info
  obtain ⟨W, hW⟩ : ∃ W, W = w.alloc (.cells #[.int .i64 s.n, .slice s.A s.preds.length s.cap, encStr s.ty.con, .int .i64 s.ty.var, .slice s.ty.A s.ty.args.length s.ty.cap] 27) := ⟨_, rfl⟩
  have HW := hide hW.symm
  have X0 : Hid (Ext w W) := hide (by rw [hW]; exact (Ext.refl _).alloc _)
  have B1 : Hid (ScBox W w.heap.size s) := hide (by rw [hW]; exact ScBox.new w s)
  have HV := hide (r_all21 s.ty s.A s.cap s.preds W (h.ty.ext X0.out) (h.row.ext X0.out) hl hsz)
  have hLn : (sVars s.ty s.preds).length ≤ 50000 := Nat.le_trans (sVars_len _ _) hsz
  have HF : Hid (frS s = (sVars s.ty s.preds).filter fun v => !ownB s.n v) := hide rfl
  have HSt := hide (fun k (hk : k < (sVars s.ty s.preds).length) => fr_step (n := s.n) hk)
  clear hW h hl hsz
  generalize frS s = F at *
  generalize sVars s.ty s.preds = L at *
  obtain ⟨c0, c1, c2, c3, c4⟩ := B1.out.cells
  have lb := B1.out.lt
  unfold scV
  unfold tyV at HV
  go_enter Tryz.func29, Tryz.ntmps29
  go_upto_region 1 with fail
  rw [HW.out]
  clear HW
  go_wp2_with fail
  refine HV.out.mono ?_
  rintro e w2 ⟨⟨A2, k2, rfl, p1, p2, p3⟩, hx⟩
  have X2 := hide hx
  have HI := hide p3
  clear hx p3 c0 c1 c2 c3 c4 lb HV
  go_wp2
  go_loopw [4, 5] (fun u i wr => ∃ (k : Nat) (O : List Int), k ≤ L.length ∧ i = .int .i64 k ∧ Hid (O = (L.take k).filter (fun v => !ownB s.n v)) ∧ Hid (Ext w2 wr) ∧ Hid (wr.ownsRow w2.heap.size 3 1 u O.length (O.map (Value.int .i64)))) (fun _ i _ => L.length - (intOf i).toNat)
  case atStart => exact ⟨0, [], Nat.zero_le _, rfl, hide (by rw [List.take_zero]; rfl), hide (Ext.refl _), hide (World.ownsRow_nil _ _ _ _)⟩
  case round =>
    obtain ⟨k, O, hk, rfl, HOe, HX, HO⟩ := hrel
    have XR := hide (X2.out.trans HX.out)
    have hO1 : O.length ≤ L.length := by rw [HOe.out]; exact Nat.le_trans (List.length_filter_le _ _) (by rw [List.length_take]; omega)
    by_cases hlt : k < L.length
    · have hlt' : (k : Int) < (L.length : Int) := by omega
      have hk0 : (0 : Int) ≤ (k : Int) := by omega
      obtain ⟨b, o, rfl, hb, hc⟩ := Ints.at_ (RowOf.ext intC HI.out HX.out) hlt
      have Htk := hide (HSt.out k hlt)
      generalize L[k]'hlt = x at *
      obtain ⟨c0, -⟩ := (B1.out.ext XR.out).cells
      have lb := (B1.out.ext XR.out).lt
      obtain ⟨A5, c5, rfl, q1, q2, q3, _⟩ := Ints.own HO.out
      clear q3
      by_cases hx0 : x < 0
      · have ho : ownB s.n x = false := by rw [← Bool.not_eq_true, ownB_iff]; omega
        have g1 : decide (x < 0) = true := decide_eq_true hx0
        rw [ho] at Htk
        clear ho
        go_wp2
        go_quiet (fail)
        have HX := hide (HX.out.drewN nq)
        have HO := hide (own_extB HO.out ((Ext.refl wr).drewN nq))
        have hc := ((Ext.refl wr).drewN nq).cell hc
        have hb : b < (wr.drewN nq).heap.size := hb
        generalize wr.drewN nq = wq at *
        go_wp2_with (at_builtin; refine wpList_append_row _ rfl _ _ 31 rfl w2.heap.size 3 i0 _ 1 8 Tryz.underlying31 hi hz0 hz1 hz2 rfl (by decide) (.slice A5 O.length c5) O.length (O.map (Value.int .i64)) rfl (HO.out.alloc _) _ 1 1 [.int .i64 x] rfl ?c2 ?c3 ?c4 ?c5 ?c6 ?_)
        case c2 => exact Row.boxI _ (at_newB _ _ _ (by simp))
        case c3 => first | rfl | (intro y hy; simp at hy; subst hy; rfl)
        case c4 => unfold maxLen; omega
        case c5 => omega
        case c6 => have := HX.out.size; simp; omega
        intro v4 w4 hown4 hg4 _
        have X4 := hide (Ext.app (HX.out.alloc _) hg4 (HO.out.alloc _) (Nat.le_refl _))
        have O4 := hide hown4
        clear hown4 hg4 HO
        go_wp2
        go_roundw
        case rel => exact ⟨k + 1, O ++ [x], hlt, by go_num, hide (by rw [Htk.out, if_neg (by simp), HOe.out]), X4, hide (by simpa using O4.out)⟩
        case measure => simp [intOf]; omega
      have g1 : decide (x < 0) = false := decide_eq_false hx0
      by_cases hx1 : x ≥ s.n
      · have ho : ownB s.n x = false := by rw [← Bool.not_eq_true, ownB_iff]; omega
        have g2 : decide (x ≥ s.n) = true := decide_eq_true hx1
        have g3 : decide (s.n ≤ x) = true := decide_eq_true hx1
        rw [ho] at Htk
        clear ho
        go_wp2
        go_quiet (fail)
        have HX := hide (HX.out.drewN nq)
        have HO := hide (own_extB HO.out ((Ext.refl wr).drewN nq))
        have hc := ((Ext.refl wr).drewN nq).cell hc
        have hb : b < (wr.drewN nq).heap.size := hb
        generalize wr.drewN nq = wq at *
        go_wp2_with (at_builtin; refine wpList_append_row _ rfl _ _ 31 rfl w2.heap.size 3 i0 _ 1 8 Tryz.underlying31 hi hz0 hz1 hz2 rfl (by decide) (.slice A5 O.length c5) O.length (O.map (Value.int .i64)) rfl (HO.out.alloc _) _ 1 1 [.int .i64 x] rfl ?c2 ?c3 ?c4 ?c5 ?c6 ?_)
        case c2 => exact Row.boxI _ (at_newB _ _ _ (by simp))
        case c3 => first | rfl | (intro y hy; simp at hy; subst hy; rfl)
        case c4 => unfold maxLen; omega
        case c5 => omega
        case c6 => have := HX.out.size; simp; omega
        intro v4 w4 hown4 hg4 _
        have X4 := hide (Ext.app (HX.out.alloc _) hg4 (HO.out.alloc _) (Nat.le_refl _))
        have O4 := hide hown4
        clear hown4 hg4 HO
        go_wp2
        go_roundw
        case rel => exact ⟨k + 1, O ++ [x], hlt, by go_num, hide (by rw [Htk.out, if_neg (by simp), HOe.out]), X4, hide (by simpa using O4.out)⟩
        case measure => simp [intOf]; omega
      have g2 : decide (x ≥ s.n) = false := decide_eq_false hx1
      have g3 : decide (s.n ≤ x) = false := decide_eq_false hx1
      have ho : ownB s.n x = true := by rw [ownB_iff]; omega
      rw [ho] at Htk
      clear ho
      go_wp2
      go_quiet (fail)
      go_wp2
      go_roundw
      case rel => exact ⟨k + 1, O, hlt, by go_num, hide (by rw [Htk.out, if_pos trivial, HOe.out]), hide (HX.out.drewN nq), hide (own_extB HO.out ((Ext.refl wr).drewN nq))⟩
      case measure => simp [intOf]; omega
    · have hge : ¬ (k : Int) < (L.length : Int) := by omega
      have hF : O = F := by rw [HOe.out, HF.out, List.take_of_length_le (by omega)]
      clear HOe HF
      subst hF
      obtain ⟨A5, c5, rfl, q1, q2, q3, _⟩ := Ints.own HO.out
      have P3 := hide q3
      clear q3
      go_wp2
      go_ret
      exact ⟨⟨A5, c5, rfl, q1, q2, P3.out⟩, X0.out.trans XR.out⟩

end Go.Proofs.YtmjiljhcjfnfpaaGreat
