/- Contracts: what is known of a class at a type, back again; of the program. (A program of ours has printed a part.) -/
import Derived.Test.YtmjiljhcjfnfpaaGreatJS16
import Derived.RegionTactic
import Derived.ChangeAlike
import Derived.BigRegion
import Derived.Laws.CopyRow
/- Contracts: what is known of a class at a type, back again; of the program. (A program of ours has printed a part.) -/
namespace Go.Proofs.YtmjiljhcjfnfpaaGreat
open Go.RowKit

/-- The class that a constructor names; none: no text. -/
def classS (s : Str) : Str := if preB 123 s && sufB 125 (s.drop 1) && conB ((s.drop 1).take (s.length - 2)) then (s.drop 1).take (s.length - 2) else []
/-- Does a type say what is known of a class at a type? -/
def dictB (t : Ty) : Bool := !(classS t.con == []) && t.args.length == 1 && t.var == 0
theorem conB_nil : conB [] = false := rfl
theorem cut_both {s : Str} (h1 : preB 123 s = true) (h2 : sufB 125 (cutP 123 s) = true) : cutQ 125 (cutP 123 s) = (s.drop 1).take (s.length - 2) := by
  have e : cutP 123 s = s.drop 1 := by unfold cutP; rw [h1]; rfl
  rw [e] at h2 ⊢
  unfold cutQ
  rw [h2, if_pos rfl]
  congr 1
  simp
  omega
theorem classS_yes {s : Str} (h1 : preB 123 s = true) (h2 : sufB 125 (cutP 123 s) = true) (h3 : conB (cutQ 125 (cutP 123 s)) = true) : classS s = cutQ 125 (cutP 123 s) ∧ (classS s == []) = false := by
  have e := cut_both h1 h2
  have e1 : cutP 123 s = s.drop 1 := by unfold cutP; rw [h1]; rfl
  have h4 := h3
  rw [e] at h3
  have hc : classS s = (s.drop 1).take (s.length - 2) := by unfold classS; rw [h1, ← e1, h2, e1, h3]; rfl
  refine ⟨hc.trans e.symm, ?_⟩
  rw [hc]
  cases hq : (s.drop 1).take (s.length - 2) with
  | nil => rw [hq] at h3; cases h3
  | cons b d => rfl
theorem classS_no1 {s : Str} (h1 : preB 123 s = false) : classS s = [] := by unfold classS; rw [h1]; rfl
theorem classS_no2 {s : Str} (h1 : preB 123 s = true) (h2 : sufB 125 (cutP 123 s) = false) : classS s = [] := by
  have e1 : cutP 123 s = s.drop 1 := by unfold cutP; rw [h1]; rfl
  unfold classS; rw [← e1, h2, h1]; rfl
theorem classS_no3 {s : Str} (h1 : preB 123 s = true) (h2 : sufB 125 (cutP 123 s) = true) (h3 : conB (cutQ 125 (cutP 123 s)) = false) : classS s = [] := by
  rw [cut_both h1 h2] at h3
  unfold classS; rw [h3, Bool.and_false]; rfl
theorem dictB_no {t : Ty} (h : classS t.con = []) : dictB t = false := by unfold dictB; rw [h]; rfl
theorem cutP_len (c : UInt8) (s : Str) : (cutP c s).length ≤ s.length := by unfold cutP; split <;> simp
theorem cutQ_len (c : UInt8) (s : Str) : (cutQ c s).length ≤ s.length := by unfold cutQ; split <;> simp
/-- What is told: the class, the type, and whether. -/
def classV (c : Str) (u : Ty) (b : Bool) : Value := .tuple #[encStr c, .agg #[encStr u.con, .int .i64 u.var, .slice u.A u.args.length u.cap], .bool b]
def argOf (t : Ty) : Ty := if dictB t then t.args.headD Ty.zero else Ty.zero
def clsOf (t : Ty) : Str := if dictB t then classS t.con else []
theorem headD_get {α : Type} {d : α} : ∀ (l : List α) (h : 0 < l.length), l.headD d = l[0]'h
  | _ :: _, _ => rfl
theorem argOf_no {t : Ty} (h : dictB t = false) : argOf t = Ty.zero := by unfold argOf; rw [h]; rfl
theorem clsOf_no {t : Ty} (h : dictB t = false) : clsOf t = [] := by unfold clsOf; rw [h]; rfl


end Go.Proofs.YtmjiljhcjfnfpaaGreat

/- Contracts: what is known of a class at a type, back again; of the reference. (A program of ours has printed a part.) -/
namespace Go.Proofs.YtmjiljhcjfnfpaaGreat
open Go.RowKit

theorem byte_ne (b c : UInt8) (n : Int) (h : n = c.toNat) : (((b.toNat : Nat) : Int) != n) = !(b == c) := by
  subst h
  rw [Bool.eq_iff_iff]
  simp only [bne_iff_ne, ne_eq, Bool.not_eq_true', beq_eq_false_iff_ne]
  constructor
  · intro h e; subst e; exact h rfl
  · intro h e; exact h (UInt8.toNat_inj.1 (by omega))
theorem classS_short {s : Str} (h : s.length < 3) : classS s = [] := by
  have : (s.drop 1).take (s.length - 2) = [] := by rw [show s.length - 2 = 0 by omega]; rfl
  unfold classS
  rw [this, conB_nil, Bool.and_false]
  rfl
theorem preB_get {c : UInt8} {s : Str} (h : 0 < s.length) : preB c s = (s[0]'h == c) := by cases s with | nil => cases h | cons b d => rfl
theorem sufB_get {c : UInt8} {s : Str} (h : 2 ≤ s.length) : sufB c (s.drop 1) = (s[s.length - 1]'(by omega) == c) := by
  have hn : s.drop 1 ≠ [] := by intro e; have := congrArg List.length e; simp at this; omega
  unfold sufB
  rw [show (s.drop 1 == []) = false from by simpa using hn, Bool.not_false, Bool.true_and]
  congr 1
  rw [List.getLastD_eq_getLast?, List.getLast?_eq_some_getLast hn, Option.getD_some, List.getLast_eq_getElem, List.getElem_drop]
  congr 1
  simp
  omega



end Go.Proofs.YtmjiljhcjfnfpaaGreat

/- Plain laws on memory: what is copied from one slice to another one, of elements of several cells. No program in sight. -/
namespace Go.Proofs.YtmjiljhcjfnfpaaGreat
theorem run_copy_k {P : Program} (w : World) (dT sT ty elem : TypeId) (k g dLen dCap : Nat) (a : Addr) (sLen sCap : Nat) (cur : Array Value) (t : TypeId) (cs : List Value) (n : Nat)
    (hu : P.underlying dT = some (.slice elem)) (hs : (P.info? elem).map (·.size) = some k)
    (hg : w.heap[g]? = some (.cells cur t (0, 0))) (hn : n = Nat.min sLen dLen) (hc : cs.length = n * k)
    (hsrc : ∀ j v, cs[j]? = some v → w.cell? (a.add j) = some v) (hfit : cs.length ≤ cur.size) (h1 : ∀ v ∈ cs, v.oneCell' = true) :
    (Builtin.copy_ #[dT, sT] ty #[.slice (some ⟨g, 0, none⟩) dLen dCap, .slice (some a) sLen sCap]).run P w =
      .ok (goInt n) (w.setRow g (cs ++ cur.toList.drop cs.length).toArray) := by
  have hl := run_loadCells_list (P := P) w a cs hsrc
  have hst := run_storeCells_at P g 0 t cs 0 cur w hg (by simpa using hfit) h1
  cases hq : P.info? elem with
  | none => simp [hq] at hs
  | some i =>
    have hi : i.size = k := by simpa [hq] using hs
    rw [hc] at hl
    simp [Builtin.copy_, run_underlying hu, Builtin.lenOf, Builtin.firstCells, sizeOf, typeInfo, hq, hi, ← hn, hl]
    rw [hst]
    simp
end Go.Proofs.YtmjiljhcjfnfpaaGreat
