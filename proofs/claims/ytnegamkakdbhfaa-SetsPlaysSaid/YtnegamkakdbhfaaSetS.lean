/- The reference's sets: with a text, without one. -/
import Derived.Test.YtnegamkakdbhfaaSetR
import Derived.WalkSpells
import Derived.WalkLawsBesides
import Derived.Deep.RegionLaw
namespace Go.Proofs.Ytnegamkakdbhfaa
open Go.RowKit Go.Sort

section
variable {P : Program} (w : World)
theorem step_append_row {ops : Array Oper} {o : Oper} {a : Act} {K : Act → World → Prop} {Q : Exit → Act → World → Prop} {E : Prop} (hgd : o.guard = none) (s x : Operand) (t : TypeId)
    (ho : o.op = .call { callee := .builtin .append, args := #[s, x], argTypes := #[t, t] })
    (base : Nat) (e : TypeId) (i : TypeInfo) (z : Value) (size bytes : Nat) (ht : P.underlying t = some (.slice e)) (hi : P.info? e = some i) (hz : i.zero = some z)
    (hsize : i.size = size) (hby : i.bytes = bytes) (hzs : z.cells.size = size) (hsz : 0 < size)
    (v : Value) (n : Nat) (xs : List Value) (hs : a.eval s = v) (hown : w.ownsRow base e size v n xs)
    (A : Option Addr) (m c : Nat) (news : List Value) (hx : a.eval x = .slice A m c) (hr : Row w A size m news) (h1 : ∀ u ∈ news, u.oneCell' = true)
    (h63 : n + m ≤ maxLen) (hbytes : (n + m) * bytes ≤ 140737488355328) (hbase : base ≤ w.heap.size)
    (h : ∀ v' w', w'.ownsRow base e size v' (n + m) (xs ++ news) → w.grownBy w' v.ownBlock → (v'.ownBlock = v.ownBlock ∨ v'.ownBlock = some w.heap.size) → K (a.put o.dst v') w') :
    if Region.wanted o (yielded ops a.tmps) = true then Oper.wp P o a w K Q else E := by
  have hw : Region.wanted o (yielded ops a.tmps) = true := by simp [Region.wanted, hgd]
  rw [if_pos hw]
  exact wp_append_row w s x t ho base e i z size bytes ht hi hz hsize hby hzs hsz v n xs hs hown A m c news hx hr h1 h63 hbytes hbase h
end

theorem str_info : (Try.prog.info? 9).map (fun i => (i.zero, i.size, i.bytes)) = some (some (.string ⟨#[]⟩), 1, 16) := by kernel_rfl

theorem Strs.takeR {w : World} {A : Option Addr} {l : List Str} (h : Strs w A l) {k : Nat} (hk : k ≤ l.length) : Row w A 1 k ((l.take k).map encStr) := by
  have := h.take hk
  unfold Strs at this
  rwa [List.length_take, Nat.min_eq_left hk] at this
theorem Strs.cutR {w : World} {A : Option Addr} {l : List Str} (h : Strs w A l) {k cap : Nat} (hk : k ≤ l.length) (hc : l.length ≤ cap) (hne : ¬ cap = k) : Row w (A.map (·.add k)) 1 (l.length - k) ((l.drop k).map encStr) := by
  have := h.cut hk hc
  unfold Strs at this
  rw [if_neg hne] at this
  rwa [List.length_drop, Nat.mul_one] at this
theorem Row.box {w : World} {b : Nat} {t : TypeId} {fr : Nat × Nat} (v : Value) (h : w.heap[b]? = some (.cells #[v] t fr)) : Row w (some ⟨b, 0, none⟩) 1 1 [v] := by
  refine ⟨rfl, fun _ => ⟨b, 0, rfl, lt_of_obj h, fun j u hu => ?_⟩⟩
  match j with
  | 0 => simp at hu; subst hu; simp [World.cell?, h]
  | j + 1 => simp at hu

theorem at_new (w : World) (o : Obj) (n : Nat) (h : n = w.heap.size) : (w.alloc o).heap[n]? = some o := by subst h; exact heap_alloc_new w o

/-- With a text. -/
def addL (l : List Str) (x : Str) : List Str := if findB l x then l else l.take (findN l x) ++ [x] ++ l.drop (findN l x)
/-- Without a text. -/
def remL (l : List Str) (x : Str) : List Str := if findB l x then l.take (findN l x) ++ l.drop (findN l x + 1) else l

set_option maxRecDepth 10000 in
set_option maxHeartbeats 4000000 in
theorem ref_add_in (A : Option Addr) (cap : Nat) (l L : List Str) (x : Str) (w : World) (N : Nat) (h : Strs w A l) (hl : l.length ≤ 1000) (hle : l.length ≤ cap) (hcap : cap ≤ 9223372036854775807) (hN : N ≤ l.length)
    (hck : ¬ cap = N) (he : L = l.take N ++ [x] ++ l.drop N) (hf : Calls Try.prog 86 #[.slice A l.length cap, encStr x] w fun e w' => e = .returned (.tuple #[.int .i64 N, .bool false]) ∧ Ext w w') :
    Calls Try.prog 60 #[.slice A l.length cap, encStr x] w fun e w' => (∃ A' cap', e = .returned (.tuple #[.slice A' L.length cap', .bool true]) ∧ L.length ≤ cap' ∧ cap' ≤ 9223372036854775807 ∧ Strs w' A' L) ∧ Ext w w' := by
  have hN1 : (N : Int) ≤ (l.length : Int) := by omega
  have hN2 : (N : Int) ≤ (cap : Int) := by omega
  have hN3 : (l.length : Int) ≤ (cap : Int) := by omega
  have hlen : L.length = l.length + 1 := by rw [he]; simp; omega
  have Hlen := hide hlen
  obtain ⟨i0, hi, hz0, hz1, hz2⟩ := info_parts str_info
  have HE := hide he
  have Hf := hide hf
  have Hcut := hide (h.cutR hN hle hck)
  have Htake := hide (h.takeR hN)
  clear h he hf hlen
  go_enter Try.func60, Try.ntmps60
  go_wp2_with fail
  refine Hf.out.mono ?_
  rintro e w1 ⟨rfl, l1, d1, rfl⟩
  go_wp2
  go_region_law (first
    | (refine step_append_row _ rfl (.const (.slice none 0 0)) (.tmp 18) 65 rfl w.heap.size 9 i0 _ 1 16 Try.underlying65 hi hz0 hz1 hz2 rfl (by decide) (.slice none 0 0) 0 [] rfl (World.ownsRow_nil _ _ _ _) A N cap ((l.take N).map encStr) rfl (Htake.out.ext (by repeat (first | exact Ext.refl _ | exact Ext.pre (by simp) | exact Ext.alloc (by assumption) _ | refine Ext.alloc ?_ _ |  refine Ext.more ?_ _ _ | refine Ext.drew ?_ | refine Ext.drewN ?_ _))) (one_strs _) (by unfold maxLen; omega) (by omega) (Ext.size (by repeat (first | exact Ext.refl _ | exact Ext.pre (by simp) | exact Ext.alloc (by assumption) _ | refine Ext.alloc ?_ _ |  refine Ext.more ?_ _ _ | refine Ext.drew ?_ | refine Ext.drewN ?_ _))) ?_
       intro v1 w2 hown1 hg1 hat1
       have He1 := hide (Ext.app (by repeat (first | exact Ext.refl _ | exact Ext.pre (by simp) | exact Ext.alloc (by assumption) _ | refine Ext.alloc ?_ _ |  refine Ext.more ?_ _ _ | refine Ext.drew ?_ | refine Ext.drewN ?_ _)) hg1 (World.ownsRow_nil _ w.heap.size 9 1) (Nat.le_refl _))
       have Hg1 := hide hg1
       rw [Nat.zero_add, List.nil_append] at hown1
       have Hown1 := hide hown1
       clear hown1 hg1 hat1)
    | (refine step_append_row _ rfl (.tmp 22) (.tmp 25) 65 rfl w.heap.size 9 i0 _ 1 16 Try.underlying65 hi hz0 hz1 hz2 rfl (by decide) v2 (N + 1) ((l.take N).map encStr ++ [encStr x]) rfl Hown2.out (A.map (·.add N)) (l.length - N) (cap - N) ((l.drop N).map encStr) rfl (Hcut.out.ext He2.out) (one_strs _) (by unfold maxLen; omega) (by omega) (by have := He2.out.size; omega) ?_
       intro v3 w4 hown3 hg3 hat3
       have He3 := hide (Ext.app He2.out hg3 Hown2.out (Nat.le_refl _))
       have Hown3 := hide hown3
       clear hown3 hg3 hat3)
    | (refine step_append_row _ rfl (.tmp 19) (.tmp 21) 65 rfl w.heap.size 9 i0 _ 1 16 Try.underlying65 hi hz0 hz1 hz2 rfl (by decide) v1 N ((l.take N).map encStr) rfl (by first | exact Hown1.out.alloc _ | exact Hown1.out) (some ⟨_, 0, none⟩) 1 1 [encStr x] rfl
         (by first | exact Row.box _ (heap_alloc_new _ _) | exact Row.box _ ((Hg1.out.block _ (by simp) (by simp [Value.ownBlock])).trans (at_new _ _ _ (by simp))))
         (by intro u hu; simp at hu; subst hu; rfl) (by unfold maxLen; omega) (by omega) (Ext.size (by first | exact He1.out.alloc _ | exact He1.out)) ?_
       intro v2 w3 hown2 hg2 hat2
       have He2 := hide (Ext.app (by first | exact He1.out.alloc _ | exact He1.out) hg2 (by first | exact Hown1.out.alloc _ | exact Hown1.out) (Nat.le_refl _))
       have Hown2 := hide hown2
       clear hown2 hg2 hat2))
  all_goals
    have h3 := Hown3.out
    rw [show N + 1 + (l.length - N) = L.length by have := Hlen.out; omega, show List.map encStr (List.take N l) ++ [encStr x] ++ List.map encStr (List.drop N l) = L.map encStr by rw [HE.out]; simp] at h3
    obtain ⟨A', cap', rfl, hc1, hc2, hs, _⟩ := Strs.of_own h3
    have Hs := hide hs
    clear h3 hs Hown3
    go_wp2
    exact bodyPost_ret (v := .tuple #[.slice A' L.length cap', .bool true]) (by simp [results, Try.results60, go_sem]) rfl ⟨⟨A', cap', rfl, hc1, hc2, Hs.out⟩, He3.out⟩


end Go.Proofs.Ytnegamkakdbhfaa
